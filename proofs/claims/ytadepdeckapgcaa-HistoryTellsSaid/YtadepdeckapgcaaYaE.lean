/- LawHistoryTells, part 5: what the proof stands on (merged by wip/shake.py out of the session's texts and of what the print wrote for this claim). -/
import Derived.Test.YtadepdeckapgcaaYaD

section
namespace Go.Proofs.Ytadepdeckapgcaa.PHi
open Go.RowKit Go.Proofs.Ytadepdeckapgcaa.Orc Go.Proofs.YtadepdeckapgcaaW.PrintWords Go.Proofs.YtadepdeckapgcaaW.PrintLast Go.Proofs.YtadepdeckapgcaaW.PrintMore
attribute [local go_sem] max2_int min2_int max_two min_two max_three min_three max_four min_four
set_option linter.unusedVariables false
set_option linter.unusedSimpArgs false
mutual
def logjamref38_Strict.l0 : Nat → List (S29) → Int → Option (Bool)
 | 0, _, _ => none
 | k + 1, x0, x3 => if x3 < (x0.length : Int) then (if 0 ≤ x3 then (if ((rd_T29 x0 x3).f0) = 2 then (if ((rd_T29 x0 x3).f2) < 1 then (logjamref38_Strict.l0 k x0 (wrap64 (x3 + 1))) else (logjamref38_Strict.l1 k x0 x3 (wrap64 (x3 + 1)) ((rd_T29 x0 x3).f0) ((rd_T29 x0 x3).f1) ((rd_T29 x0 x3).f2) ((rd_T29 x0 x3).f3) ((rd_T29 x0 x3).f4))) else (logjamref38_Strict.l0 k x0 (wrap64 (x3 + 1)))) else (none)) else (some true)
def logjamref38_Strict.l1 : Nat → List (S29) → Int → Int → Int → Int → Int → Int → Int → Option (Bool)
 | 0, _, _, _, _, _, _, _, _ => none
 | k + 1, x0, x3, x5, x192000, x192001, x192002, x192003, x192004 => if x5 < (x0.length : Int) then (if 0 ≤ x5 then (if ((rd_T29 x0 x5).f2) = x192002 then (if ((rd_T29 x0 x5).f0) = 3 then (logjamref38_Strict.l0 k x0 (wrap64 (x3 + 1))) else (if ((rd_T29 x0 x5).f0) = 4 then (logjamref38_Strict.l0 k x0 (wrap64 (x3 + 1))) else ((logjamref38_access.f ((rd_T29 x0 x5).f0) ((rd_T29 x0 x5).f1) ((rd_T29 x0 x5).f2) ((rd_T29 x0 x5).f3) ((rd_T29 x0 x5).f4)).bind fun t194 => (if t194 = true then (if ((rd_T29 x0 x5).f3) = x192003 then (logjamref38_Strict.l1 k x0 x3 (wrap64 (x5 + 1)) x192000 x192001 x192002 x192003 x192004) else (logjamref38_Strict.l1 k x0 x3 (wrap64 (x5 + 1)) x192000 x192001 x192002 x192003 x192004)) else (logjamref38_Strict.l1 k x0 x3 (wrap64 (x5 + 1)) x192000 x192001 x192002 x192003 x192004))))) else ((logjamref38_access.f ((rd_T29 x0 x5).f0) ((rd_T29 x0 x5).f1) ((rd_T29 x0 x5).f2) ((rd_T29 x0 x5).f3) ((rd_T29 x0 x5).f4)).bind fun t195 => (if t195 = true then (if ((rd_T29 x0 x5).f3) = x192003 then (some false) else (logjamref38_Strict.l1 k x0 x3 (wrap64 (x5 + 1)) x192000 x192001 x192002 x192003 x192004)) else (logjamref38_Strict.l1 k x0 x3 (wrap64 (x5 + 1)) x192000 x192001 x192002 x192003 x192004)))) else (none)) else (logjamref38_Strict.l0 k x0 (wrap64 (x3 + 1)))
end
def logjamref38_Strict.f (k : Nat) (l0 : List (S29)) : Option (Bool) := logjamref38_Strict.l0 k l0 0
set_option maxHeartbeats 8000000 in
set_option maxRecDepth 100000 in
theorem logjamref38_Strict.calls (k : Nat) (A0 : Option Addr) (c0 : Nat) (l0 : List (S29)) (r : Bool) (w : World) (hr0 : Kd.C k29 w A0 l0.length l0) (hc0 : l0.length ≤ c0) (h : logjamref38_Strict.f k l0 = some r) :
  Calls Try.prog 15 #[.slice A0 l0.length c0] w fun e w' => e = .returned (.bool r) ∧ Below w.heap.size w w' := by
 have hu29 := Try.underlying29
 have HR0 := Aside0.mk hr0
 have HC0 := Aside0.mk hc0
 clear hr0 hc0
 have HB := Aside0.mk (Below.refl w.heap.size w)
 have H : (logjamref38_Strict.l0 k l0 0) = some r := h
 clear h
 have H' := Aside0.mk H
 clear H
 go_enter Try.func15, Try.ntmps15
 go_wp2
 go_loopg [3] k (fun kq v3 w' => ∃ (x3_1 : Int), v3 = .int .i64 x3_1 ∧ Aside0 (logjamref38_Strict.l0 kq l0 x3_1 = some r) ∧ Aside0 (kq ≤ k) ∧ Aside0 (Below w.heap.size w w'))
 case atStart => exact ⟨(0), (by first | rfl | (simp; done) | (simp only [emptyNe_, emptyEq_]; done) | (simp [*]; done)), H', ⟨Nat.le_refl _⟩, ⟨by repeat (first | (with_reducible first | exact HB.out | apply below_alloc | apply pw_below_drewN | apply below_drew1) | exact HB.out)⟩⟩
 case round =>
  clear H'; try clear c1
  obtain ⟨x3_1, rfl, HA, HK1, HB⟩ := hrel
  cases gk with
  | zero => exact absurd HA.out (by simp [logjamref38_Strict.l0])
  | succ k1 =>
   have H := HA.out
   clear HA
   simp only [logjamref38_Strict.l0] at H
   by_cases c2 : x3_1 < (l0.length : Int)
   ·rw [if_pos c2] at H
    have c2b0 : decide (x3_1 < (l0.length : Int)) = true := decide_eq_true c2
    clear c2
    by_cases c3 : 0 ≤ x3_1
    ·rw [if_pos c3] at H
     have c3b0 : decide (0 ≤ x3_1) = true := decide_eq_true c3
     clear c3
     by_cases c4 : ((rd_T29 l0 x3_1).f0) = 2
     ·rw [if_pos c4] at H
      have c4b0 : (((rd_T29 l0 x3_1).f0) == 2) = true := beq_iff_eq.mpr c4
      have c4b1 : (((rd_T29 l0 x3_1).f0) != 2) = false := bne_eq_false_iff_eq.mpr c4
      clear c4
      by_cases c5 : ((rd_T29 l0 x3_1).f2) < 1
      ·rw [if_pos c5] at H
       have c5b0 : decide (((rd_T29 l0 x3_1).f2) < 1) = true := decide_eq_true c5
       clear c5
       have H' := Aside0.mk H
       clear H
       have p190 : 0 ≤ (x3_1 : Int) := of_decide_eq_true (by first | (with_reducible assumption) | assumption)
       have q190 : x3_1 < (l0.length : Int) := of_decide_eq_true (by first | (with_reducible assumption) | assumption)
       obtain ⟨ad190, e190, hx190_0, hx190_1, hx190_2, hx190_3, hx190_4⟩ := at_T29 HR0.out x3_1 p190 q190
       cases e190
       replace hx190_0 := (HB.out.cell (World.block_lt_of_cell? w _ hx190_0)).trans hx190_0
       replace hx190_1 := (HB.out.cell (World.block_lt_of_cell? w _ hx190_1)).trans hx190_1
       replace hx190_2 := (HB.out.cell (World.block_lt_of_cell? w _ hx190_2)).trans hx190_2
       replace hx190_3 := (HB.out.cell (World.block_lt_of_cell? w _ hx190_3)).trans hx190_3
       replace hx190_4 := (HB.out.cell (World.block_lt_of_cell? w _ hx190_4)).trans hx190_4
       replace p190 := eq_true p190
       replace q190 := eq_true q190
       go_wp2_with (first | ((with_reducible refine gate_dst (N := 4) rfl ?_); refine box_event ?hg (N := 4) ?hd (cs := #[.int .i64 0, .int .i64 0, .int .i64 0, .int .i64 0, .int .i64 0]) (t := 29) ?hr ?_; (case hd => rfl); (case hg => rfl); (case hr => first | (go_simp; done) | (go_simp; rfl)); intro gb191 hg w6 hbox hb; have n0_ := Aside0.mk (below_step (by repeat (first | (with_reducible first | exact HB.out | apply below_alloc | apply pw_below_drewN | apply below_drew1) | exact HB.out)) hb); have n1_ := Aside0.mk (hbox); have n2_ := Aside0.mk ((by rw [hg]; exact (below_size (by repeat (first | (with_reducible first | exact HB.out | apply below_alloc | apply pw_below_drewN | apply below_drew1) | exact HB.out))) : w.heap.size ≤ gb191)); have n3_ := Aside0.mk ((by rw [hg]; exact (below_size (by repeat (first | (with_reducible first | exact HB.out | apply below_alloc | apply pw_below_drewN | apply below_drew1) | exact HB.out))) : w.heap.size ≤ gb191)); clear HB; have HB := n0_; have BK191 := n1_; have GW191 := n2_; have GE191 := n3_; clear n0_ n1_ n2_ n3_; clear hb hbox hg; have hcz7_0 : w6.cell? ⟨gb191, 0, none⟩ = some (.int .i64 0) := (blk_cell BK191.out 0).trans rfl; have hcz7_1 : w6.cell? ⟨gb191, 1, none⟩ = some (.int .i64 0) := (blk_cell BK191.out 1).trans rfl; have hcz7_2 : w6.cell? ⟨gb191, 2, none⟩ = some (.int .i64 0) := (blk_cell BK191.out 2).trans rfl; have hcz7_3 : w6.cell? ⟨gb191, 3, none⟩ = some (.int .i64 0) := (blk_cell BK191.out 3).trans rfl; have hcz7_4 : w6.cell? ⟨gb191, 4, none⟩ = some (.int .i64 0) := (blk_cell BK191.out 4).trans rfl; have hfz7_0 := blk_frozen BK191.out 0; have hfz7_1 := blk_frozen BK191.out 1; have hfz7_2 := blk_frozen BK191.out 2; have hfz7_3 := blk_frozen BK191.out 3; have hfz7_4 := blk_frozen BK191.out 4))
       go_roundg k1
       case measure => have := HK1.out; omega
       case rel => exact ⟨(wrap64 (x3_1 + 1)), (by first | rfl | (simp; done) | (simp only [emptyNe_, emptyEq_]; done) | (simp [*]; done)), H', ⟨by have := HK1.out; omega⟩, ⟨by repeat (first | (with_reducible first | exact HB.out | apply below_alloc | apply pw_below_drewN | apply below_drew1 | refine below_set ?_ GE191.out) | exact HB.out)⟩⟩
      ·rw [if_neg c5] at H
       have c5b0 : decide (((rd_T29 l0 x3_1).f2) < 1) = false := decide_eq_false c5
       clear c5
       have H' := Aside0.mk H
       clear H
       have p190 : 0 ≤ (x3_1 : Int) := of_decide_eq_true (by first | (with_reducible assumption) | assumption)
       have q190 : x3_1 < (l0.length : Int) := of_decide_eq_true (by first | (with_reducible assumption) | assumption)
       obtain ⟨ad190, e190, hx190_0, hx190_1, hx190_2, hx190_3, hx190_4⟩ := at_T29 HR0.out x3_1 p190 q190
       cases e190
       replace hx190_0 := (HB.out.cell (World.block_lt_of_cell? w _ hx190_0)).trans hx190_0
       replace hx190_1 := (HB.out.cell (World.block_lt_of_cell? w _ hx190_1)).trans hx190_1
       replace hx190_2 := (HB.out.cell (World.block_lt_of_cell? w _ hx190_2)).trans hx190_2
       replace hx190_3 := (HB.out.cell (World.block_lt_of_cell? w _ hx190_3)).trans hx190_3
       replace hx190_4 := (HB.out.cell (World.block_lt_of_cell? w _ hx190_4)).trans hx190_4
       replace p190 := eq_true p190
       replace q190 := eq_true q190
       go_wp2_with (first | ((with_reducible refine gate_dst (N := 4) rfl ?_); refine box_event ?hg (N := 4) ?hd (cs := #[.int .i64 0, .int .i64 0, .int .i64 0, .int .i64 0, .int .i64 0]) (t := 29) ?hr ?_; (case hd => rfl); (case hg => rfl); (case hr => first | (go_simp; done) | (go_simp; rfl)); intro gb191 hg w8 hbox hb; have n0_ := Aside0.mk (below_step (by repeat (first | (with_reducible first | exact HB.out | apply below_alloc | apply pw_below_drewN | apply below_drew1) | exact HB.out)) hb); have n1_ := Aside0.mk (hbox); have n2_ := Aside0.mk ((by rw [hg]; exact (below_size (by repeat (first | (with_reducible first | exact HB.out | apply below_alloc | apply pw_below_drewN | apply below_drew1) | exact HB.out))) : w.heap.size ≤ gb191)); have n3_ := Aside0.mk ((by rw [hg]; exact (below_size (by repeat (first | (with_reducible first | exact HB.out | apply below_alloc | apply pw_below_drewN | apply below_drew1) | exact HB.out))) : w.heap.size ≤ gb191)); clear HB; have HB := n0_; have BK191 := n1_; have GW191 := n2_; have GE191 := n3_; clear n0_ n1_ n2_ n3_; clear hb hbox hg; have hcz9_0 : w8.cell? ⟨gb191, 0, none⟩ = some (.int .i64 0) := (blk_cell BK191.out 0).trans rfl; have hcz9_1 : w8.cell? ⟨gb191, 1, none⟩ = some (.int .i64 0) := (blk_cell BK191.out 1).trans rfl; have hcz9_2 : w8.cell? ⟨gb191, 2, none⟩ = some (.int .i64 0) := (blk_cell BK191.out 2).trans rfl; have hcz9_3 : w8.cell? ⟨gb191, 3, none⟩ = some (.int .i64 0) := (blk_cell BK191.out 3).trans rfl; have hcz9_4 : w8.cell? ⟨gb191, 4, none⟩ = some (.int .i64 0) := (blk_cell BK191.out 4).trans rfl; have hfz9_0 := blk_frozen BK191.out 0; have hfz9_1 := blk_frozen BK191.out 1; have hfz9_2 := blk_frozen BK191.out 2; have hfz9_3 := blk_frozen BK191.out 3; have hfz9_4 := blk_frozen BK191.out 4))
       go_loopg [5] k1 (fun kq v5 w' => ∃ (x5_2 : Int), v5 = .int .i64 x5_2 ∧ Aside0 (logjamref38_Strict.l1 kq l0 x3_1 x5_2 ((rd_T29 l0 x3_1).f0) ((rd_T29 l0 x3_1).f1) ((rd_T29 l0 x3_1).f2) ((rd_T29 l0 x3_1).f3) ((rd_T29 l0 x3_1).f4) = some r) ∧ Aside0 (kq ≤ k1) ∧ Aside0 (w'.heap[gb191]? = some (.cells #[.int .i64 ((rd_T29 l0 x3_1).f0), .int .i64 ((rd_T29 l0 x3_1).f1), .int .i64 ((rd_T29 l0 x3_1).f2), .int .i64 ((rd_T29 l0 x3_1).f3), .int .i64 ((rd_T29 l0 x3_1).f4)] 29 (0, 0))) ∧ Aside0 (Below w.heap.size w w'))
       case atStart => exact ⟨(wrap64 (x3_1 + 1)), (by first | rfl | (simp; done) | (simp only [emptyNe_, emptyEq_]; done) | (simp [*]; done)), H', ⟨Nat.le_refl _⟩, ⟨by (with_reducible repeat (first | refine blk_drewN ?_ _ | refine blk_drew ?_ | refine blk_alloc ?_ _)); refine blk_put (cs := #[.int .i64 ((rd_T29 l0 x3_1).f0), .int .i64 ((rd_T29 l0 x3_1).f1), .int .i64 ((rd_T29 l0 x3_1).f2), .int .i64 ((rd_T29 l0 x3_1).f3), .int .i64 0]) ?_ 4 _ rfl; (with_reducible repeat (first | refine blk_drewN ?_ _ | refine blk_drew ?_ | refine blk_alloc ?_ _)); refine blk_put (cs := #[.int .i64 ((rd_T29 l0 x3_1).f0), .int .i64 ((rd_T29 l0 x3_1).f1), .int .i64 ((rd_T29 l0 x3_1).f2), .int .i64 0, .int .i64 0]) ?_ 3 _ rfl; (with_reducible repeat (first | refine blk_drewN ?_ _ | refine blk_drew ?_ | refine blk_alloc ?_ _)); refine blk_put (cs := #[.int .i64 ((rd_T29 l0 x3_1).f0), .int .i64 ((rd_T29 l0 x3_1).f1), .int .i64 0, .int .i64 0, .int .i64 0]) ?_ 2 _ rfl; (with_reducible repeat (first | refine blk_drewN ?_ _ | refine blk_drew ?_ | refine blk_alloc ?_ _)); refine blk_put (cs := #[.int .i64 ((rd_T29 l0 x3_1).f0), .int .i64 0, .int .i64 0, .int .i64 0, .int .i64 0]) ?_ 1 _ rfl; (with_reducible repeat (first | refine blk_drewN ?_ _ | refine blk_drew ?_ | refine blk_alloc ?_ _)); refine blk_put (cs := #[.int .i64 0, .int .i64 0, .int .i64 0, .int .i64 0, .int .i64 0]) ?_ 0 _ rfl; (with_reducible repeat (first | refine blk_drewN ?_ _ | refine blk_drew ?_ | refine blk_alloc ?_ _)); exact BK191.out⟩, ⟨by repeat (first | (with_reducible first | exact HB.out | apply below_alloc | apply pw_below_drewN | apply below_drew1 | refine below_set ?_ GE191.out) | exact HB.out)⟩⟩
       case round =>
        clear H'; try clear c1; try clear p1; try clear q1; try clear hx1; try clear c2; try clear c2b0; try clear p2; try clear c3; try clear c3b0; try clear c4; try clear c4b0; try clear c4b1; try clear c5; try clear c5b0; try clear p6; try clear hcz7_0; try clear hcz7_1; try clear hcz7_2; try clear hcz7_3; try clear hcz7_4; try clear hcz9_0; try clear hcz9_1; try clear hcz9_2; try clear hcz9_3; try clear hcz9_4; try clear hfz7_0; try clear hfz7_1; try clear hfz7_2; try clear hfz7_3; try clear hfz7_4; try clear hfz9_0; try clear hfz9_1; try clear hfz9_2; try clear hfz9_3; try clear hfz9_4; try clear hx190_0; try clear hx190_1; try clear hx190_2; try clear hx190_3; try clear hx190_4; try clear p190; try clear q190
        obtain ⟨x5_2, rfl, HA, HK2, BK191, HB⟩ := hrel
        cases gk with
        | zero => exact absurd HA.out (by simp [logjamref38_Strict.l1])
        | succ k2 =>
         have H := HA.out
         clear HA
         simp only [logjamref38_Strict.l1] at H
         by_cases c10 : x5_2 < (l0.length : Int)
         ·rw [if_pos c10] at H
          have c10b0 : decide (x5_2 < (l0.length : Int)) = true := decide_eq_true c10
          clear c10
          by_cases c11 : 0 ≤ x5_2
          ·rw [if_pos c11] at H
           have c11b0 : decide (0 ≤ x5_2) = true := decide_eq_true c11
           clear c11
           by_cases c12 : ((rd_T29 l0 x5_2).f2) = ((rd_T29 l0 x3_1).f2)
           ·rw [if_pos c12] at H
            have c12b0 : (((rd_T29 l0 x5_2).f2) == ((rd_T29 l0 x3_1).f2)) = true := beq_iff_eq.mpr c12
            have c12b1 : (((rd_T29 l0 x5_2).f2) != ((rd_T29 l0 x3_1).f2)) = false := bne_eq_false_iff_eq.mpr c12
            clear c12
            by_cases c13 : ((rd_T29 l0 x5_2).f0) = 3
            ·rw [if_pos c13] at H
             have c13b0 : (((rd_T29 l0 x5_2).f0) == 3) = true := beq_iff_eq.mpr c13
             have c13b1 : (((rd_T29 l0 x5_2).f0) != 3) = false := bne_eq_false_iff_eq.mpr c13
             clear c13
             have H' := Aside0.mk H
             clear H
             have p192 : 0 ≤ (x5_2 : Int) := of_decide_eq_true (by first | (with_reducible assumption) | assumption)
             have q192 : x5_2 < (l0.length : Int) := of_decide_eq_true (by first | (with_reducible assumption) | assumption)
             obtain ⟨ad192, e192, hx192_0, hx192_1, hx192_2, hx192_3, hx192_4⟩ := at_T29 HR0.out x5_2 p192 q192
             obtain rfl : ad190 = ad192 := (by injection e192)
             replace hx192_0 := (HB.out.cell (World.block_lt_of_cell? w _ hx192_0)).trans hx192_0
             replace hx192_1 := (HB.out.cell (World.block_lt_of_cell? w _ hx192_1)).trans hx192_1
             replace hx192_2 := (HB.out.cell (World.block_lt_of_cell? w _ hx192_2)).trans hx192_2
             replace hx192_3 := (HB.out.cell (World.block_lt_of_cell? w _ hx192_3)).trans hx192_3
             replace hx192_4 := (HB.out.cell (World.block_lt_of_cell? w _ hx192_4)).trans hx192_4
             replace p192 := eq_true p192
             replace q192 := eq_true q192
             go_wp2_with (first | ((with_reducible refine gate_dst (N := 6) rfl ?_); refine box_event ?hg (N := 6) ?hd (cs := #[.int .i64 0, .int .i64 0, .int .i64 0, .int .i64 0, .int .i64 0]) (t := 29) ?hr ?_; (case hd => rfl); (case hg => rfl); (case hr => first | (go_simp; done) | (go_simp; rfl)); intro gb193 hg w14 hbox hb; have n0_ := Aside0.mk (blk_below (g := gb191) (o := .cells #[.int .i64 ((rd_T29 l0 x3_1).f0), .int .i64 ((rd_T29 l0 x3_1).f1), .int .i64 ((rd_T29 l0 x3_1).f2), .int .i64 ((rd_T29 l0 x3_1).f3), .int .i64 ((rd_T29 l0 x3_1).f4)] 29 (0, 0)) (by (with_reducible repeat (first | refine blk_drewN ?_ _ | refine blk_drew ?_ | refine blk_alloc ?_ _)); exact BK191.out) hb); have n1_ := Aside0.mk (below_step (by repeat (first | (with_reducible first | exact HB.out | apply below_alloc | apply pw_below_drewN | apply below_drew1 | refine below_set ?_ GE191.out) | exact HB.out)) hb); have n2_ := Aside0.mk (hbox); have n3_ := Aside0.mk ((by rw [hg]; exact (below_size (by repeat (first | (with_reducible first | exact HB.out | apply below_alloc | apply pw_below_drewN | apply below_drew1 | refine below_set ?_ GE191.out) | exact HB.out))) : w.heap.size ≤ gb193)); have n4_ := Aside0.mk ((by rw [hg]; exact (below_size (by repeat (first | (with_reducible first | exact HB.out | apply below_alloc | apply pw_below_drewN | apply below_drew1 | refine below_set ?_ GE191.out) | exact HB.out))) : w.heap.size ≤ gb193)); have n5_ := Aside0.mk ((by rw [hg]; exact Nat.ne_of_lt (blk_lt (g := gb191) (o := .cells #[.int .i64 ((rd_T29 l0 x3_1).f0), .int .i64 ((rd_T29 l0 x3_1).f1), .int .i64 ((rd_T29 l0 x3_1).f2), .int .i64 ((rd_T29 l0 x3_1).f3), .int .i64 ((rd_T29 l0 x3_1).f4)] 29 (0, 0)) (by (with_reducible repeat (first | refine blk_drewN ?_ _ | refine blk_drew ?_ | refine blk_alloc ?_ _)); exact BK191.out)) : gb191 ≠ gb193)); have n6_ := Aside0.mk ((by rw [hg]; exact Nat.ne_of_gt (blk_lt (g := gb191) (o := .cells #[.int .i64 ((rd_T29 l0 x3_1).f0), .int .i64 ((rd_T29 l0 x3_1).f1), .int .i64 ((rd_T29 l0 x3_1).f2), .int .i64 ((rd_T29 l0 x3_1).f3), .int .i64 ((rd_T29 l0 x3_1).f4)] 29 (0, 0)) (by (with_reducible repeat (first | refine blk_drewN ?_ _ | refine blk_drew ?_ | refine blk_alloc ?_ _)); exact BK191.out)) : gb193 ≠ gb191)); clear BK191; clear HB; have BK191 := n0_; have HB := n1_; have BK193 := n2_; have GW193 := n3_; have GE193 := n4_; have NB191_193 := n5_; have NB193_191 := n6_; clear n0_ n1_ n2_ n3_ n4_ n5_ n6_; clear hb hbox hg; have hnb15 := NB193_191.out; have hnc15 := NB191_193.out; have hcz16_0 : w14.cell? ⟨gb193, 0, none⟩ = some (.int .i64 0) := (blk_cell BK193.out 0).trans rfl; have hcz16_1 : w14.cell? ⟨gb193, 1, none⟩ = some (.int .i64 0) := (blk_cell BK193.out 1).trans rfl; have hcz16_2 : w14.cell? ⟨gb193, 2, none⟩ = some (.int .i64 0) := (blk_cell BK193.out 2).trans rfl; have hcz16_3 : w14.cell? ⟨gb193, 3, none⟩ = some (.int .i64 0) := (blk_cell BK193.out 3).trans rfl; have hcz16_4 : w14.cell? ⟨gb193, 4, none⟩ = some (.int .i64 0) := (blk_cell BK193.out 4).trans rfl; have hfz16_0 := blk_frozen BK193.out 0; have hfz16_1 := blk_frozen BK193.out 1; have hfz16_2 := blk_frozen BK193.out 2; have hfz16_3 := blk_frozen BK193.out 3; have hfz16_4 := blk_frozen BK193.out 4; have hcz17_0 : w14.cell? ⟨gb191, 0, none⟩ = some (.int .i64 ((rd_T29 l0 x3_1).f0)) := (blk_cell BK191.out 0).trans rfl; have hcz17_1 : w14.cell? ⟨gb191, 1, none⟩ = some (.int .i64 ((rd_T29 l0 x3_1).f1)) := (blk_cell BK191.out 1).trans rfl; have hcz17_2 : w14.cell? ⟨gb191, 2, none⟩ = some (.int .i64 ((rd_T29 l0 x3_1).f2)) := (blk_cell BK191.out 2).trans rfl; have hcz17_3 : w14.cell? ⟨gb191, 3, none⟩ = some (.int .i64 ((rd_T29 l0 x3_1).f3)) := (blk_cell BK191.out 3).trans rfl; have hcz17_4 : w14.cell? ⟨gb191, 4, none⟩ = some (.int .i64 ((rd_T29 l0 x3_1).f4)) := (blk_cell BK191.out 4).trans rfl; have hfz17_0 := blk_frozen BK191.out 0; have hfz17_1 := blk_frozen BK191.out 1; have hfz17_2 := blk_frozen BK191.out 2; have hfz17_3 := blk_frozen BK191.out 3; have hfz17_4 := blk_frozen BK191.out 4))
             go_roundg k2
             case measure => have := HK1.out; have := HK2.out; omega
             case rel => exact ⟨(wrap64 (x3_1 + 1)), (by first | rfl | (simp; done) | (simp only [emptyNe_, emptyEq_]; done) | (simp [*]; done)), H', ⟨by have := HK1.out; have := HK2.out; omega⟩, ⟨by repeat (first | (with_reducible first | exact HB.out | apply below_alloc | apply pw_below_drewN | apply below_drew1 | refine below_set ?_ GE191.out | refine below_set ?_ GE193.out) | exact HB.out)⟩⟩
            ·rw [if_neg c13] at H
             have c13b0 : (((rd_T29 l0 x5_2).f0) == 3) = false := beq_eq_false_iff_ne.mpr c13
             have c13b1 : (((rd_T29 l0 x5_2).f0) != 3) = true := bne_iff_ne.mpr c13
             by_cases c18 : ((rd_T29 l0 x5_2).f0) = 4
             ·rw [if_pos c18] at H
              have c18b0 : (((rd_T29 l0 x5_2).f0) == 4) = true := beq_iff_eq.mpr c18
              have c18b1 : (((rd_T29 l0 x5_2).f0) != 4) = false := bne_eq_false_iff_eq.mpr c18
              clear c18
              have H' := Aside0.mk H
              clear H
              have p192 : 0 ≤ (x5_2 : Int) := of_decide_eq_true (by first | (with_reducible assumption) | assumption)
              have q192 : x5_2 < (l0.length : Int) := of_decide_eq_true (by first | (with_reducible assumption) | assumption)
              obtain ⟨ad192, e192, hx192_0, hx192_1, hx192_2, hx192_3, hx192_4⟩ := at_T29 HR0.out x5_2 p192 q192
              obtain rfl : ad190 = ad192 := (by injection e192)
              replace hx192_0 := (HB.out.cell (World.block_lt_of_cell? w _ hx192_0)).trans hx192_0
              replace hx192_1 := (HB.out.cell (World.block_lt_of_cell? w _ hx192_1)).trans hx192_1
              replace hx192_2 := (HB.out.cell (World.block_lt_of_cell? w _ hx192_2)).trans hx192_2
              replace hx192_3 := (HB.out.cell (World.block_lt_of_cell? w _ hx192_3)).trans hx192_3
              replace hx192_4 := (HB.out.cell (World.block_lt_of_cell? w _ hx192_4)).trans hx192_4
              replace p192 := eq_true p192
              replace q192 := eq_true q192
              go_wp2_with (first | ((with_reducible refine gate_dst (N := 6) rfl ?_); refine box_event ?hg (N := 6) ?hd (cs := #[.int .i64 0, .int .i64 0, .int .i64 0, .int .i64 0, .int .i64 0]) (t := 29) ?hr ?_; (case hd => rfl); (case hg => rfl); (case hr => first | (go_simp; done) | (go_simp; rfl)); intro gb193 hg w19 hbox hb; have n0_ := Aside0.mk (blk_below (g := gb191) (o := .cells #[.int .i64 ((rd_T29 l0 x3_1).f0), .int .i64 ((rd_T29 l0 x3_1).f1), .int .i64 ((rd_T29 l0 x3_1).f2), .int .i64 ((rd_T29 l0 x3_1).f3), .int .i64 ((rd_T29 l0 x3_1).f4)] 29 (0, 0)) (by (with_reducible repeat (first | refine blk_drewN ?_ _ | refine blk_drew ?_ | refine blk_alloc ?_ _)); exact BK191.out) hb); have n1_ := Aside0.mk (below_step (by repeat (first | (with_reducible first | exact HB.out | apply below_alloc | apply pw_below_drewN | apply below_drew1 | refine below_set ?_ GE191.out) | exact HB.out)) hb); have n2_ := Aside0.mk (hbox); have n3_ := Aside0.mk ((by rw [hg]; exact (below_size (by repeat (first | (with_reducible first | exact HB.out | apply below_alloc | apply pw_below_drewN | apply below_drew1 | refine below_set ?_ GE191.out) | exact HB.out))) : w.heap.size ≤ gb193)); have n4_ := Aside0.mk ((by rw [hg]; exact (below_size (by repeat (first | (with_reducible first | exact HB.out | apply below_alloc | apply pw_below_drewN | apply below_drew1 | refine below_set ?_ GE191.out) | exact HB.out))) : w.heap.size ≤ gb193)); have n5_ := Aside0.mk ((by rw [hg]; exact Nat.ne_of_lt (blk_lt (g := gb191) (o := .cells #[.int .i64 ((rd_T29 l0 x3_1).f0), .int .i64 ((rd_T29 l0 x3_1).f1), .int .i64 ((rd_T29 l0 x3_1).f2), .int .i64 ((rd_T29 l0 x3_1).f3), .int .i64 ((rd_T29 l0 x3_1).f4)] 29 (0, 0)) (by (with_reducible repeat (first | refine blk_drewN ?_ _ | refine blk_drew ?_ | refine blk_alloc ?_ _)); exact BK191.out)) : gb191 ≠ gb193)); have n6_ := Aside0.mk ((by rw [hg]; exact Nat.ne_of_gt (blk_lt (g := gb191) (o := .cells #[.int .i64 ((rd_T29 l0 x3_1).f0), .int .i64 ((rd_T29 l0 x3_1).f1), .int .i64 ((rd_T29 l0 x3_1).f2), .int .i64 ((rd_T29 l0 x3_1).f3), .int .i64 ((rd_T29 l0 x3_1).f4)] 29 (0, 0)) (by (with_reducible repeat (first | refine blk_drewN ?_ _ | refine blk_drew ?_ | refine blk_alloc ?_ _)); exact BK191.out)) : gb193 ≠ gb191)); clear BK191; clear HB; have BK191 := n0_; have HB := n1_; have BK193 := n2_; have GW193 := n3_; have GE193 := n4_; have NB191_193 := n5_; have NB193_191 := n6_; clear n0_ n1_ n2_ n3_ n4_ n5_ n6_; clear hb hbox hg; have hnb20 := NB193_191.out; have hnc20 := NB191_193.out; have hcz21_0 : w19.cell? ⟨gb193, 0, none⟩ = some (.int .i64 0) := (blk_cell BK193.out 0).trans rfl; have hcz21_1 : w19.cell? ⟨gb193, 1, none⟩ = some (.int .i64 0) := (blk_cell BK193.out 1).trans rfl; have hcz21_2 : w19.cell? ⟨gb193, 2, none⟩ = some (.int .i64 0) := (blk_cell BK193.out 2).trans rfl; have hcz21_3 : w19.cell? ⟨gb193, 3, none⟩ = some (.int .i64 0) := (blk_cell BK193.out 3).trans rfl; have hcz21_4 : w19.cell? ⟨gb193, 4, none⟩ = some (.int .i64 0) := (blk_cell BK193.out 4).trans rfl; have hfz21_0 := blk_frozen BK193.out 0; have hfz21_1 := blk_frozen BK193.out 1; have hfz21_2 := blk_frozen BK193.out 2; have hfz21_3 := blk_frozen BK193.out 3; have hfz21_4 := blk_frozen BK193.out 4; have hcz22_0 : w19.cell? ⟨gb191, 0, none⟩ = some (.int .i64 ((rd_T29 l0 x3_1).f0)) := (blk_cell BK191.out 0).trans rfl; have hcz22_1 : w19.cell? ⟨gb191, 1, none⟩ = some (.int .i64 ((rd_T29 l0 x3_1).f1)) := (blk_cell BK191.out 1).trans rfl; have hcz22_2 : w19.cell? ⟨gb191, 2, none⟩ = some (.int .i64 ((rd_T29 l0 x3_1).f2)) := (blk_cell BK191.out 2).trans rfl; have hcz22_3 : w19.cell? ⟨gb191, 3, none⟩ = some (.int .i64 ((rd_T29 l0 x3_1).f3)) := (blk_cell BK191.out 3).trans rfl; have hcz22_4 : w19.cell? ⟨gb191, 4, none⟩ = some (.int .i64 ((rd_T29 l0 x3_1).f4)) := (blk_cell BK191.out 4).trans rfl; have hfz22_0 := blk_frozen BK191.out 0; have hfz22_1 := blk_frozen BK191.out 1; have hfz22_2 := blk_frozen BK191.out 2; have hfz22_3 := blk_frozen BK191.out 3; have hfz22_4 := blk_frozen BK191.out 4))
              go_roundg k2
              case measure => have := HK1.out; have := HK2.out; omega
              case rel => exact ⟨(wrap64 (x3_1 + 1)), (by first | rfl | (simp; done) | (simp only [emptyNe_, emptyEq_]; done) | (simp [*]; done)), H', ⟨by have := HK1.out; have := HK2.out; omega⟩, ⟨by repeat (first | (with_reducible first | exact HB.out | apply below_alloc | apply pw_below_drewN | apply below_drew1 | refine below_set ?_ GE191.out | refine below_set ?_ GE193.out) | exact HB.out)⟩⟩
             ·rw [if_neg c18] at H
              have c18b0 : (((rd_T29 l0 x5_2).f0) == 4) = false := beq_eq_false_iff_ne.mpr c18
              have c18b1 : (((rd_T29 l0 x5_2).f0) != 4) = true := bne_iff_ne.mpr c18
              replace H := Option.bind_eq_some_iff.mp H
              obtain ⟨t194, A230, H⟩ := H
              replace H : (if t194 = true then (if ((rd_T29 l0 x5_2).f3) = ((rd_T29 l0 x3_1).f3) then (logjamref38_Strict.l1 k2 l0 x3_1 (wrap64 (x5_2 + 1)) ((rd_T29 l0 x3_1).f0) ((rd_T29 l0 x3_1).f1) ((rd_T29 l0 x3_1).f2) ((rd_T29 l0 x3_1).f3) ((rd_T29 l0 x3_1).f4)) else (logjamref38_Strict.l1 k2 l0 x3_1 (wrap64 (x5_2 + 1)) ((rd_T29 l0 x3_1).f0) ((rd_T29 l0 x3_1).f1) ((rd_T29 l0 x3_1).f2) ((rd_T29 l0 x3_1).f3) ((rd_T29 l0 x3_1).f4))) else (logjamref38_Strict.l1 k2 l0 x3_1 (wrap64 (x5_2 + 1)) ((rd_T29 l0 x3_1).f0) ((rd_T29 l0 x3_1).f1) ((rd_T29 l0 x3_1).f2) ((rd_T29 l0 x3_1).f3) ((rd_T29 l0 x3_1).f4))) = some r := H
              have A23 := Aside0.mk A230
              clear A230
              by_cases c24 : t194 = true
              ·subst c24
               have H1 : (if ((rd_T29 l0 x5_2).f3) = ((rd_T29 l0 x3_1).f3) then (logjamref38_Strict.l1 k2 l0 x3_1 (wrap64 (x5_2 + 1)) ((rd_T29 l0 x3_1).f0) ((rd_T29 l0 x3_1).f1) ((rd_T29 l0 x3_1).f2) ((rd_T29 l0 x3_1).f3) ((rd_T29 l0 x3_1).f4)) else (logjamref38_Strict.l1 k2 l0 x3_1 (wrap64 (x5_2 + 1)) ((rd_T29 l0 x3_1).f0) ((rd_T29 l0 x3_1).f1) ((rd_T29 l0 x3_1).f2) ((rd_T29 l0 x3_1).f3) ((rd_T29 l0 x3_1).f4))) = some r := by rw [if_pos rfl] at H; exact H
               clear H
               have H := H1
               clear H1
               by_cases c25 : ((rd_T29 l0 x5_2).f3) = ((rd_T29 l0 x3_1).f3)
               ·rw [if_pos c25] at H
                have c25b0 : (((rd_T29 l0 x5_2).f3) == ((rd_T29 l0 x3_1).f3)) = true := beq_iff_eq.mpr c25
                have c25b1 : (((rd_T29 l0 x5_2).f3) != ((rd_T29 l0 x3_1).f3)) = false := bne_eq_false_iff_eq.mpr c25
                clear c25
                have H' := Aside0.mk H
                clear H
                have p192 : 0 ≤ (x5_2 : Int) := of_decide_eq_true (by first | (with_reducible assumption) | assumption)
                have q192 : x5_2 < (l0.length : Int) := of_decide_eq_true (by first | (with_reducible assumption) | assumption)
                obtain ⟨ad192, e192, hx192_0, hx192_1, hx192_2, hx192_3, hx192_4⟩ := at_T29 HR0.out x5_2 p192 q192
                obtain rfl : ad190 = ad192 := (by injection e192)
                replace hx192_0 := (HB.out.cell (World.block_lt_of_cell? w _ hx192_0)).trans hx192_0
                replace hx192_1 := (HB.out.cell (World.block_lt_of_cell? w _ hx192_1)).trans hx192_1
                replace hx192_2 := (HB.out.cell (World.block_lt_of_cell? w _ hx192_2)).trans hx192_2
                replace hx192_3 := (HB.out.cell (World.block_lt_of_cell? w _ hx192_3)).trans hx192_3
                replace hx192_4 := (HB.out.cell (World.block_lt_of_cell? w _ hx192_4)).trans hx192_4
                replace p192 := eq_true p192
                replace q192 := eq_true q192
                go_wp2_with (first | ((with_reducible refine gate_dst (N := 6) rfl ?_); refine box_event ?hg (N := 6) ?hd (cs := #[.int .i64 0, .int .i64 0, .int .i64 0, .int .i64 0, .int .i64 0]) (t := 29) ?hr ?_; (case hd => rfl); (case hg => rfl); (case hr => first | (go_simp; done) | (go_simp; rfl)); intro gb193 hg w26 hbox hb; have n0_ := Aside0.mk (blk_below (g := gb191) (o := .cells #[.int .i64 ((rd_T29 l0 x3_1).f0), .int .i64 ((rd_T29 l0 x3_1).f1), .int .i64 ((rd_T29 l0 x3_1).f2), .int .i64 ((rd_T29 l0 x3_1).f3), .int .i64 ((rd_T29 l0 x3_1).f4)] 29 (0, 0)) (by (with_reducible repeat (first | refine blk_drewN ?_ _ | refine blk_drew ?_ | refine blk_alloc ?_ _)); exact BK191.out) hb); have n1_ := Aside0.mk (below_step (by repeat (first | (with_reducible first | exact HB.out | apply below_alloc | apply pw_below_drewN | apply below_drew1 | refine below_set ?_ GE191.out) | exact HB.out)) hb); have n2_ := Aside0.mk (hbox); have n3_ := Aside0.mk ((by rw [hg]; exact (below_size (by repeat (first | (with_reducible first | exact HB.out | apply below_alloc | apply pw_below_drewN | apply below_drew1 | refine below_set ?_ GE191.out) | exact HB.out))) : w.heap.size ≤ gb193)); have n4_ := Aside0.mk ((by rw [hg]; exact (below_size (by repeat (first | (with_reducible first | exact HB.out | apply below_alloc | apply pw_below_drewN | apply below_drew1 | refine below_set ?_ GE191.out) | exact HB.out))) : w.heap.size ≤ gb193)); have n5_ := Aside0.mk ((by rw [hg]; exact Nat.ne_of_lt (blk_lt (g := gb191) (o := .cells #[.int .i64 ((rd_T29 l0 x3_1).f0), .int .i64 ((rd_T29 l0 x3_1).f1), .int .i64 ((rd_T29 l0 x3_1).f2), .int .i64 ((rd_T29 l0 x3_1).f3), .int .i64 ((rd_T29 l0 x3_1).f4)] 29 (0, 0)) (by (with_reducible repeat (first | refine blk_drewN ?_ _ | refine blk_drew ?_ | refine blk_alloc ?_ _)); exact BK191.out)) : gb191 ≠ gb193)); have n6_ := Aside0.mk ((by rw [hg]; exact Nat.ne_of_gt (blk_lt (g := gb191) (o := .cells #[.int .i64 ((rd_T29 l0 x3_1).f0), .int .i64 ((rd_T29 l0 x3_1).f1), .int .i64 ((rd_T29 l0 x3_1).f2), .int .i64 ((rd_T29 l0 x3_1).f3), .int .i64 ((rd_T29 l0 x3_1).f4)] 29 (0, 0)) (by (with_reducible repeat (first | refine blk_drewN ?_ _ | refine blk_drew ?_ | refine blk_alloc ?_ _)); exact BK191.out)) : gb193 ≠ gb191)); clear BK191; clear HB; have BK191 := n0_; have HB := n1_; have BK193 := n2_; have GW193 := n3_; have GE193 := n4_; have NB191_193 := n5_; have NB193_191 := n6_; clear n0_ n1_ n2_ n3_ n4_ n5_ n6_; clear hb hbox hg; have hnb27 := NB193_191.out; have hnc27 := NB191_193.out; have hcz28_0 : w26.cell? ⟨gb193, 0, none⟩ = some (.int .i64 0) := (blk_cell BK193.out 0).trans rfl; have hcz28_1 : w26.cell? ⟨gb193, 1, none⟩ = some (.int .i64 0) := (blk_cell BK193.out 1).trans rfl; have hcz28_2 : w26.cell? ⟨gb193, 2, none⟩ = some (.int .i64 0) := (blk_cell BK193.out 2).trans rfl; have hcz28_3 : w26.cell? ⟨gb193, 3, none⟩ = some (.int .i64 0) := (blk_cell BK193.out 3).trans rfl; have hcz28_4 : w26.cell? ⟨gb193, 4, none⟩ = some (.int .i64 0) := (blk_cell BK193.out 4).trans rfl; have hfz28_0 := blk_frozen BK193.out 0; have hfz28_1 := blk_frozen BK193.out 1; have hfz28_2 := blk_frozen BK193.out 2; have hfz28_3 := blk_frozen BK193.out 3; have hfz28_4 := blk_frozen BK193.out 4; have hcz29_0 : w26.cell? ⟨gb191, 0, none⟩ = some (.int .i64 ((rd_T29 l0 x3_1).f0)) := (blk_cell BK191.out 0).trans rfl; have hcz29_1 : w26.cell? ⟨gb191, 1, none⟩ = some (.int .i64 ((rd_T29 l0 x3_1).f1)) := (blk_cell BK191.out 1).trans rfl; have hcz29_2 : w26.cell? ⟨gb191, 2, none⟩ = some (.int .i64 ((rd_T29 l0 x3_1).f2)) := (blk_cell BK191.out 2).trans rfl; have hcz29_3 : w26.cell? ⟨gb191, 3, none⟩ = some (.int .i64 ((rd_T29 l0 x3_1).f3)) := (blk_cell BK191.out 3).trans rfl; have hcz29_4 : w26.cell? ⟨gb191, 4, none⟩ = some (.int .i64 ((rd_T29 l0 x3_1).f4)) := (blk_cell BK191.out 4).trans rfl; have hfz29_0 := blk_frozen BK191.out 0; have hfz29_1 := blk_frozen BK191.out 1; have hfz29_2 := blk_frozen BK191.out 2; have hfz29_3 := blk_frozen BK191.out 3; have hfz29_4 := blk_frozen BK191.out 4) | ((with_reducible refine gate_callee (f := 35) rfl ?_); refine goesL_ (some 53) rfl rfl Try.func35 (by kernel_rfl) rfl #[.agg #[.int .i64 ((rd_T29 l0 x5_2).f0), .int .i64 ((rd_T29 l0 x5_2).f1), .int .i64 ((rd_T29 l0 x5_2).f2), .int .i64 ((rd_T29 l0 x5_2).f3), .int .i64 ((rd_T29 l0 x5_2).f4)]] rfl (by (try simp only [List.map_toArray, List.map_cons, List.map_nil]); first | done | rfl | (simp only [List.length_drop, List.length_take]; rfl)) ?_; (with_reducible refine (logjamref38_access.calls ((rd_T29 l0 x5_2).f0) ((rd_T29 l0 x5_2).f1) ((rd_T29 l0 x5_2).f2) ((rd_T29 l0 x5_2).f3) ((rd_T29 l0 x5_2).f4) true _ A23.out).mono ?_); rintro e w30 ⟨rfl, hb⟩; refine ⟨_, rfl, ?_⟩; have n0_ := Aside0.mk (blk_below (g := gb191) (o := .cells #[.int .i64 ((rd_T29 l0 x3_1).f0), .int .i64 ((rd_T29 l0 x3_1).f1), .int .i64 ((rd_T29 l0 x3_1).f2), .int .i64 ((rd_T29 l0 x3_1).f3), .int .i64 ((rd_T29 l0 x3_1).f4)] 29 (0, 0)) (by (with_reducible repeat (first | refine blk_drewN ?_ _ | refine blk_drew ?_ | refine blk_alloc ?_ _)); refine blk_far ?_ NB191_193.out _; (with_reducible repeat (first | refine blk_drewN ?_ _ | refine blk_drew ?_ | refine blk_alloc ?_ _)); refine blk_far ?_ NB191_193.out _; (with_reducible repeat (first | refine blk_drewN ?_ _ | refine blk_drew ?_ | refine blk_alloc ?_ _)); refine blk_far ?_ NB191_193.out _; (with_reducible repeat (first | refine blk_drewN ?_ _ | refine blk_drew ?_ | refine blk_alloc ?_ _)); refine blk_far ?_ NB191_193.out _; (with_reducible repeat (first | refine blk_drewN ?_ _ | refine blk_drew ?_ | refine blk_alloc ?_ _)); refine blk_far ?_ NB191_193.out _; (with_reducible repeat (first | refine blk_drewN ?_ _ | refine blk_drew ?_ | refine blk_alloc ?_ _)); exact BK191.out) hb); have n1_ := Aside0.mk (blk_below (g := gb193) (o := .cells #[.int .i64 ((rd_T29 l0 x5_2).f0), .int .i64 ((rd_T29 l0 x5_2).f1), .int .i64 ((rd_T29 l0 x5_2).f2), .int .i64 ((rd_T29 l0 x5_2).f3), .int .i64 ((rd_T29 l0 x5_2).f4)] 29 (0, 0)) (by (with_reducible repeat (first | refine blk_drewN ?_ _ | refine blk_drew ?_ | refine blk_alloc ?_ _)); refine blk_put (cs := #[.int .i64 ((rd_T29 l0 x5_2).f0), .int .i64 ((rd_T29 l0 x5_2).f1), .int .i64 ((rd_T29 l0 x5_2).f2), .int .i64 ((rd_T29 l0 x5_2).f3), .int .i64 0]) ?_ 4 _ rfl; (with_reducible repeat (first | refine blk_drewN ?_ _ | refine blk_drew ?_ | refine blk_alloc ?_ _)); refine blk_put (cs := #[.int .i64 ((rd_T29 l0 x5_2).f0), .int .i64 ((rd_T29 l0 x5_2).f1), .int .i64 ((rd_T29 l0 x5_2).f2), .int .i64 0, .int .i64 0]) ?_ 3 _ rfl; (with_reducible repeat (first | refine blk_drewN ?_ _ | refine blk_drew ?_ | refine blk_alloc ?_ _)); refine blk_put (cs := #[.int .i64 ((rd_T29 l0 x5_2).f0), .int .i64 ((rd_T29 l0 x5_2).f1), .int .i64 0, .int .i64 0, .int .i64 0]) ?_ 2 _ rfl; (with_reducible repeat (first | refine blk_drewN ?_ _ | refine blk_drew ?_ | refine blk_alloc ?_ _)); refine blk_put (cs := #[.int .i64 ((rd_T29 l0 x5_2).f0), .int .i64 0, .int .i64 0, .int .i64 0, .int .i64 0]) ?_ 1 _ rfl; (with_reducible repeat (first | refine blk_drewN ?_ _ | refine blk_drew ?_ | refine blk_alloc ?_ _)); refine blk_put (cs := #[.int .i64 0, .int .i64 0, .int .i64 0, .int .i64 0, .int .i64 0]) ?_ 0 _ rfl; (with_reducible repeat (first | refine blk_drewN ?_ _ | refine blk_drew ?_ | refine blk_alloc ?_ _)); exact BK193.out) hb); have n2_ := Aside0.mk (below_step (by repeat (first | (with_reducible first | exact HB.out | apply below_alloc | apply pw_below_drewN | apply below_drew1 | refine below_set ?_ GE191.out | refine below_set ?_ GE193.out) | exact HB.out)) hb); clear BK191; clear BK193; clear HB; have BK191 := n0_; have BK193 := n1_; have HB := n2_; clear n0_ n1_ n2_; (try clear hb); (try clear hb2); (try clear hk); (try clear hi); have hcz31_0 : w30.cell? ⟨gb193, 0, none⟩ = some (.int .i64 ((rd_T29 l0 x5_2).f0)) := (blk_cell BK193.out 0).trans rfl; have hcz31_1 : w30.cell? ⟨gb193, 1, none⟩ = some (.int .i64 ((rd_T29 l0 x5_2).f1)) := (blk_cell BK193.out 1).trans rfl; have hcz31_2 : w30.cell? ⟨gb193, 2, none⟩ = some (.int .i64 ((rd_T29 l0 x5_2).f2)) := (blk_cell BK193.out 2).trans rfl; have hcz31_3 : w30.cell? ⟨gb193, 3, none⟩ = some (.int .i64 ((rd_T29 l0 x5_2).f3)) := (blk_cell BK193.out 3).trans rfl; have hcz31_4 : w30.cell? ⟨gb193, 4, none⟩ = some (.int .i64 ((rd_T29 l0 x5_2).f4)) := (blk_cell BK193.out 4).trans rfl; have hfz31_0 := blk_frozen BK193.out 0; have hfz31_1 := blk_frozen BK193.out 1; have hfz31_2 := blk_frozen BK193.out 2; have hfz31_3 := blk_frozen BK193.out 3; have hfz31_4 := blk_frozen BK193.out 4; have hcz32_0 : w30.cell? ⟨gb191, 0, none⟩ = some (.int .i64 ((rd_T29 l0 x3_1).f0)) := (blk_cell BK191.out 0).trans rfl; have hcz32_1 : w30.cell? ⟨gb191, 1, none⟩ = some (.int .i64 ((rd_T29 l0 x3_1).f1)) := (blk_cell BK191.out 1).trans rfl; have hcz32_2 : w30.cell? ⟨gb191, 2, none⟩ = some (.int .i64 ((rd_T29 l0 x3_1).f2)) := (blk_cell BK191.out 2).trans rfl; have hcz32_3 : w30.cell? ⟨gb191, 3, none⟩ = some (.int .i64 ((rd_T29 l0 x3_1).f3)) := (blk_cell BK191.out 3).trans rfl; have hcz32_4 : w30.cell? ⟨gb191, 4, none⟩ = some (.int .i64 ((rd_T29 l0 x3_1).f4)) := (blk_cell BK191.out 4).trans rfl; have hfz32_0 := blk_frozen BK191.out 0; have hfz32_1 := blk_frozen BK191.out 1; have hfz32_2 := blk_frozen BK191.out 2; have hfz32_3 := blk_frozen BK191.out 3; have hfz32_4 := blk_frozen BK191.out 4))
                go_roundg k2
                case measure => have := HK1.out; have := HK2.out; omega
                case rel => exact ⟨(wrap64 (x5_2 + 1)), (by first | rfl | (simp; done) | (simp only [emptyNe_, emptyEq_]; done) | (simp [*]; done)), H', ⟨by have := HK1.out; have := HK2.out; omega⟩, ⟨by (with_reducible repeat (first | refine blk_drewN ?_ _ | refine blk_drew ?_ | refine blk_alloc ?_ _)); exact BK191.out⟩, ⟨by repeat (first | (with_reducible first | exact HB.out | apply below_alloc | apply pw_below_drewN | apply below_drew1 | refine below_set ?_ GE191.out | refine below_set ?_ GE193.out) | exact HB.out)⟩⟩
               ·rw [if_neg c25] at H
                have c25b0 : (((rd_T29 l0 x5_2).f3) == ((rd_T29 l0 x3_1).f3)) = false := beq_eq_false_iff_ne.mpr c25
                have c25b1 : (((rd_T29 l0 x5_2).f3) != ((rd_T29 l0 x3_1).f3)) = true := bne_iff_ne.mpr c25
                have H' := Aside0.mk H
                clear H
                have p192 : 0 ≤ (x5_2 : Int) := of_decide_eq_true (by first | (with_reducible assumption) | assumption)
                have q192 : x5_2 < (l0.length : Int) := of_decide_eq_true (by first | (with_reducible assumption) | assumption)
                obtain ⟨ad192, e192, hx192_0, hx192_1, hx192_2, hx192_3, hx192_4⟩ := at_T29 HR0.out x5_2 p192 q192
                obtain rfl : ad190 = ad192 := (by injection e192)
                replace hx192_0 := (HB.out.cell (World.block_lt_of_cell? w _ hx192_0)).trans hx192_0
                replace hx192_1 := (HB.out.cell (World.block_lt_of_cell? w _ hx192_1)).trans hx192_1
                replace hx192_2 := (HB.out.cell (World.block_lt_of_cell? w _ hx192_2)).trans hx192_2
                replace hx192_3 := (HB.out.cell (World.block_lt_of_cell? w _ hx192_3)).trans hx192_3
                replace hx192_4 := (HB.out.cell (World.block_lt_of_cell? w _ hx192_4)).trans hx192_4
                replace p192 := eq_true p192
                replace q192 := eq_true q192
                go_wp2_with (first | ((with_reducible refine gate_dst (N := 6) rfl ?_); refine box_event ?hg (N := 6) ?hd (cs := #[.int .i64 0, .int .i64 0, .int .i64 0, .int .i64 0, .int .i64 0]) (t := 29) ?hr ?_; (case hd => rfl); (case hg => rfl); (case hr => first | (go_simp; done) | (go_simp; rfl)); intro gb193 hg w33 hbox hb; have n0_ := Aside0.mk (blk_below (g := gb191) (o := .cells #[.int .i64 ((rd_T29 l0 x3_1).f0), .int .i64 ((rd_T29 l0 x3_1).f1), .int .i64 ((rd_T29 l0 x3_1).f2), .int .i64 ((rd_T29 l0 x3_1).f3), .int .i64 ((rd_T29 l0 x3_1).f4)] 29 (0, 0)) (by (with_reducible repeat (first | refine blk_drewN ?_ _ | refine blk_drew ?_ | refine blk_alloc ?_ _)); exact BK191.out) hb); have n1_ := Aside0.mk (below_step (by repeat (first | (with_reducible first | exact HB.out | apply below_alloc | apply pw_below_drewN | apply below_drew1 | refine below_set ?_ GE191.out) | exact HB.out)) hb); have n2_ := Aside0.mk (hbox); have n3_ := Aside0.mk ((by rw [hg]; exact (below_size (by repeat (first | (with_reducible first | exact HB.out | apply below_alloc | apply pw_below_drewN | apply below_drew1 | refine below_set ?_ GE191.out) | exact HB.out))) : w.heap.size ≤ gb193)); have n4_ := Aside0.mk ((by rw [hg]; exact (below_size (by repeat (first | (with_reducible first | exact HB.out | apply below_alloc | apply pw_below_drewN | apply below_drew1 | refine below_set ?_ GE191.out) | exact HB.out))) : w.heap.size ≤ gb193)); have n5_ := Aside0.mk ((by rw [hg]; exact Nat.ne_of_lt (blk_lt (g := gb191) (o := .cells #[.int .i64 ((rd_T29 l0 x3_1).f0), .int .i64 ((rd_T29 l0 x3_1).f1), .int .i64 ((rd_T29 l0 x3_1).f2), .int .i64 ((rd_T29 l0 x3_1).f3), .int .i64 ((rd_T29 l0 x3_1).f4)] 29 (0, 0)) (by (with_reducible repeat (first | refine blk_drewN ?_ _ | refine blk_drew ?_ | refine blk_alloc ?_ _)); exact BK191.out)) : gb191 ≠ gb193)); have n6_ := Aside0.mk ((by rw [hg]; exact Nat.ne_of_gt (blk_lt (g := gb191) (o := .cells #[.int .i64 ((rd_T29 l0 x3_1).f0), .int .i64 ((rd_T29 l0 x3_1).f1), .int .i64 ((rd_T29 l0 x3_1).f2), .int .i64 ((rd_T29 l0 x3_1).f3), .int .i64 ((rd_T29 l0 x3_1).f4)] 29 (0, 0)) (by (with_reducible repeat (first | refine blk_drewN ?_ _ | refine blk_drew ?_ | refine blk_alloc ?_ _)); exact BK191.out)) : gb193 ≠ gb191)); clear BK191; clear HB; have BK191 := n0_; have HB := n1_; have BK193 := n2_; have GW193 := n3_; have GE193 := n4_; have NB191_193 := n5_; have NB193_191 := n6_; clear n0_ n1_ n2_ n3_ n4_ n5_ n6_; clear hb hbox hg; have hnb34 := NB193_191.out; have hnc34 := NB191_193.out; have hcz35_0 : w33.cell? ⟨gb193, 0, none⟩ = some (.int .i64 0) := (blk_cell BK193.out 0).trans rfl; have hcz35_1 : w33.cell? ⟨gb193, 1, none⟩ = some (.int .i64 0) := (blk_cell BK193.out 1).trans rfl; have hcz35_2 : w33.cell? ⟨gb193, 2, none⟩ = some (.int .i64 0) := (blk_cell BK193.out 2).trans rfl; have hcz35_3 : w33.cell? ⟨gb193, 3, none⟩ = some (.int .i64 0) := (blk_cell BK193.out 3).trans rfl; have hcz35_4 : w33.cell? ⟨gb193, 4, none⟩ = some (.int .i64 0) := (blk_cell BK193.out 4).trans rfl; have hfz35_0 := blk_frozen BK193.out 0; have hfz35_1 := blk_frozen BK193.out 1; have hfz35_2 := blk_frozen BK193.out 2; have hfz35_3 := blk_frozen BK193.out 3; have hfz35_4 := blk_frozen BK193.out 4; have hcz36_0 : w33.cell? ⟨gb191, 0, none⟩ = some (.int .i64 ((rd_T29 l0 x3_1).f0)) := (blk_cell BK191.out 0).trans rfl; have hcz36_1 : w33.cell? ⟨gb191, 1, none⟩ = some (.int .i64 ((rd_T29 l0 x3_1).f1)) := (blk_cell BK191.out 1).trans rfl; have hcz36_2 : w33.cell? ⟨gb191, 2, none⟩ = some (.int .i64 ((rd_T29 l0 x3_1).f2)) := (blk_cell BK191.out 2).trans rfl; have hcz36_3 : w33.cell? ⟨gb191, 3, none⟩ = some (.int .i64 ((rd_T29 l0 x3_1).f3)) := (blk_cell BK191.out 3).trans rfl; have hcz36_4 : w33.cell? ⟨gb191, 4, none⟩ = some (.int .i64 ((rd_T29 l0 x3_1).f4)) := (blk_cell BK191.out 4).trans rfl; have hfz36_0 := blk_frozen BK191.out 0; have hfz36_1 := blk_frozen BK191.out 1; have hfz36_2 := blk_frozen BK191.out 2; have hfz36_3 := blk_frozen BK191.out 3; have hfz36_4 := blk_frozen BK191.out 4) | ((with_reducible refine gate_callee (f := 35) rfl ?_); refine goesL_ (some 53) rfl rfl Try.func35 (by kernel_rfl) rfl #[.agg #[.int .i64 ((rd_T29 l0 x5_2).f0), .int .i64 ((rd_T29 l0 x5_2).f1), .int .i64 ((rd_T29 l0 x5_2).f2), .int .i64 ((rd_T29 l0 x5_2).f3), .int .i64 ((rd_T29 l0 x5_2).f4)]] rfl (by (try simp only [List.map_toArray, List.map_cons, List.map_nil]); first | done | rfl | (simp only [List.length_drop, List.length_take]; rfl)) ?_; (with_reducible refine (logjamref38_access.calls ((rd_T29 l0 x5_2).f0) ((rd_T29 l0 x5_2).f1) ((rd_T29 l0 x5_2).f2) ((rd_T29 l0 x5_2).f3) ((rd_T29 l0 x5_2).f4) true _ A23.out).mono ?_); rintro e w37 ⟨rfl, hb⟩; refine ⟨_, rfl, ?_⟩; have n0_ := Aside0.mk (blk_below (g := gb191) (o := .cells #[.int .i64 ((rd_T29 l0 x3_1).f0), .int .i64 ((rd_T29 l0 x3_1).f1), .int .i64 ((rd_T29 l0 x3_1).f2), .int .i64 ((rd_T29 l0 x3_1).f3), .int .i64 ((rd_T29 l0 x3_1).f4)] 29 (0, 0)) (by (with_reducible repeat (first | refine blk_drewN ?_ _ | refine blk_drew ?_ | refine blk_alloc ?_ _)); refine blk_far ?_ NB191_193.out _; (with_reducible repeat (first | refine blk_drewN ?_ _ | refine blk_drew ?_ | refine blk_alloc ?_ _)); refine blk_far ?_ NB191_193.out _; (with_reducible repeat (first | refine blk_drewN ?_ _ | refine blk_drew ?_ | refine blk_alloc ?_ _)); refine blk_far ?_ NB191_193.out _; (with_reducible repeat (first | refine blk_drewN ?_ _ | refine blk_drew ?_ | refine blk_alloc ?_ _)); refine blk_far ?_ NB191_193.out _; (with_reducible repeat (first | refine blk_drewN ?_ _ | refine blk_drew ?_ | refine blk_alloc ?_ _)); refine blk_far ?_ NB191_193.out _; (with_reducible repeat (first | refine blk_drewN ?_ _ | refine blk_drew ?_ | refine blk_alloc ?_ _)); exact BK191.out) hb); have n1_ := Aside0.mk (blk_below (g := gb193) (o := .cells #[.int .i64 ((rd_T29 l0 x5_2).f0), .int .i64 ((rd_T29 l0 x5_2).f1), .int .i64 ((rd_T29 l0 x5_2).f2), .int .i64 ((rd_T29 l0 x5_2).f3), .int .i64 ((rd_T29 l0 x5_2).f4)] 29 (0, 0)) (by (with_reducible repeat (first | refine blk_drewN ?_ _ | refine blk_drew ?_ | refine blk_alloc ?_ _)); refine blk_put (cs := #[.int .i64 ((rd_T29 l0 x5_2).f0), .int .i64 ((rd_T29 l0 x5_2).f1), .int .i64 ((rd_T29 l0 x5_2).f2), .int .i64 ((rd_T29 l0 x5_2).f3), .int .i64 0]) ?_ 4 _ rfl; (with_reducible repeat (first | refine blk_drewN ?_ _ | refine blk_drew ?_ | refine blk_alloc ?_ _)); refine blk_put (cs := #[.int .i64 ((rd_T29 l0 x5_2).f0), .int .i64 ((rd_T29 l0 x5_2).f1), .int .i64 ((rd_T29 l0 x5_2).f2), .int .i64 0, .int .i64 0]) ?_ 3 _ rfl; (with_reducible repeat (first | refine blk_drewN ?_ _ | refine blk_drew ?_ | refine blk_alloc ?_ _)); refine blk_put (cs := #[.int .i64 ((rd_T29 l0 x5_2).f0), .int .i64 ((rd_T29 l0 x5_2).f1), .int .i64 0, .int .i64 0, .int .i64 0]) ?_ 2 _ rfl; (with_reducible repeat (first | refine blk_drewN ?_ _ | refine blk_drew ?_ | refine blk_alloc ?_ _)); refine blk_put (cs := #[.int .i64 ((rd_T29 l0 x5_2).f0), .int .i64 0, .int .i64 0, .int .i64 0, .int .i64 0]) ?_ 1 _ rfl; (with_reducible repeat (first | refine blk_drewN ?_ _ | refine blk_drew ?_ | refine blk_alloc ?_ _)); refine blk_put (cs := #[.int .i64 0, .int .i64 0, .int .i64 0, .int .i64 0, .int .i64 0]) ?_ 0 _ rfl; (with_reducible repeat (first | refine blk_drewN ?_ _ | refine blk_drew ?_ | refine blk_alloc ?_ _)); exact BK193.out) hb); have n2_ := Aside0.mk (below_step (by repeat (first | (with_reducible first | exact HB.out | apply below_alloc | apply pw_below_drewN | apply below_drew1 | refine below_set ?_ GE191.out | refine below_set ?_ GE193.out) | exact HB.out)) hb); clear BK191; clear BK193; clear HB; have BK191 := n0_; have BK193 := n1_; have HB := n2_; clear n0_ n1_ n2_; (try clear hb); (try clear hb2); (try clear hk); (try clear hi); have hcz38_0 : w37.cell? ⟨gb193, 0, none⟩ = some (.int .i64 ((rd_T29 l0 x5_2).f0)) := (blk_cell BK193.out 0).trans rfl; have hcz38_1 : w37.cell? ⟨gb193, 1, none⟩ = some (.int .i64 ((rd_T29 l0 x5_2).f1)) := (blk_cell BK193.out 1).trans rfl; have hcz38_2 : w37.cell? ⟨gb193, 2, none⟩ = some (.int .i64 ((rd_T29 l0 x5_2).f2)) := (blk_cell BK193.out 2).trans rfl; have hcz38_3 : w37.cell? ⟨gb193, 3, none⟩ = some (.int .i64 ((rd_T29 l0 x5_2).f3)) := (blk_cell BK193.out 3).trans rfl; have hcz38_4 : w37.cell? ⟨gb193, 4, none⟩ = some (.int .i64 ((rd_T29 l0 x5_2).f4)) := (blk_cell BK193.out 4).trans rfl; have hfz38_0 := blk_frozen BK193.out 0; have hfz38_1 := blk_frozen BK193.out 1; have hfz38_2 := blk_frozen BK193.out 2; have hfz38_3 := blk_frozen BK193.out 3; have hfz38_4 := blk_frozen BK193.out 4; have hcz39_0 : w37.cell? ⟨gb191, 0, none⟩ = some (.int .i64 ((rd_T29 l0 x3_1).f0)) := (blk_cell BK191.out 0).trans rfl; have hcz39_1 : w37.cell? ⟨gb191, 1, none⟩ = some (.int .i64 ((rd_T29 l0 x3_1).f1)) := (blk_cell BK191.out 1).trans rfl; have hcz39_2 : w37.cell? ⟨gb191, 2, none⟩ = some (.int .i64 ((rd_T29 l0 x3_1).f2)) := (blk_cell BK191.out 2).trans rfl; have hcz39_3 : w37.cell? ⟨gb191, 3, none⟩ = some (.int .i64 ((rd_T29 l0 x3_1).f3)) := (blk_cell BK191.out 3).trans rfl; have hcz39_4 : w37.cell? ⟨gb191, 4, none⟩ = some (.int .i64 ((rd_T29 l0 x3_1).f4)) := (blk_cell BK191.out 4).trans rfl; have hfz39_0 := blk_frozen BK191.out 0; have hfz39_1 := blk_frozen BK191.out 1; have hfz39_2 := blk_frozen BK191.out 2; have hfz39_3 := blk_frozen BK191.out 3; have hfz39_4 := blk_frozen BK191.out 4))
                go_roundg k2
                case measure => have := HK1.out; have := HK2.out; omega
                case rel => exact ⟨(wrap64 (x5_2 + 1)), (by first | rfl | (simp; done) | (simp only [emptyNe_, emptyEq_]; done) | (simp [*]; done)), H', ⟨by have := HK1.out; have := HK2.out; omega⟩, ⟨by (with_reducible repeat (first | refine blk_drewN ?_ _ | refine blk_drew ?_ | refine blk_alloc ?_ _)); exact BK191.out⟩, ⟨by repeat (first | (with_reducible first | exact HB.out | apply below_alloc | apply pw_below_drewN | apply below_drew1 | refine below_set ?_ GE191.out | refine below_set ?_ GE193.out) | exact HB.out)⟩⟩
              ·replace c24 := Bool.eq_false_iff.mpr c24
               subst c24
               have H1 : (logjamref38_Strict.l1 k2 l0 x3_1 (wrap64 (x5_2 + 1)) ((rd_T29 l0 x3_1).f0) ((rd_T29 l0 x3_1).f1) ((rd_T29 l0 x3_1).f2) ((rd_T29 l0 x3_1).f3) ((rd_T29 l0 x3_1).f4)) = some r := by rw [if_neg (show ¬ (false = true) by decide)] at H; exact H
               clear H
               have H := H1
               clear H1
               have H' := Aside0.mk H
               clear H
               have p192 : 0 ≤ (x5_2 : Int) := of_decide_eq_true (by first | (with_reducible assumption) | assumption)
               have q192 : x5_2 < (l0.length : Int) := of_decide_eq_true (by first | (with_reducible assumption) | assumption)
               obtain ⟨ad192, e192, hx192_0, hx192_1, hx192_2, hx192_3, hx192_4⟩ := at_T29 HR0.out x5_2 p192 q192
               obtain rfl : ad190 = ad192 := (by injection e192)
               replace hx192_0 := (HB.out.cell (World.block_lt_of_cell? w _ hx192_0)).trans hx192_0
               replace hx192_1 := (HB.out.cell (World.block_lt_of_cell? w _ hx192_1)).trans hx192_1
               replace hx192_2 := (HB.out.cell (World.block_lt_of_cell? w _ hx192_2)).trans hx192_2
               replace hx192_3 := (HB.out.cell (World.block_lt_of_cell? w _ hx192_3)).trans hx192_3
               replace hx192_4 := (HB.out.cell (World.block_lt_of_cell? w _ hx192_4)).trans hx192_4
               replace p192 := eq_true p192
               replace q192 := eq_true q192
               go_wp2_with (first | ((with_reducible refine gate_dst (N := 6) rfl ?_); refine box_event ?hg (N := 6) ?hd (cs := #[.int .i64 0, .int .i64 0, .int .i64 0, .int .i64 0, .int .i64 0]) (t := 29) ?hr ?_; (case hd => rfl); (case hg => rfl); (case hr => first | (go_simp; done) | (go_simp; rfl)); intro gb193 hg w40 hbox hb; have n0_ := Aside0.mk (blk_below (g := gb191) (o := .cells #[.int .i64 ((rd_T29 l0 x3_1).f0), .int .i64 ((rd_T29 l0 x3_1).f1), .int .i64 ((rd_T29 l0 x3_1).f2), .int .i64 ((rd_T29 l0 x3_1).f3), .int .i64 ((rd_T29 l0 x3_1).f4)] 29 (0, 0)) (by (with_reducible repeat (first | refine blk_drewN ?_ _ | refine blk_drew ?_ | refine blk_alloc ?_ _)); exact BK191.out) hb); have n1_ := Aside0.mk (below_step (by repeat (first | (with_reducible first | exact HB.out | apply below_alloc | apply pw_below_drewN | apply below_drew1 | refine below_set ?_ GE191.out) | exact HB.out)) hb); have n2_ := Aside0.mk (hbox); have n3_ := Aside0.mk ((by rw [hg]; exact (below_size (by repeat (first | (with_reducible first | exact HB.out | apply below_alloc | apply pw_below_drewN | apply below_drew1 | refine below_set ?_ GE191.out) | exact HB.out))) : w.heap.size ≤ gb193)); have n4_ := Aside0.mk ((by rw [hg]; exact (below_size (by repeat (first | (with_reducible first | exact HB.out | apply below_alloc | apply pw_below_drewN | apply below_drew1 | refine below_set ?_ GE191.out) | exact HB.out))) : w.heap.size ≤ gb193)); have n5_ := Aside0.mk ((by rw [hg]; exact Nat.ne_of_lt (blk_lt (g := gb191) (o := .cells #[.int .i64 ((rd_T29 l0 x3_1).f0), .int .i64 ((rd_T29 l0 x3_1).f1), .int .i64 ((rd_T29 l0 x3_1).f2), .int .i64 ((rd_T29 l0 x3_1).f3), .int .i64 ((rd_T29 l0 x3_1).f4)] 29 (0, 0)) (by (with_reducible repeat (first | refine blk_drewN ?_ _ | refine blk_drew ?_ | refine blk_alloc ?_ _)); exact BK191.out)) : gb191 ≠ gb193)); have n6_ := Aside0.mk ((by rw [hg]; exact Nat.ne_of_gt (blk_lt (g := gb191) (o := .cells #[.int .i64 ((rd_T29 l0 x3_1).f0), .int .i64 ((rd_T29 l0 x3_1).f1), .int .i64 ((rd_T29 l0 x3_1).f2), .int .i64 ((rd_T29 l0 x3_1).f3), .int .i64 ((rd_T29 l0 x3_1).f4)] 29 (0, 0)) (by (with_reducible repeat (first | refine blk_drewN ?_ _ | refine blk_drew ?_ | refine blk_alloc ?_ _)); exact BK191.out)) : gb193 ≠ gb191)); clear BK191; clear HB; have BK191 := n0_; have HB := n1_; have BK193 := n2_; have GW193 := n3_; have GE193 := n4_; have NB191_193 := n5_; have NB193_191 := n6_; clear n0_ n1_ n2_ n3_ n4_ n5_ n6_; clear hb hbox hg; have hnb41 := NB193_191.out; have hnc41 := NB191_193.out; have hcz42_0 : w40.cell? ⟨gb193, 0, none⟩ = some (.int .i64 0) := (blk_cell BK193.out 0).trans rfl; have hcz42_1 : w40.cell? ⟨gb193, 1, none⟩ = some (.int .i64 0) := (blk_cell BK193.out 1).trans rfl; have hcz42_2 : w40.cell? ⟨gb193, 2, none⟩ = some (.int .i64 0) := (blk_cell BK193.out 2).trans rfl; have hcz42_3 : w40.cell? ⟨gb193, 3, none⟩ = some (.int .i64 0) := (blk_cell BK193.out 3).trans rfl; have hcz42_4 : w40.cell? ⟨gb193, 4, none⟩ = some (.int .i64 0) := (blk_cell BK193.out 4).trans rfl; have hfz42_0 := blk_frozen BK193.out 0; have hfz42_1 := blk_frozen BK193.out 1; have hfz42_2 := blk_frozen BK193.out 2; have hfz42_3 := blk_frozen BK193.out 3; have hfz42_4 := blk_frozen BK193.out 4; have hcz43_0 : w40.cell? ⟨gb191, 0, none⟩ = some (.int .i64 ((rd_T29 l0 x3_1).f0)) := (blk_cell BK191.out 0).trans rfl; have hcz43_1 : w40.cell? ⟨gb191, 1, none⟩ = some (.int .i64 ((rd_T29 l0 x3_1).f1)) := (blk_cell BK191.out 1).trans rfl; have hcz43_2 : w40.cell? ⟨gb191, 2, none⟩ = some (.int .i64 ((rd_T29 l0 x3_1).f2)) := (blk_cell BK191.out 2).trans rfl; have hcz43_3 : w40.cell? ⟨gb191, 3, none⟩ = some (.int .i64 ((rd_T29 l0 x3_1).f3)) := (blk_cell BK191.out 3).trans rfl; have hcz43_4 : w40.cell? ⟨gb191, 4, none⟩ = some (.int .i64 ((rd_T29 l0 x3_1).f4)) := (blk_cell BK191.out 4).trans rfl; have hfz43_0 := blk_frozen BK191.out 0; have hfz43_1 := blk_frozen BK191.out 1; have hfz43_2 := blk_frozen BK191.out 2; have hfz43_3 := blk_frozen BK191.out 3; have hfz43_4 := blk_frozen BK191.out 4) | ((with_reducible refine gate_callee (f := 35) rfl ?_); refine goesL_ (some 53) rfl rfl Try.func35 (by kernel_rfl) rfl #[.agg #[.int .i64 ((rd_T29 l0 x5_2).f0), .int .i64 ((rd_T29 l0 x5_2).f1), .int .i64 ((rd_T29 l0 x5_2).f2), .int .i64 ((rd_T29 l0 x5_2).f3), .int .i64 ((rd_T29 l0 x5_2).f4)]] rfl (by (try simp only [List.map_toArray, List.map_cons, List.map_nil]); first | done | rfl | (simp only [List.length_drop, List.length_take]; rfl)) ?_; (with_reducible refine (logjamref38_access.calls ((rd_T29 l0 x5_2).f0) ((rd_T29 l0 x5_2).f1) ((rd_T29 l0 x5_2).f2) ((rd_T29 l0 x5_2).f3) ((rd_T29 l0 x5_2).f4) false _ A23.out).mono ?_); rintro e w44 ⟨rfl, hb⟩; refine ⟨_, rfl, ?_⟩; have n0_ := Aside0.mk (blk_below (g := gb191) (o := .cells #[.int .i64 ((rd_T29 l0 x3_1).f0), .int .i64 ((rd_T29 l0 x3_1).f1), .int .i64 ((rd_T29 l0 x3_1).f2), .int .i64 ((rd_T29 l0 x3_1).f3), .int .i64 ((rd_T29 l0 x3_1).f4)] 29 (0, 0)) (by (with_reducible repeat (first | refine blk_drewN ?_ _ | refine blk_drew ?_ | refine blk_alloc ?_ _)); refine blk_far ?_ NB191_193.out _; (with_reducible repeat (first | refine blk_drewN ?_ _ | refine blk_drew ?_ | refine blk_alloc ?_ _)); refine blk_far ?_ NB191_193.out _; (with_reducible repeat (first | refine blk_drewN ?_ _ | refine blk_drew ?_ | refine blk_alloc ?_ _)); refine blk_far ?_ NB191_193.out _; (with_reducible repeat (first | refine blk_drewN ?_ _ | refine blk_drew ?_ | refine blk_alloc ?_ _)); refine blk_far ?_ NB191_193.out _; (with_reducible repeat (first | refine blk_drewN ?_ _ | refine blk_drew ?_ | refine blk_alloc ?_ _)); refine blk_far ?_ NB191_193.out _; (with_reducible repeat (first | refine blk_drewN ?_ _ | refine blk_drew ?_ | refine blk_alloc ?_ _)); exact BK191.out) hb); have n1_ := Aside0.mk (blk_below (g := gb193) (o := .cells #[.int .i64 ((rd_T29 l0 x5_2).f0), .int .i64 ((rd_T29 l0 x5_2).f1), .int .i64 ((rd_T29 l0 x5_2).f2), .int .i64 ((rd_T29 l0 x5_2).f3), .int .i64 ((rd_T29 l0 x5_2).f4)] 29 (0, 0)) (by (with_reducible repeat (first | refine blk_drewN ?_ _ | refine blk_drew ?_ | refine blk_alloc ?_ _)); refine blk_put (cs := #[.int .i64 ((rd_T29 l0 x5_2).f0), .int .i64 ((rd_T29 l0 x5_2).f1), .int .i64 ((rd_T29 l0 x5_2).f2), .int .i64 ((rd_T29 l0 x5_2).f3), .int .i64 0]) ?_ 4 _ rfl; (with_reducible repeat (first | refine blk_drewN ?_ _ | refine blk_drew ?_ | refine blk_alloc ?_ _)); refine blk_put (cs := #[.int .i64 ((rd_T29 l0 x5_2).f0), .int .i64 ((rd_T29 l0 x5_2).f1), .int .i64 ((rd_T29 l0 x5_2).f2), .int .i64 0, .int .i64 0]) ?_ 3 _ rfl; (with_reducible repeat (first | refine blk_drewN ?_ _ | refine blk_drew ?_ | refine blk_alloc ?_ _)); refine blk_put (cs := #[.int .i64 ((rd_T29 l0 x5_2).f0), .int .i64 ((rd_T29 l0 x5_2).f1), .int .i64 0, .int .i64 0, .int .i64 0]) ?_ 2 _ rfl; (with_reducible repeat (first | refine blk_drewN ?_ _ | refine blk_drew ?_ | refine blk_alloc ?_ _)); refine blk_put (cs := #[.int .i64 ((rd_T29 l0 x5_2).f0), .int .i64 0, .int .i64 0, .int .i64 0, .int .i64 0]) ?_ 1 _ rfl; (with_reducible repeat (first | refine blk_drewN ?_ _ | refine blk_drew ?_ | refine blk_alloc ?_ _)); refine blk_put (cs := #[.int .i64 0, .int .i64 0, .int .i64 0, .int .i64 0, .int .i64 0]) ?_ 0 _ rfl; (with_reducible repeat (first | refine blk_drewN ?_ _ | refine blk_drew ?_ | refine blk_alloc ?_ _)); exact BK193.out) hb); have n2_ := Aside0.mk (below_step (by repeat (first | (with_reducible first | exact HB.out | apply below_alloc | apply pw_below_drewN | apply below_drew1 | refine below_set ?_ GE191.out | refine below_set ?_ GE193.out) | exact HB.out)) hb); clear BK191; clear BK193; clear HB; have BK191 := n0_; have BK193 := n1_; have HB := n2_; clear n0_ n1_ n2_; (try clear hb); (try clear hb2); (try clear hk); (try clear hi)))
               go_roundg k2
               case measure => have := HK1.out; have := HK2.out; omega
               case rel => exact ⟨(wrap64 (x5_2 + 1)), (by first | rfl | (simp; done) | (simp only [emptyNe_, emptyEq_]; done) | (simp [*]; done)), H', ⟨by have := HK1.out; have := HK2.out; omega⟩, ⟨by (with_reducible repeat (first | refine blk_drewN ?_ _ | refine blk_drew ?_ | refine blk_alloc ?_ _)); exact BK191.out⟩, ⟨by repeat (first | (with_reducible first | exact HB.out | apply below_alloc | apply pw_below_drewN | apply below_drew1 | refine below_set ?_ GE191.out | refine below_set ?_ GE193.out) | exact HB.out)⟩⟩
           ·rw [if_neg c12] at H
            have c12b0 : (((rd_T29 l0 x5_2).f2) == ((rd_T29 l0 x3_1).f2)) = false := beq_eq_false_iff_ne.mpr c12
            have c12b1 : (((rd_T29 l0 x5_2).f2) != ((rd_T29 l0 x3_1).f2)) = true := bne_iff_ne.mpr c12
            replace H := Option.bind_eq_some_iff.mp H
            obtain ⟨t195, A450, H⟩ := H
            replace H : (if t195 = true then (if ((rd_T29 l0 x5_2).f3) = ((rd_T29 l0 x3_1).f3) then (some false) else (logjamref38_Strict.l1 k2 l0 x3_1 (wrap64 (x5_2 + 1)) ((rd_T29 l0 x3_1).f0) ((rd_T29 l0 x3_1).f1) ((rd_T29 l0 x3_1).f2) ((rd_T29 l0 x3_1).f3) ((rd_T29 l0 x3_1).f4))) else (logjamref38_Strict.l1 k2 l0 x3_1 (wrap64 (x5_2 + 1)) ((rd_T29 l0 x3_1).f0) ((rd_T29 l0 x3_1).f1) ((rd_T29 l0 x3_1).f2) ((rd_T29 l0 x3_1).f3) ((rd_T29 l0 x3_1).f4))) = some r := H
            have A45 := Aside0.mk A450
            clear A450
            by_cases c46 : t195 = true
            ·subst c46
             have H1 : (if ((rd_T29 l0 x5_2).f3) = ((rd_T29 l0 x3_1).f3) then (some false) else (logjamref38_Strict.l1 k2 l0 x3_1 (wrap64 (x5_2 + 1)) ((rd_T29 l0 x3_1).f0) ((rd_T29 l0 x3_1).f1) ((rd_T29 l0 x3_1).f2) ((rd_T29 l0 x3_1).f3) ((rd_T29 l0 x3_1).f4))) = some r := by rw [if_pos rfl] at H; exact H
             clear H
             have H := H1
             clear H1
             by_cases c47 : ((rd_T29 l0 x5_2).f3) = ((rd_T29 l0 x3_1).f3)
             ·rw [if_pos c47] at H
              have c47b0 : (((rd_T29 l0 x5_2).f3) == ((rd_T29 l0 x3_1).f3)) = true := beq_iff_eq.mpr c47
              have c47b1 : (((rd_T29 l0 x5_2).f3) != ((rd_T29 l0 x3_1).f3)) = false := bne_eq_false_iff_eq.mpr c47
              clear c47
              obtain rfl := Option.some.inj H
              have p192 : 0 ≤ (x5_2 : Int) := of_decide_eq_true (by first | (with_reducible assumption) | assumption)
              have q192 : x5_2 < (l0.length : Int) := of_decide_eq_true (by first | (with_reducible assumption) | assumption)
              obtain ⟨ad192, e192, hx192_0, hx192_1, hx192_2, hx192_3, hx192_4⟩ := at_T29 HR0.out x5_2 p192 q192
              obtain rfl : ad190 = ad192 := (by injection e192)
              replace hx192_0 := (HB.out.cell (World.block_lt_of_cell? w _ hx192_0)).trans hx192_0
              replace hx192_1 := (HB.out.cell (World.block_lt_of_cell? w _ hx192_1)).trans hx192_1
              replace hx192_2 := (HB.out.cell (World.block_lt_of_cell? w _ hx192_2)).trans hx192_2
              replace hx192_3 := (HB.out.cell (World.block_lt_of_cell? w _ hx192_3)).trans hx192_3
              replace hx192_4 := (HB.out.cell (World.block_lt_of_cell? w _ hx192_4)).trans hx192_4
              replace p192 := eq_true p192
              replace q192 := eq_true q192
              go_wp2_with (first | ((with_reducible refine gate_dst (N := 6) rfl ?_); refine box_event ?hg (N := 6) ?hd (cs := #[.int .i64 0, .int .i64 0, .int .i64 0, .int .i64 0, .int .i64 0]) (t := 29) ?hr ?_; (case hd => rfl); (case hg => rfl); (case hr => first | (go_simp; done) | (go_simp; rfl)); intro gb193 hg w48 hbox hb; have n0_ := Aside0.mk (blk_below (g := gb191) (o := .cells #[.int .i64 ((rd_T29 l0 x3_1).f0), .int .i64 ((rd_T29 l0 x3_1).f1), .int .i64 ((rd_T29 l0 x3_1).f2), .int .i64 ((rd_T29 l0 x3_1).f3), .int .i64 ((rd_T29 l0 x3_1).f4)] 29 (0, 0)) (by (with_reducible repeat (first | refine blk_drewN ?_ _ | refine blk_drew ?_ | refine blk_alloc ?_ _)); exact BK191.out) hb); have n1_ := Aside0.mk (below_step (by repeat (first | (with_reducible first | exact HB.out | apply below_alloc | apply pw_below_drewN | apply below_drew1 | refine below_set ?_ GE191.out) | exact HB.out)) hb); have n2_ := Aside0.mk (hbox); have n3_ := Aside0.mk ((by rw [hg]; exact (below_size (by repeat (first | (with_reducible first | exact HB.out | apply below_alloc | apply pw_below_drewN | apply below_drew1 | refine below_set ?_ GE191.out) | exact HB.out))) : w.heap.size ≤ gb193)); have n4_ := Aside0.mk ((by rw [hg]; exact (below_size (by repeat (first | (with_reducible first | exact HB.out | apply below_alloc | apply pw_below_drewN | apply below_drew1 | refine below_set ?_ GE191.out) | exact HB.out))) : w.heap.size ≤ gb193)); have n5_ := Aside0.mk ((by rw [hg]; exact Nat.ne_of_lt (blk_lt (g := gb191) (o := .cells #[.int .i64 ((rd_T29 l0 x3_1).f0), .int .i64 ((rd_T29 l0 x3_1).f1), .int .i64 ((rd_T29 l0 x3_1).f2), .int .i64 ((rd_T29 l0 x3_1).f3), .int .i64 ((rd_T29 l0 x3_1).f4)] 29 (0, 0)) (by (with_reducible repeat (first | refine blk_drewN ?_ _ | refine blk_drew ?_ | refine blk_alloc ?_ _)); exact BK191.out)) : gb191 ≠ gb193)); have n6_ := Aside0.mk ((by rw [hg]; exact Nat.ne_of_gt (blk_lt (g := gb191) (o := .cells #[.int .i64 ((rd_T29 l0 x3_1).f0), .int .i64 ((rd_T29 l0 x3_1).f1), .int .i64 ((rd_T29 l0 x3_1).f2), .int .i64 ((rd_T29 l0 x3_1).f3), .int .i64 ((rd_T29 l0 x3_1).f4)] 29 (0, 0)) (by (with_reducible repeat (first | refine blk_drewN ?_ _ | refine blk_drew ?_ | refine blk_alloc ?_ _)); exact BK191.out)) : gb193 ≠ gb191)); clear BK191; clear HB; have BK191 := n0_; have HB := n1_; have BK193 := n2_; have GW193 := n3_; have GE193 := n4_; have NB191_193 := n5_; have NB193_191 := n6_; clear n0_ n1_ n2_ n3_ n4_ n5_ n6_; clear hb hbox hg; have hnb49 := NB193_191.out; have hnc49 := NB191_193.out; have hcz50_0 : w48.cell? ⟨gb193, 0, none⟩ = some (.int .i64 0) := (blk_cell BK193.out 0).trans rfl; have hcz50_1 : w48.cell? ⟨gb193, 1, none⟩ = some (.int .i64 0) := (blk_cell BK193.out 1).trans rfl; have hcz50_2 : w48.cell? ⟨gb193, 2, none⟩ = some (.int .i64 0) := (blk_cell BK193.out 2).trans rfl; have hcz50_3 : w48.cell? ⟨gb193, 3, none⟩ = some (.int .i64 0) := (blk_cell BK193.out 3).trans rfl; have hcz50_4 : w48.cell? ⟨gb193, 4, none⟩ = some (.int .i64 0) := (blk_cell BK193.out 4).trans rfl; have hfz50_0 := blk_frozen BK193.out 0; have hfz50_1 := blk_frozen BK193.out 1; have hfz50_2 := blk_frozen BK193.out 2; have hfz50_3 := blk_frozen BK193.out 3; have hfz50_4 := blk_frozen BK193.out 4; have hcz51_0 : w48.cell? ⟨gb191, 0, none⟩ = some (.int .i64 ((rd_T29 l0 x3_1).f0)) := (blk_cell BK191.out 0).trans rfl; have hcz51_1 : w48.cell? ⟨gb191, 1, none⟩ = some (.int .i64 ((rd_T29 l0 x3_1).f1)) := (blk_cell BK191.out 1).trans rfl; have hcz51_2 : w48.cell? ⟨gb191, 2, none⟩ = some (.int .i64 ((rd_T29 l0 x3_1).f2)) := (blk_cell BK191.out 2).trans rfl; have hcz51_3 : w48.cell? ⟨gb191, 3, none⟩ = some (.int .i64 ((rd_T29 l0 x3_1).f3)) := (blk_cell BK191.out 3).trans rfl; have hcz51_4 : w48.cell? ⟨gb191, 4, none⟩ = some (.int .i64 ((rd_T29 l0 x3_1).f4)) := (blk_cell BK191.out 4).trans rfl; have hfz51_0 := blk_frozen BK191.out 0; have hfz51_1 := blk_frozen BK191.out 1; have hfz51_2 := blk_frozen BK191.out 2; have hfz51_3 := blk_frozen BK191.out 3; have hfz51_4 := blk_frozen BK191.out 4) | ((with_reducible refine gate_callee (f := 35) rfl ?_); refine goesL_ (some 53) rfl rfl Try.func35 (by kernel_rfl) rfl #[.agg #[.int .i64 ((rd_T29 l0 x5_2).f0), .int .i64 ((rd_T29 l0 x5_2).f1), .int .i64 ((rd_T29 l0 x5_2).f2), .int .i64 ((rd_T29 l0 x5_2).f3), .int .i64 ((rd_T29 l0 x5_2).f4)]] rfl (by (try simp only [List.map_toArray, List.map_cons, List.map_nil]); first | done | rfl | (simp only [List.length_drop, List.length_take]; rfl)) ?_; (with_reducible refine (logjamref38_access.calls ((rd_T29 l0 x5_2).f0) ((rd_T29 l0 x5_2).f1) ((rd_T29 l0 x5_2).f2) ((rd_T29 l0 x5_2).f3) ((rd_T29 l0 x5_2).f4) true _ A45.out).mono ?_); rintro e w52 ⟨rfl, hb⟩; refine ⟨_, rfl, ?_⟩; have n0_ := Aside0.mk (blk_below (g := gb191) (o := .cells #[.int .i64 ((rd_T29 l0 x3_1).f0), .int .i64 ((rd_T29 l0 x3_1).f1), .int .i64 ((rd_T29 l0 x3_1).f2), .int .i64 ((rd_T29 l0 x3_1).f3), .int .i64 ((rd_T29 l0 x3_1).f4)] 29 (0, 0)) (by (with_reducible repeat (first | refine blk_drewN ?_ _ | refine blk_drew ?_ | refine blk_alloc ?_ _)); refine blk_far ?_ NB191_193.out _; (with_reducible repeat (first | refine blk_drewN ?_ _ | refine blk_drew ?_ | refine blk_alloc ?_ _)); refine blk_far ?_ NB191_193.out _; (with_reducible repeat (first | refine blk_drewN ?_ _ | refine blk_drew ?_ | refine blk_alloc ?_ _)); refine blk_far ?_ NB191_193.out _; (with_reducible repeat (first | refine blk_drewN ?_ _ | refine blk_drew ?_ | refine blk_alloc ?_ _)); refine blk_far ?_ NB191_193.out _; (with_reducible repeat (first | refine blk_drewN ?_ _ | refine blk_drew ?_ | refine blk_alloc ?_ _)); refine blk_far ?_ NB191_193.out _; (with_reducible repeat (first | refine blk_drewN ?_ _ | refine blk_drew ?_ | refine blk_alloc ?_ _)); exact BK191.out) hb); have n1_ := Aside0.mk (blk_below (g := gb193) (o := .cells #[.int .i64 ((rd_T29 l0 x5_2).f0), .int .i64 ((rd_T29 l0 x5_2).f1), .int .i64 ((rd_T29 l0 x5_2).f2), .int .i64 ((rd_T29 l0 x5_2).f3), .int .i64 ((rd_T29 l0 x5_2).f4)] 29 (0, 0)) (by (with_reducible repeat (first | refine blk_drewN ?_ _ | refine blk_drew ?_ | refine blk_alloc ?_ _)); refine blk_put (cs := #[.int .i64 ((rd_T29 l0 x5_2).f0), .int .i64 ((rd_T29 l0 x5_2).f1), .int .i64 ((rd_T29 l0 x5_2).f2), .int .i64 ((rd_T29 l0 x5_2).f3), .int .i64 0]) ?_ 4 _ rfl; (with_reducible repeat (first | refine blk_drewN ?_ _ | refine blk_drew ?_ | refine blk_alloc ?_ _)); refine blk_put (cs := #[.int .i64 ((rd_T29 l0 x5_2).f0), .int .i64 ((rd_T29 l0 x5_2).f1), .int .i64 ((rd_T29 l0 x5_2).f2), .int .i64 0, .int .i64 0]) ?_ 3 _ rfl; (with_reducible repeat (first | refine blk_drewN ?_ _ | refine blk_drew ?_ | refine blk_alloc ?_ _)); refine blk_put (cs := #[.int .i64 ((rd_T29 l0 x5_2).f0), .int .i64 ((rd_T29 l0 x5_2).f1), .int .i64 0, .int .i64 0, .int .i64 0]) ?_ 2 _ rfl; (with_reducible repeat (first | refine blk_drewN ?_ _ | refine blk_drew ?_ | refine blk_alloc ?_ _)); refine blk_put (cs := #[.int .i64 ((rd_T29 l0 x5_2).f0), .int .i64 0, .int .i64 0, .int .i64 0, .int .i64 0]) ?_ 1 _ rfl; (with_reducible repeat (first | refine blk_drewN ?_ _ | refine blk_drew ?_ | refine blk_alloc ?_ _)); refine blk_put (cs := #[.int .i64 0, .int .i64 0, .int .i64 0, .int .i64 0, .int .i64 0]) ?_ 0 _ rfl; (with_reducible repeat (first | refine blk_drewN ?_ _ | refine blk_drew ?_ | refine blk_alloc ?_ _)); exact BK193.out) hb); have n2_ := Aside0.mk (below_step (by repeat (first | (with_reducible first | exact HB.out | apply below_alloc | apply pw_below_drewN | apply below_drew1 | refine below_set ?_ GE191.out | refine below_set ?_ GE193.out) | exact HB.out)) hb); clear BK191; clear BK193; clear HB; have BK191 := n0_; have BK193 := n1_; have HB := n2_; clear n0_ n1_ n2_; (try clear hb); (try clear hb2); (try clear hk); (try clear hi); have hcz53_0 : w52.cell? ⟨gb193, 0, none⟩ = some (.int .i64 ((rd_T29 l0 x5_2).f0)) := (blk_cell BK193.out 0).trans rfl; have hcz53_1 : w52.cell? ⟨gb193, 1, none⟩ = some (.int .i64 ((rd_T29 l0 x5_2).f1)) := (blk_cell BK193.out 1).trans rfl; have hcz53_2 : w52.cell? ⟨gb193, 2, none⟩ = some (.int .i64 ((rd_T29 l0 x5_2).f2)) := (blk_cell BK193.out 2).trans rfl; have hcz53_3 : w52.cell? ⟨gb193, 3, none⟩ = some (.int .i64 ((rd_T29 l0 x5_2).f3)) := (blk_cell BK193.out 3).trans rfl; have hcz53_4 : w52.cell? ⟨gb193, 4, none⟩ = some (.int .i64 ((rd_T29 l0 x5_2).f4)) := (blk_cell BK193.out 4).trans rfl; have hfz53_0 := blk_frozen BK193.out 0; have hfz53_1 := blk_frozen BK193.out 1; have hfz53_2 := blk_frozen BK193.out 2; have hfz53_3 := blk_frozen BK193.out 3; have hfz53_4 := blk_frozen BK193.out 4; have hcz54_0 : w52.cell? ⟨gb191, 0, none⟩ = some (.int .i64 ((rd_T29 l0 x3_1).f0)) := (blk_cell BK191.out 0).trans rfl; have hcz54_1 : w52.cell? ⟨gb191, 1, none⟩ = some (.int .i64 ((rd_T29 l0 x3_1).f1)) := (blk_cell BK191.out 1).trans rfl; have hcz54_2 : w52.cell? ⟨gb191, 2, none⟩ = some (.int .i64 ((rd_T29 l0 x3_1).f2)) := (blk_cell BK191.out 2).trans rfl; have hcz54_3 : w52.cell? ⟨gb191, 3, none⟩ = some (.int .i64 ((rd_T29 l0 x3_1).f3)) := (blk_cell BK191.out 3).trans rfl; have hcz54_4 : w52.cell? ⟨gb191, 4, none⟩ = some (.int .i64 ((rd_T29 l0 x3_1).f4)) := (blk_cell BK191.out 4).trans rfl; have hfz54_0 := blk_frozen BK191.out 0; have hfz54_1 := blk_frozen BK191.out 1; have hfz54_2 := blk_frozen BK191.out 2; have hfz54_3 := blk_frozen BK191.out 3; have hfz54_4 := blk_frozen BK191.out 4))
              go_ret
              exact ⟨by first | rfl | (simp [errW_none, errW_some] <;> rfl) | (simp [*, errW_none, errW_some] <;> rfl), by repeat (first | (with_reducible first | exact HB.out | apply below_alloc | apply pw_below_drewN | apply below_drew1 | refine below_set ?_ GE191.out | refine below_set ?_ GE193.out) | exact HB.out)⟩
             ·rw [if_neg c47] at H
              have c47b0 : (((rd_T29 l0 x5_2).f3) == ((rd_T29 l0 x3_1).f3)) = false := beq_eq_false_iff_ne.mpr c47
              have c47b1 : (((rd_T29 l0 x5_2).f3) != ((rd_T29 l0 x3_1).f3)) = true := bne_iff_ne.mpr c47
              have H' := Aside0.mk H
              clear H
              have p192 : 0 ≤ (x5_2 : Int) := of_decide_eq_true (by first | (with_reducible assumption) | assumption)
              have q192 : x5_2 < (l0.length : Int) := of_decide_eq_true (by first | (with_reducible assumption) | assumption)
              obtain ⟨ad192, e192, hx192_0, hx192_1, hx192_2, hx192_3, hx192_4⟩ := at_T29 HR0.out x5_2 p192 q192
              obtain rfl : ad190 = ad192 := (by injection e192)
              replace hx192_0 := (HB.out.cell (World.block_lt_of_cell? w _ hx192_0)).trans hx192_0
              replace hx192_1 := (HB.out.cell (World.block_lt_of_cell? w _ hx192_1)).trans hx192_1
              replace hx192_2 := (HB.out.cell (World.block_lt_of_cell? w _ hx192_2)).trans hx192_2
              replace hx192_3 := (HB.out.cell (World.block_lt_of_cell? w _ hx192_3)).trans hx192_3
              replace hx192_4 := (HB.out.cell (World.block_lt_of_cell? w _ hx192_4)).trans hx192_4
              replace p192 := eq_true p192
              replace q192 := eq_true q192
              go_wp2_with (first | ((with_reducible refine gate_dst (N := 6) rfl ?_); refine box_event ?hg (N := 6) ?hd (cs := #[.int .i64 0, .int .i64 0, .int .i64 0, .int .i64 0, .int .i64 0]) (t := 29) ?hr ?_; (case hd => rfl); (case hg => rfl); (case hr => first | (go_simp; done) | (go_simp; rfl)); intro gb193 hg w55 hbox hb; have n0_ := Aside0.mk (blk_below (g := gb191) (o := .cells #[.int .i64 ((rd_T29 l0 x3_1).f0), .int .i64 ((rd_T29 l0 x3_1).f1), .int .i64 ((rd_T29 l0 x3_1).f2), .int .i64 ((rd_T29 l0 x3_1).f3), .int .i64 ((rd_T29 l0 x3_1).f4)] 29 (0, 0)) (by (with_reducible repeat (first | refine blk_drewN ?_ _ | refine blk_drew ?_ | refine blk_alloc ?_ _)); exact BK191.out) hb); have n1_ := Aside0.mk (below_step (by repeat (first | (with_reducible first | exact HB.out | apply below_alloc | apply pw_below_drewN | apply below_drew1 | refine below_set ?_ GE191.out) | exact HB.out)) hb); have n2_ := Aside0.mk (hbox); have n3_ := Aside0.mk ((by rw [hg]; exact (below_size (by repeat (first | (with_reducible first | exact HB.out | apply below_alloc | apply pw_below_drewN | apply below_drew1 | refine below_set ?_ GE191.out) | exact HB.out))) : w.heap.size ≤ gb193)); have n4_ := Aside0.mk ((by rw [hg]; exact (below_size (by repeat (first | (with_reducible first | exact HB.out | apply below_alloc | apply pw_below_drewN | apply below_drew1 | refine below_set ?_ GE191.out) | exact HB.out))) : w.heap.size ≤ gb193)); have n5_ := Aside0.mk ((by rw [hg]; exact Nat.ne_of_lt (blk_lt (g := gb191) (o := .cells #[.int .i64 ((rd_T29 l0 x3_1).f0), .int .i64 ((rd_T29 l0 x3_1).f1), .int .i64 ((rd_T29 l0 x3_1).f2), .int .i64 ((rd_T29 l0 x3_1).f3), .int .i64 ((rd_T29 l0 x3_1).f4)] 29 (0, 0)) (by (with_reducible repeat (first | refine blk_drewN ?_ _ | refine blk_drew ?_ | refine blk_alloc ?_ _)); exact BK191.out)) : gb191 ≠ gb193)); have n6_ := Aside0.mk ((by rw [hg]; exact Nat.ne_of_gt (blk_lt (g := gb191) (o := .cells #[.int .i64 ((rd_T29 l0 x3_1).f0), .int .i64 ((rd_T29 l0 x3_1).f1), .int .i64 ((rd_T29 l0 x3_1).f2), .int .i64 ((rd_T29 l0 x3_1).f3), .int .i64 ((rd_T29 l0 x3_1).f4)] 29 (0, 0)) (by (with_reducible repeat (first | refine blk_drewN ?_ _ | refine blk_drew ?_ | refine blk_alloc ?_ _)); exact BK191.out)) : gb193 ≠ gb191)); clear BK191; clear HB; have BK191 := n0_; have HB := n1_; have BK193 := n2_; have GW193 := n3_; have GE193 := n4_; have NB191_193 := n5_; have NB193_191 := n6_; clear n0_ n1_ n2_ n3_ n4_ n5_ n6_; clear hb hbox hg; have hnb56 := NB193_191.out; have hnc56 := NB191_193.out; have hcz57_0 : w55.cell? ⟨gb193, 0, none⟩ = some (.int .i64 0) := (blk_cell BK193.out 0).trans rfl; have hcz57_1 : w55.cell? ⟨gb193, 1, none⟩ = some (.int .i64 0) := (blk_cell BK193.out 1).trans rfl; have hcz57_2 : w55.cell? ⟨gb193, 2, none⟩ = some (.int .i64 0) := (blk_cell BK193.out 2).trans rfl; have hcz57_3 : w55.cell? ⟨gb193, 3, none⟩ = some (.int .i64 0) := (blk_cell BK193.out 3).trans rfl; have hcz57_4 : w55.cell? ⟨gb193, 4, none⟩ = some (.int .i64 0) := (blk_cell BK193.out 4).trans rfl; have hfz57_0 := blk_frozen BK193.out 0; have hfz57_1 := blk_frozen BK193.out 1; have hfz57_2 := blk_frozen BK193.out 2; have hfz57_3 := blk_frozen BK193.out 3; have hfz57_4 := blk_frozen BK193.out 4; have hcz58_0 : w55.cell? ⟨gb191, 0, none⟩ = some (.int .i64 ((rd_T29 l0 x3_1).f0)) := (blk_cell BK191.out 0).trans rfl; have hcz58_1 : w55.cell? ⟨gb191, 1, none⟩ = some (.int .i64 ((rd_T29 l0 x3_1).f1)) := (blk_cell BK191.out 1).trans rfl; have hcz58_2 : w55.cell? ⟨gb191, 2, none⟩ = some (.int .i64 ((rd_T29 l0 x3_1).f2)) := (blk_cell BK191.out 2).trans rfl; have hcz58_3 : w55.cell? ⟨gb191, 3, none⟩ = some (.int .i64 ((rd_T29 l0 x3_1).f3)) := (blk_cell BK191.out 3).trans rfl; have hcz58_4 : w55.cell? ⟨gb191, 4, none⟩ = some (.int .i64 ((rd_T29 l0 x3_1).f4)) := (blk_cell BK191.out 4).trans rfl; have hfz58_0 := blk_frozen BK191.out 0; have hfz58_1 := blk_frozen BK191.out 1; have hfz58_2 := blk_frozen BK191.out 2; have hfz58_3 := blk_frozen BK191.out 3; have hfz58_4 := blk_frozen BK191.out 4) | ((with_reducible refine gate_callee (f := 35) rfl ?_); refine goesL_ (some 53) rfl rfl Try.func35 (by kernel_rfl) rfl #[.agg #[.int .i64 ((rd_T29 l0 x5_2).f0), .int .i64 ((rd_T29 l0 x5_2).f1), .int .i64 ((rd_T29 l0 x5_2).f2), .int .i64 ((rd_T29 l0 x5_2).f3), .int .i64 ((rd_T29 l0 x5_2).f4)]] rfl (by (try simp only [List.map_toArray, List.map_cons, List.map_nil]); first | done | rfl | (simp only [List.length_drop, List.length_take]; rfl)) ?_; (with_reducible refine (logjamref38_access.calls ((rd_T29 l0 x5_2).f0) ((rd_T29 l0 x5_2).f1) ((rd_T29 l0 x5_2).f2) ((rd_T29 l0 x5_2).f3) ((rd_T29 l0 x5_2).f4) true _ A45.out).mono ?_); rintro e w59 ⟨rfl, hb⟩; refine ⟨_, rfl, ?_⟩; have n0_ := Aside0.mk (blk_below (g := gb191) (o := .cells #[.int .i64 ((rd_T29 l0 x3_1).f0), .int .i64 ((rd_T29 l0 x3_1).f1), .int .i64 ((rd_T29 l0 x3_1).f2), .int .i64 ((rd_T29 l0 x3_1).f3), .int .i64 ((rd_T29 l0 x3_1).f4)] 29 (0, 0)) (by (with_reducible repeat (first | refine blk_drewN ?_ _ | refine blk_drew ?_ | refine blk_alloc ?_ _)); refine blk_far ?_ NB191_193.out _; (with_reducible repeat (first | refine blk_drewN ?_ _ | refine blk_drew ?_ | refine blk_alloc ?_ _)); refine blk_far ?_ NB191_193.out _; (with_reducible repeat (first | refine blk_drewN ?_ _ | refine blk_drew ?_ | refine blk_alloc ?_ _)); refine blk_far ?_ NB191_193.out _; (with_reducible repeat (first | refine blk_drewN ?_ _ | refine blk_drew ?_ | refine blk_alloc ?_ _)); refine blk_far ?_ NB191_193.out _; (with_reducible repeat (first | refine blk_drewN ?_ _ | refine blk_drew ?_ | refine blk_alloc ?_ _)); refine blk_far ?_ NB191_193.out _; (with_reducible repeat (first | refine blk_drewN ?_ _ | refine blk_drew ?_ | refine blk_alloc ?_ _)); exact BK191.out) hb); have n1_ := Aside0.mk (blk_below (g := gb193) (o := .cells #[.int .i64 ((rd_T29 l0 x5_2).f0), .int .i64 ((rd_T29 l0 x5_2).f1), .int .i64 ((rd_T29 l0 x5_2).f2), .int .i64 ((rd_T29 l0 x5_2).f3), .int .i64 ((rd_T29 l0 x5_2).f4)] 29 (0, 0)) (by (with_reducible repeat (first | refine blk_drewN ?_ _ | refine blk_drew ?_ | refine blk_alloc ?_ _)); refine blk_put (cs := #[.int .i64 ((rd_T29 l0 x5_2).f0), .int .i64 ((rd_T29 l0 x5_2).f1), .int .i64 ((rd_T29 l0 x5_2).f2), .int .i64 ((rd_T29 l0 x5_2).f3), .int .i64 0]) ?_ 4 _ rfl; (with_reducible repeat (first | refine blk_drewN ?_ _ | refine blk_drew ?_ | refine blk_alloc ?_ _)); refine blk_put (cs := #[.int .i64 ((rd_T29 l0 x5_2).f0), .int .i64 ((rd_T29 l0 x5_2).f1), .int .i64 ((rd_T29 l0 x5_2).f2), .int .i64 0, .int .i64 0]) ?_ 3 _ rfl; (with_reducible repeat (first | refine blk_drewN ?_ _ | refine blk_drew ?_ | refine blk_alloc ?_ _)); refine blk_put (cs := #[.int .i64 ((rd_T29 l0 x5_2).f0), .int .i64 ((rd_T29 l0 x5_2).f1), .int .i64 0, .int .i64 0, .int .i64 0]) ?_ 2 _ rfl; (with_reducible repeat (first | refine blk_drewN ?_ _ | refine blk_drew ?_ | refine blk_alloc ?_ _)); refine blk_put (cs := #[.int .i64 ((rd_T29 l0 x5_2).f0), .int .i64 0, .int .i64 0, .int .i64 0, .int .i64 0]) ?_ 1 _ rfl; (with_reducible repeat (first | refine blk_drewN ?_ _ | refine blk_drew ?_ | refine blk_alloc ?_ _)); refine blk_put (cs := #[.int .i64 0, .int .i64 0, .int .i64 0, .int .i64 0, .int .i64 0]) ?_ 0 _ rfl; (with_reducible repeat (first | refine blk_drewN ?_ _ | refine blk_drew ?_ | refine blk_alloc ?_ _)); exact BK193.out) hb); have n2_ := Aside0.mk (below_step (by repeat (first | (with_reducible first | exact HB.out | apply below_alloc | apply pw_below_drewN | apply below_drew1 | refine below_set ?_ GE191.out | refine below_set ?_ GE193.out) | exact HB.out)) hb); clear BK191; clear BK193; clear HB; have BK191 := n0_; have BK193 := n1_; have HB := n2_; clear n0_ n1_ n2_; (try clear hb); (try clear hb2); (try clear hk); (try clear hi); have hcz60_0 : w59.cell? ⟨gb193, 0, none⟩ = some (.int .i64 ((rd_T29 l0 x5_2).f0)) := (blk_cell BK193.out 0).trans rfl; have hcz60_1 : w59.cell? ⟨gb193, 1, none⟩ = some (.int .i64 ((rd_T29 l0 x5_2).f1)) := (blk_cell BK193.out 1).trans rfl; have hcz60_2 : w59.cell? ⟨gb193, 2, none⟩ = some (.int .i64 ((rd_T29 l0 x5_2).f2)) := (blk_cell BK193.out 2).trans rfl; have hcz60_3 : w59.cell? ⟨gb193, 3, none⟩ = some (.int .i64 ((rd_T29 l0 x5_2).f3)) := (blk_cell BK193.out 3).trans rfl; have hcz60_4 : w59.cell? ⟨gb193, 4, none⟩ = some (.int .i64 ((rd_T29 l0 x5_2).f4)) := (blk_cell BK193.out 4).trans rfl; have hfz60_0 := blk_frozen BK193.out 0; have hfz60_1 := blk_frozen BK193.out 1; have hfz60_2 := blk_frozen BK193.out 2; have hfz60_3 := blk_frozen BK193.out 3; have hfz60_4 := blk_frozen BK193.out 4; have hcz61_0 : w59.cell? ⟨gb191, 0, none⟩ = some (.int .i64 ((rd_T29 l0 x3_1).f0)) := (blk_cell BK191.out 0).trans rfl; have hcz61_1 : w59.cell? ⟨gb191, 1, none⟩ = some (.int .i64 ((rd_T29 l0 x3_1).f1)) := (blk_cell BK191.out 1).trans rfl; have hcz61_2 : w59.cell? ⟨gb191, 2, none⟩ = some (.int .i64 ((rd_T29 l0 x3_1).f2)) := (blk_cell BK191.out 2).trans rfl; have hcz61_3 : w59.cell? ⟨gb191, 3, none⟩ = some (.int .i64 ((rd_T29 l0 x3_1).f3)) := (blk_cell BK191.out 3).trans rfl; have hcz61_4 : w59.cell? ⟨gb191, 4, none⟩ = some (.int .i64 ((rd_T29 l0 x3_1).f4)) := (blk_cell BK191.out 4).trans rfl; have hfz61_0 := blk_frozen BK191.out 0; have hfz61_1 := blk_frozen BK191.out 1; have hfz61_2 := blk_frozen BK191.out 2; have hfz61_3 := blk_frozen BK191.out 3; have hfz61_4 := blk_frozen BK191.out 4))
              go_roundg k2
              case measure => have := HK1.out; have := HK2.out; omega
              case rel => exact ⟨(wrap64 (x5_2 + 1)), (by first | rfl | (simp; done) | (simp only [emptyNe_, emptyEq_]; done) | (simp [*]; done)), H', ⟨by have := HK1.out; have := HK2.out; omega⟩, ⟨by (with_reducible repeat (first | refine blk_drewN ?_ _ | refine blk_drew ?_ | refine blk_alloc ?_ _)); exact BK191.out⟩, ⟨by repeat (first | (with_reducible first | exact HB.out | apply below_alloc | apply pw_below_drewN | apply below_drew1 | refine below_set ?_ GE191.out | refine below_set ?_ GE193.out) | exact HB.out)⟩⟩
            ·replace c46 := Bool.eq_false_iff.mpr c46
             subst c46
             have H1 : (logjamref38_Strict.l1 k2 l0 x3_1 (wrap64 (x5_2 + 1)) ((rd_T29 l0 x3_1).f0) ((rd_T29 l0 x3_1).f1) ((rd_T29 l0 x3_1).f2) ((rd_T29 l0 x3_1).f3) ((rd_T29 l0 x3_1).f4)) = some r := by rw [if_neg (show ¬ (false = true) by decide)] at H; exact H
             clear H
             have H := H1
             clear H1
             have H' := Aside0.mk H
             clear H
             have p192 : 0 ≤ (x5_2 : Int) := of_decide_eq_true (by first | (with_reducible assumption) | assumption)
             have q192 : x5_2 < (l0.length : Int) := of_decide_eq_true (by first | (with_reducible assumption) | assumption)
             obtain ⟨ad192, e192, hx192_0, hx192_1, hx192_2, hx192_3, hx192_4⟩ := at_T29 HR0.out x5_2 p192 q192
             obtain rfl : ad190 = ad192 := (by injection e192)
             replace hx192_0 := (HB.out.cell (World.block_lt_of_cell? w _ hx192_0)).trans hx192_0
             replace hx192_1 := (HB.out.cell (World.block_lt_of_cell? w _ hx192_1)).trans hx192_1
             replace hx192_2 := (HB.out.cell (World.block_lt_of_cell? w _ hx192_2)).trans hx192_2
             replace hx192_3 := (HB.out.cell (World.block_lt_of_cell? w _ hx192_3)).trans hx192_3
             replace hx192_4 := (HB.out.cell (World.block_lt_of_cell? w _ hx192_4)).trans hx192_4
             replace p192 := eq_true p192
             replace q192 := eq_true q192
             go_wp2_with (first | ((with_reducible refine gate_dst (N := 6) rfl ?_); refine box_event ?hg (N := 6) ?hd (cs := #[.int .i64 0, .int .i64 0, .int .i64 0, .int .i64 0, .int .i64 0]) (t := 29) ?hr ?_; (case hd => rfl); (case hg => rfl); (case hr => first | (go_simp; done) | (go_simp; rfl)); intro gb193 hg w62 hbox hb; have n0_ := Aside0.mk (blk_below (g := gb191) (o := .cells #[.int .i64 ((rd_T29 l0 x3_1).f0), .int .i64 ((rd_T29 l0 x3_1).f1), .int .i64 ((rd_T29 l0 x3_1).f2), .int .i64 ((rd_T29 l0 x3_1).f3), .int .i64 ((rd_T29 l0 x3_1).f4)] 29 (0, 0)) (by (with_reducible repeat (first | refine blk_drewN ?_ _ | refine blk_drew ?_ | refine blk_alloc ?_ _)); exact BK191.out) hb); have n1_ := Aside0.mk (below_step (by repeat (first | (with_reducible first | exact HB.out | apply below_alloc | apply pw_below_drewN | apply below_drew1 | refine below_set ?_ GE191.out) | exact HB.out)) hb); have n2_ := Aside0.mk (hbox); have n3_ := Aside0.mk ((by rw [hg]; exact (below_size (by repeat (first | (with_reducible first | exact HB.out | apply below_alloc | apply pw_below_drewN | apply below_drew1 | refine below_set ?_ GE191.out) | exact HB.out))) : w.heap.size ≤ gb193)); have n4_ := Aside0.mk ((by rw [hg]; exact (below_size (by repeat (first | (with_reducible first | exact HB.out | apply below_alloc | apply pw_below_drewN | apply below_drew1 | refine below_set ?_ GE191.out) | exact HB.out))) : w.heap.size ≤ gb193)); have n5_ := Aside0.mk ((by rw [hg]; exact Nat.ne_of_lt (blk_lt (g := gb191) (o := .cells #[.int .i64 ((rd_T29 l0 x3_1).f0), .int .i64 ((rd_T29 l0 x3_1).f1), .int .i64 ((rd_T29 l0 x3_1).f2), .int .i64 ((rd_T29 l0 x3_1).f3), .int .i64 ((rd_T29 l0 x3_1).f4)] 29 (0, 0)) (by (with_reducible repeat (first | refine blk_drewN ?_ _ | refine blk_drew ?_ | refine blk_alloc ?_ _)); exact BK191.out)) : gb191 ≠ gb193)); have n6_ := Aside0.mk ((by rw [hg]; exact Nat.ne_of_gt (blk_lt (g := gb191) (o := .cells #[.int .i64 ((rd_T29 l0 x3_1).f0), .int .i64 ((rd_T29 l0 x3_1).f1), .int .i64 ((rd_T29 l0 x3_1).f2), .int .i64 ((rd_T29 l0 x3_1).f3), .int .i64 ((rd_T29 l0 x3_1).f4)] 29 (0, 0)) (by (with_reducible repeat (first | refine blk_drewN ?_ _ | refine blk_drew ?_ | refine blk_alloc ?_ _)); exact BK191.out)) : gb193 ≠ gb191)); clear BK191; clear HB; have BK191 := n0_; have HB := n1_; have BK193 := n2_; have GW193 := n3_; have GE193 := n4_; have NB191_193 := n5_; have NB193_191 := n6_; clear n0_ n1_ n2_ n3_ n4_ n5_ n6_; clear hb hbox hg; have hnb63 := NB193_191.out; have hnc63 := NB191_193.out; have hcz64_0 : w62.cell? ⟨gb193, 0, none⟩ = some (.int .i64 0) := (blk_cell BK193.out 0).trans rfl; have hcz64_1 : w62.cell? ⟨gb193, 1, none⟩ = some (.int .i64 0) := (blk_cell BK193.out 1).trans rfl; have hcz64_2 : w62.cell? ⟨gb193, 2, none⟩ = some (.int .i64 0) := (blk_cell BK193.out 2).trans rfl; have hcz64_3 : w62.cell? ⟨gb193, 3, none⟩ = some (.int .i64 0) := (blk_cell BK193.out 3).trans rfl; have hcz64_4 : w62.cell? ⟨gb193, 4, none⟩ = some (.int .i64 0) := (blk_cell BK193.out 4).trans rfl; have hfz64_0 := blk_frozen BK193.out 0; have hfz64_1 := blk_frozen BK193.out 1; have hfz64_2 := blk_frozen BK193.out 2; have hfz64_3 := blk_frozen BK193.out 3; have hfz64_4 := blk_frozen BK193.out 4; have hcz65_0 : w62.cell? ⟨gb191, 0, none⟩ = some (.int .i64 ((rd_T29 l0 x3_1).f0)) := (blk_cell BK191.out 0).trans rfl; have hcz65_1 : w62.cell? ⟨gb191, 1, none⟩ = some (.int .i64 ((rd_T29 l0 x3_1).f1)) := (blk_cell BK191.out 1).trans rfl; have hcz65_2 : w62.cell? ⟨gb191, 2, none⟩ = some (.int .i64 ((rd_T29 l0 x3_1).f2)) := (blk_cell BK191.out 2).trans rfl; have hcz65_3 : w62.cell? ⟨gb191, 3, none⟩ = some (.int .i64 ((rd_T29 l0 x3_1).f3)) := (blk_cell BK191.out 3).trans rfl; have hcz65_4 : w62.cell? ⟨gb191, 4, none⟩ = some (.int .i64 ((rd_T29 l0 x3_1).f4)) := (blk_cell BK191.out 4).trans rfl; have hfz65_0 := blk_frozen BK191.out 0; have hfz65_1 := blk_frozen BK191.out 1; have hfz65_2 := blk_frozen BK191.out 2; have hfz65_3 := blk_frozen BK191.out 3; have hfz65_4 := blk_frozen BK191.out 4) | ((with_reducible refine gate_callee (f := 35) rfl ?_); refine goesL_ (some 53) rfl rfl Try.func35 (by kernel_rfl) rfl #[.agg #[.int .i64 ((rd_T29 l0 x5_2).f0), .int .i64 ((rd_T29 l0 x5_2).f1), .int .i64 ((rd_T29 l0 x5_2).f2), .int .i64 ((rd_T29 l0 x5_2).f3), .int .i64 ((rd_T29 l0 x5_2).f4)]] rfl (by (try simp only [List.map_toArray, List.map_cons, List.map_nil]); first | done | rfl | (simp only [List.length_drop, List.length_take]; rfl)) ?_; (with_reducible refine (logjamref38_access.calls ((rd_T29 l0 x5_2).f0) ((rd_T29 l0 x5_2).f1) ((rd_T29 l0 x5_2).f2) ((rd_T29 l0 x5_2).f3) ((rd_T29 l0 x5_2).f4) false _ A45.out).mono ?_); rintro e w66 ⟨rfl, hb⟩; refine ⟨_, rfl, ?_⟩; have n0_ := Aside0.mk (blk_below (g := gb191) (o := .cells #[.int .i64 ((rd_T29 l0 x3_1).f0), .int .i64 ((rd_T29 l0 x3_1).f1), .int .i64 ((rd_T29 l0 x3_1).f2), .int .i64 ((rd_T29 l0 x3_1).f3), .int .i64 ((rd_T29 l0 x3_1).f4)] 29 (0, 0)) (by (with_reducible repeat (first | refine blk_drewN ?_ _ | refine blk_drew ?_ | refine blk_alloc ?_ _)); refine blk_far ?_ NB191_193.out _; (with_reducible repeat (first | refine blk_drewN ?_ _ | refine blk_drew ?_ | refine blk_alloc ?_ _)); refine blk_far ?_ NB191_193.out _; (with_reducible repeat (first | refine blk_drewN ?_ _ | refine blk_drew ?_ | refine blk_alloc ?_ _)); refine blk_far ?_ NB191_193.out _; (with_reducible repeat (first | refine blk_drewN ?_ _ | refine blk_drew ?_ | refine blk_alloc ?_ _)); refine blk_far ?_ NB191_193.out _; (with_reducible repeat (first | refine blk_drewN ?_ _ | refine blk_drew ?_ | refine blk_alloc ?_ _)); refine blk_far ?_ NB191_193.out _; (with_reducible repeat (first | refine blk_drewN ?_ _ | refine blk_drew ?_ | refine blk_alloc ?_ _)); exact BK191.out) hb); have n1_ := Aside0.mk (blk_below (g := gb193) (o := .cells #[.int .i64 ((rd_T29 l0 x5_2).f0), .int .i64 ((rd_T29 l0 x5_2).f1), .int .i64 ((rd_T29 l0 x5_2).f2), .int .i64 ((rd_T29 l0 x5_2).f3), .int .i64 ((rd_T29 l0 x5_2).f4)] 29 (0, 0)) (by (with_reducible repeat (first | refine blk_drewN ?_ _ | refine blk_drew ?_ | refine blk_alloc ?_ _)); refine blk_put (cs := #[.int .i64 ((rd_T29 l0 x5_2).f0), .int .i64 ((rd_T29 l0 x5_2).f1), .int .i64 ((rd_T29 l0 x5_2).f2), .int .i64 ((rd_T29 l0 x5_2).f3), .int .i64 0]) ?_ 4 _ rfl; (with_reducible repeat (first | refine blk_drewN ?_ _ | refine blk_drew ?_ | refine blk_alloc ?_ _)); refine blk_put (cs := #[.int .i64 ((rd_T29 l0 x5_2).f0), .int .i64 ((rd_T29 l0 x5_2).f1), .int .i64 ((rd_T29 l0 x5_2).f2), .int .i64 0, .int .i64 0]) ?_ 3 _ rfl; (with_reducible repeat (first | refine blk_drewN ?_ _ | refine blk_drew ?_ | refine blk_alloc ?_ _)); refine blk_put (cs := #[.int .i64 ((rd_T29 l0 x5_2).f0), .int .i64 ((rd_T29 l0 x5_2).f1), .int .i64 0, .int .i64 0, .int .i64 0]) ?_ 2 _ rfl; (with_reducible repeat (first | refine blk_drewN ?_ _ | refine blk_drew ?_ | refine blk_alloc ?_ _)); refine blk_put (cs := #[.int .i64 ((rd_T29 l0 x5_2).f0), .int .i64 0, .int .i64 0, .int .i64 0, .int .i64 0]) ?_ 1 _ rfl; (with_reducible repeat (first | refine blk_drewN ?_ _ | refine blk_drew ?_ | refine blk_alloc ?_ _)); refine blk_put (cs := #[.int .i64 0, .int .i64 0, .int .i64 0, .int .i64 0, .int .i64 0]) ?_ 0 _ rfl; (with_reducible repeat (first | refine blk_drewN ?_ _ | refine blk_drew ?_ | refine blk_alloc ?_ _)); exact BK193.out) hb); have n2_ := Aside0.mk (below_step (by repeat (first | (with_reducible first | exact HB.out | apply below_alloc | apply pw_below_drewN | apply below_drew1 | refine below_set ?_ GE191.out | refine below_set ?_ GE193.out) | exact HB.out)) hb); clear BK191; clear BK193; clear HB; have BK191 := n0_; have BK193 := n1_; have HB := n2_; clear n0_ n1_ n2_; (try clear hb); (try clear hb2); (try clear hk); (try clear hi)))
             go_roundg k2
             case measure => have := HK1.out; have := HK2.out; omega
             case rel => exact ⟨(wrap64 (x5_2 + 1)), (by first | rfl | (simp; done) | (simp only [emptyNe_, emptyEq_]; done) | (simp [*]; done)), H', ⟨by have := HK1.out; have := HK2.out; omega⟩, ⟨by (with_reducible repeat (first | refine blk_drewN ?_ _ | refine blk_drew ?_ | refine blk_alloc ?_ _)); exact BK191.out⟩, ⟨by repeat (first | (with_reducible first | exact HB.out | apply below_alloc | apply pw_below_drewN | apply below_drew1 | refine below_set ?_ GE191.out | refine below_set ?_ GE193.out) | exact HB.out)⟩⟩
          ·rw [if_neg c11] at H
           exact absurd H (by simp)
         ·rw [if_neg c10] at H
          have c10b0 : decide (x5_2 < (l0.length : Int)) = false := decide_eq_false c10
          clear c10
          have H' := Aside0.mk H
          clear H
          go_wp2
          go_roundg k2
          case measure => have := HK1.out; have := HK2.out; omega
          case rel => exact ⟨(wrap64 (x3_1 + 1)), (by first | rfl | (simp; done) | (simp only [emptyNe_, emptyEq_]; done) | (simp [*]; done)), H', ⟨by have := HK1.out; have := HK2.out; omega⟩, ⟨by repeat (first | (with_reducible first | exact HB.out | apply below_alloc | apply pw_below_drewN | apply below_drew1 | refine below_set ?_ GE191.out) | exact HB.out)⟩⟩
     ·rw [if_neg c4] at H
      have c4b0 : (((rd_T29 l0 x3_1).f0) == 2) = false := beq_eq_false_iff_ne.mpr c4
      have c4b1 : (((rd_T29 l0 x3_1).f0) != 2) = true := bne_iff_ne.mpr c4
      have H' := Aside0.mk H
      clear H
      have p190 : 0 ≤ (x3_1 : Int) := of_decide_eq_true (by first | (with_reducible assumption) | assumption)
      have q190 : x3_1 < (l0.length : Int) := of_decide_eq_true (by first | (with_reducible assumption) | assumption)
      obtain ⟨ad190, e190, hx190_0, hx190_1, hx190_2, hx190_3, hx190_4⟩ := at_T29 HR0.out x3_1 p190 q190
      cases e190
      replace hx190_0 := (HB.out.cell (World.block_lt_of_cell? w _ hx190_0)).trans hx190_0
      replace hx190_1 := (HB.out.cell (World.block_lt_of_cell? w _ hx190_1)).trans hx190_1
      replace hx190_2 := (HB.out.cell (World.block_lt_of_cell? w _ hx190_2)).trans hx190_2
      replace hx190_3 := (HB.out.cell (World.block_lt_of_cell? w _ hx190_3)).trans hx190_3
      replace hx190_4 := (HB.out.cell (World.block_lt_of_cell? w _ hx190_4)).trans hx190_4
      replace p190 := eq_true p190
      replace q190 := eq_true q190
      go_wp2_with (first | ((with_reducible refine gate_dst (N := 4) rfl ?_); refine box_event ?hg (N := 4) ?hd (cs := #[.int .i64 0, .int .i64 0, .int .i64 0, .int .i64 0, .int .i64 0]) (t := 29) ?hr ?_; (case hd => rfl); (case hg => rfl); (case hr => first | (go_simp; done) | (go_simp; rfl)); intro gb191 hg w67 hbox hb; have n0_ := Aside0.mk (below_step (by repeat (first | (with_reducible first | exact HB.out | apply below_alloc | apply pw_below_drewN | apply below_drew1) | exact HB.out)) hb); have n1_ := Aside0.mk (hbox); have n2_ := Aside0.mk ((by rw [hg]; exact (below_size (by repeat (first | (with_reducible first | exact HB.out | apply below_alloc | apply pw_below_drewN | apply below_drew1) | exact HB.out))) : w.heap.size ≤ gb191)); have n3_ := Aside0.mk ((by rw [hg]; exact (below_size (by repeat (first | (with_reducible first | exact HB.out | apply below_alloc | apply pw_below_drewN | apply below_drew1) | exact HB.out))) : w.heap.size ≤ gb191)); clear HB; have HB := n0_; have BK191 := n1_; have GW191 := n2_; have GE191 := n3_; clear n0_ n1_ n2_ n3_; clear hb hbox hg; have hcz68_0 : w67.cell? ⟨gb191, 0, none⟩ = some (.int .i64 0) := (blk_cell BK191.out 0).trans rfl; have hcz68_1 : w67.cell? ⟨gb191, 1, none⟩ = some (.int .i64 0) := (blk_cell BK191.out 1).trans rfl; have hcz68_2 : w67.cell? ⟨gb191, 2, none⟩ = some (.int .i64 0) := (blk_cell BK191.out 2).trans rfl; have hcz68_3 : w67.cell? ⟨gb191, 3, none⟩ = some (.int .i64 0) := (blk_cell BK191.out 3).trans rfl; have hcz68_4 : w67.cell? ⟨gb191, 4, none⟩ = some (.int .i64 0) := (blk_cell BK191.out 4).trans rfl; have hfz68_0 := blk_frozen BK191.out 0; have hfz68_1 := blk_frozen BK191.out 1; have hfz68_2 := blk_frozen BK191.out 2; have hfz68_3 := blk_frozen BK191.out 3; have hfz68_4 := blk_frozen BK191.out 4))
      go_roundg k1
      case measure => have := HK1.out; omega
      case rel => exact ⟨(wrap64 (x3_1 + 1)), (by first | rfl | (simp; done) | (simp only [emptyNe_, emptyEq_]; done) | (simp [*]; done)), H', ⟨by have := HK1.out; omega⟩, ⟨by repeat (first | (with_reducible first | exact HB.out | apply below_alloc | apply pw_below_drewN | apply below_drew1 | refine below_set ?_ GE191.out) | exact HB.out)⟩⟩
    ·rw [if_neg c3] at H
     exact absurd H (by simp)
   ·rw [if_neg c2] at H
    have c2b0 : decide (x3_1 < (l0.length : Int)) = false := decide_eq_false c2
    clear c2
    obtain rfl := Option.some.inj H
    go_wp2
    go_ret
    exact ⟨by first | rfl | (simp [errW_none, errW_some] <;> rfl) | (simp [*, errW_none, errW_some] <;> rfl), by repeat (first | (with_reducible first | exact HB.out | apply below_alloc | apply pw_below_drewN | apply below_drew1) | exact HB.out)⟩
end Go.Proofs.Ytadepdeckapgcaa.PHi
end

section
namespace Go.Proofs.Ytadepdeckapgcaa.Hi
open Go.RowKit Go.Proofs.YtadepdeckapgcaaW.PrintWords Go.Proofs.YtadepdeckapgcaaW.PrintLast Go.Proofs.YtadepdeckapgcaaW.PrintMore Go.Proofs.Ytadepdeckapgcaa.PHi Go.Proofs.Ytadepdeckapgcaa.Orc
set_option linter.unusedVariables false
set_option linter.unusedSimpArgs false
def frR (m : List Mk) (left : List Int) (b : Int) : Bool := !left.any (fun a => a != b && rconf a b m)
theorem frB_eq (m : List Mk) (left : List Int) : frB m left = frR m left := by
  funext b
  unfold frB frR
  congr 2
  funext a
  unfold ahd
  rw [conf_eq]
def pkR (fr : Int → Bool) : Int → List Int → Int
  | x, [] => x
  | x, b :: r => pkR fr (if fr b = true then (if x = 0 then b else if b < x then b else x) else x) r
theorem pkR_spec (fr : Int → Bool) : ∀ (l : List Int) (x : Int), 0 ≤ x → (∀ b ∈ l, 0 < b) → (pkR fr x l = x ∨ (pkR fr x l ∈ l ∧ fr (pkR fr x l) = true)) ∧ (x ≠ 0 → pkR fr x l ≠ 0 ∧ pkR fr x l ≤ x) ∧ ∀ b ∈ l, fr b = true → pkR fr x l ≠ 0 ∧ pkR fr x l ≤ b
  | [], x, h0, h => ⟨.inl rfl, fun h => ⟨h, Int.le_refl _⟩, fun b hb => by cases hb⟩
  | b :: r, x, h0, h => by
    have hb := h b List.mem_cons_self
    have hr : ∀ c ∈ r, 0 < c := fun c hc => h c (List.mem_cons_of_mem _ hc)
    unfold pkR
    by_cases hf : fr b = true
    · rw [if_pos hf]
      by_cases hx : x = 0
      · rw [if_pos hx]
        obtain ⟨h1, h2, h3⟩ := pkR_spec fr r b (by omega) hr
        obtain ⟨h4, h5⟩ := h2 (by omega)
        refine ⟨.inr ?_, fun q => absurd hx q, fun c hc hfc => ?_⟩
        · rcases h1 with e | ⟨e, f⟩
          · rw [e]; exact ⟨List.mem_cons_self, hf⟩
          · exact ⟨List.mem_cons_of_mem _ e, f⟩
        · rcases List.mem_cons.1 hc with rfl | hc
          · exact ⟨h4, h5⟩
          · exact h3 c hc hfc
      · rw [if_neg hx]
        by_cases hlt : b < x
        · rw [if_pos hlt]
          obtain ⟨h1, h2, h3⟩ := pkR_spec fr r b (by omega) hr
          obtain ⟨h4, h5⟩ := h2 (by omega)
          refine ⟨.inr ?_, fun q => ⟨h4, by omega⟩, fun c hc hfc => ?_⟩
          · rcases h1 with e | ⟨e, f⟩
            · rw [e]; exact ⟨List.mem_cons_self, hf⟩
            · exact ⟨List.mem_cons_of_mem _ e, f⟩
          · rcases List.mem_cons.1 hc with rfl | hc
            · exact ⟨h4, h5⟩
            · exact h3 c hc hfc
        · rw [if_neg hlt]
          obtain ⟨h1, h2, h3⟩ := pkR_spec fr r x h0 hr
          obtain ⟨h4, h5⟩ := h2 hx
          refine ⟨?_, fun q => ⟨h4, h5⟩, fun c hc hfc => ?_⟩
          · rcases h1 with e | ⟨e, f⟩
            · exact .inl e
            · exact .inr ⟨List.mem_cons_of_mem _ e, f⟩
          · rcases List.mem_cons.1 hc with rfl | hc
            · exact ⟨h4, by omega⟩
            · exact h3 c hc hfc
    · rw [if_neg hf]
      obtain ⟨h1, h2, h3⟩ := pkR_spec fr r x h0 hr
      refine ⟨?_, h2, fun c hc hfc => ?_⟩
      · rcases h1 with e | ⟨e, f⟩
        · exact .inl e
        · exact .inr ⟨List.mem_cons_of_mem _ e, f⟩
      · rcases List.mem_cons.1 hc with rfl | hc
        · exact absurd hfc hf
        · exact h3 c hc hfc
theorem idxP_spec (p : Int → Bool) : ∀ (l : List Int) (k : Nat), (idxP p k l = -1 ∧ ∀ x ∈ l, p x = false) ∨ ∃ i, ∃ h : i < l.length, idxP p k l = ((k + i : Nat) : Int) ∧ p l[i] = true ∧ ∀ j (hj : j < i), p (l[j]'(by omega)) = false
  | [], k => .inl ⟨rfl, fun x hx => by cases hx⟩
  | x :: r, k => by
    by_cases q : p x = true
    · exact .inr ⟨0, by simp, by simp [idxP, q], q, fun j hj => by omega⟩
    · have e : idxP p k (x :: r) = idxP p (k + 1) r := by simp only [idxP]; rw [if_neg q]
      rw [e]
      rcases idxP_spec p r (k + 1) with ⟨h1, h2⟩ | ⟨i, hi, h1, h2, h3⟩
      · exact .inl ⟨h1, fun y hy => by rcases List.mem_cons.1 hy with rfl | hy; simpa using q; exact h2 y hy⟩
      · refine .inr ⟨i + 1, by simpa using hi, by rw [h1]; congr 1; omega, by simpa using h2, fun j hj => ?_⟩
        cases j with
        | zero => simpa using q
        | succ j => simpa using h3 j (by omega)
theorem erase_filter : ∀ (S : List Int) (i : Nat) (hi : i < S.length), S.Nodup → S.eraseIdx i = S.filter (fun x => x != S[i])
  | x :: r, 0, hi, h => by
    rw [List.nodup_cons] at h
    simp only [List.eraseIdx_cons_zero, List.getElem_cons_zero, List.filter_cons, bne_self_eq_false, Bool.false_eq_true, if_false]
    symm
    rw [List.filter_eq_self]
    intro y hy
    simp only [bne_iff_ne, ne_eq]
    rintro rfl; exact h.1 hy
  | x :: r, i + 1, hi, h => by
    rw [List.nodup_cons] at h
    have hi' : i < r.length := by simpa using hi
    have hne : (x != r[i]) = true := by
      simp only [bne_iff_ne, ne_eq]; intro e; exact h.1 (e ▸ List.getElem_mem hi')
    rw [List.eraseIdx_cons_succ, List.getElem_cons_succ, List.filter_cons, hne, if_pos rfl, erase_filter r i hi' h.2]
theorem filter_len (l : List Int) (b : Int) (h : l.Nodup) (hb : b ∈ l) : (l.filter (fun x => x != b)).length + 1 = l.length := by
  rw [← h.erase_eq_filter, List.length_erase_of_mem hb]
  have := List.length_pos_of_mem hb
  omega
def rser (m : List Mk) : Nat → List Int → List Int → List Int × Bool
  | 0, _, out => (out, true)
  | k + 1, left, out => if pkR (frR m left) 0 left = 0 then (out, false) else rser m k (left.filter (fun x => x != pkR (frR m left) 0 left)) (out ++ [pkR (frR m left) 0 left])
theorem serial_eq (m : List Mk) : ∀ (n : Nat) (S left out : List Int), S.length = n → S.Perm left → S.Pairwise (· ≤ ·) → S.Nodup → (∀ b ∈ S, 0 < b) → serG m n S out = rser m n left out
  | 0, S, left, out, _, _, _, _, _ => rfl
  | n + 1, S, left, out, hn, hp, hs, hd, h0 => by
    have hfr : frR m S = frR m left := by funext b; unfold frR; rw [hp.any_eq]
    unfold serG rser
    rw [frB_eq, hfr]
    obtain ⟨h1, _, h3⟩ := pkR_spec (frR m left) left 0 (Int.le_refl _) (fun b hb => h0 b (hp.mem_iff.2 hb))
    rcases idxP_spec (frR m left) S 0 with ⟨e, hno⟩ | ⟨i, hi, e, hfi, hbe⟩
    · rw [e, if_pos (by decide)]
      rcases h1 with e1 | ⟨hm, hf⟩
      · rw [if_pos e1]
      · rw [hno _ (hp.mem_iff.2 hm)] at hf; cases hf
    · rw [e, if_neg (by omega)]
      obtain ⟨g1, g2⟩ := h3 S[i] (hp.mem_iff.1 (List.getElem_mem hi)) hfi
      rw [if_neg g1]
      have hpe : pkR (frR m left) 0 left = S[i] := by
        rcases h1 with e1 | ⟨hm, hf⟩
        · exact absurd e1 g1
        · obtain ⟨j, hj, ej⟩ := List.getElem_of_mem (hp.mem_iff.2 hm)
          have hij : i ≤ j := by
            rcases Nat.lt_or_ge j i with q | q
            · have := hbe j q; rw [ej, hf] at this; cases this
            · exact q
          rcases Nat.lt_or_eq_of_le hij with q | q
          · have := List.pairwise_iff_getElem.1 hs i j hi hj q
            rw [ej] at this; omega
          · subst q; exact ej.symm
      have ht : (((0 + i : Nat) : Int)).toNat = i := by omega
      rw [ht, hpe, erase_filter S i hi hd, show S.getD i 0 = S[i] from by simp [hi]]
      have hl := filter_len S S[i] hd (List.getElem_mem hi)
      exact serial_eq m n _ _ _ (by omega) (hp.filter _) (hs.sublist List.filter_sublist) (hd.sublist List.filter_sublist) (fun b hb => h0 b (List.mem_filter.1 hb).1)
theorem comsG_sublist : ∀ l : List En, (comsG l).Sublist (l.map (·.f0))
  | [] => List.Sublist.slnil
  | e :: r => by
    unfold comsG
    split
    · exact (comsG_sublist r).cons_cons _
    · exact (comsG_sublist r).cons _
theorem coms_nodup (m : List Mk) : (comsG (endsG m 0 [])).Nodup := (ends_nodup m 0 []).1.sublist (comsG_sublist _)
theorem coms_pos (m : List Mk) : ∀ b ∈ comsG (endsG m 0 []), 0 < b := fun b hb => by
  obtain ⟨e, he, hf⟩ := List.mem_map.1 (comsG_sub b _ hb)
  exact hf ▸ ((ends_nodup m 0 []).2 e he).2
theorem serial_page (m : List Mk) : serialG m = rser m (comsG (endsG m 0 [])).length (comsG (endsG m 0 [])) [] := by
  have hp : (committedG m).Perm (comsG (endsG m 0 [])) := List.mergeSort_perm _ _
  unfold serialG
  rw [← hp.length_eq]
  refine serial_eq m _ _ _ _ rfl hp ?_ (hp.nodup_iff.2 (coms_nodup m)) (fun b hb => coms_pos m b (hp.mem_iff.1 hb))
  have := List.pairwise_mergeSort (le := fun x y : Int => decide (x ≤ y)) (fun a b c => by simp; omega) (fun a b => by simp; omega) (comsG (endsG m 0 []))
  exact this.imp (fun h => by simpa using h)
theorem ser_l4 (m : List Mk) (left out : List Int) (b : Int) (hl : left.length ≤ 1000000) (ho : out.length ≤ 1000000) (r : List Int × Bool) : ∀ (d i : Nat) (x : List Int), i + d = left.length → x.length ≤ i →
    Ev (fun k => logjamref38_Serial.l1 k m (x ++ (left.drop i).filter (fun y => y != b)) (out ++ [b])) r → Ev (fun k => logjamref38_Serial.l4 k m left out b x (i : Int)) r := by
  intro d
  induction d with
  | zero =>
    intro i x hi hx h
    rw [List.drop_of_length_le (by omega)] at h
    simp only [List.filter_nil, List.append_nil] at h
    exact Ev.step (fun k => by simp only [logjamref38_Serial.l4]; rw [if_neg (by omega), if_pos (by omega)]) h
  | succ d ih =>
    intro i x hi hx h
    have hw := Lib.hid (wrap_succ i left.length (by omega) (by unfold MX; omega))
    have hr : rd left (i : Int) = left.getD i 0 := rfl
    rw [drop_cons' 0 left i (by omega), List.filter_cons] at h
    by_cases q : left.getD i 0 = b
    · have hb : (left.getD i 0 != b) = false := by rw [q]; simp
      rw [hb, if_neg (by simp)] at h
      exact Ev.step (f := fun k => logjamref38_Serial.l4 k m left out b x ((i + 1 : Nat) : Int)) (fun k => by simp only [logjamref38_Serial.l4]; rw [if_pos (by omega), if_pos (by omega), hr, if_pos q, hw.out]) (ih (i + 1) x (by omega) (by omega) h)
    · have hb : (left.getD i 0 != b) = true := by simp only [bne_iff_ne]; exact q
      rw [hb, if_pos rfl] at h
      exact Ev.step (f := fun k => logjamref38_Serial.l4 k m left out b (x ++ [left.getD i 0]) ((i + 1 : Nat) : Int)) (fun k => by simp only [logjamref38_Serial.l4]; rw [if_pos (by omega), if_pos (by omega), hr, if_neg q, if_pos (by omega), hw.out]) (ih (i + 1) _ (by omega) (by simp; omega) (by simpa using h))
theorem ser_l3 (m : List Mk) (hm : m.length ≤ 1000000) (left out : List Int) (hl : left.length ≤ 1000000) (hd : left.Nodup) (x8 : Int) (j : Nat) (hj : j < left.length) (r : List Int × Bool)
    (h : Ev (fun k => logjamref38_Serial.l2 k m left out (if frR m left (left.getD j 0) = true then (if x8 = 0 then left.getD j 0 else if left.getD j 0 < x8 then left.getD j 0 else x8) else x8) [] ((j + 1 : Nat) : Int)) r) :
    ∀ (d s : Nat) (f : Bool), s + d = left.length → (f && !(left.drop s).any (fun a => a != left.getD j 0 && rconf a (left.getD j 0) m)) = frR m left (left.getD j 0) → Ev (fun k => logjamref38_Serial.l3 k m left out x8 [] (j : Int) f (s : Int)) r := by
  have hwj := Lib.hid (wrap_succ j left.length hj (by unfold MX; omega))
  have hrj : rd left (j : Int) = left.getD j 0 := rfl
  have hgj : left.getD j 0 = left[j] := by simp [hj]
  intro d
  induction d with
  | zero =>
    intro s f hs hf
    rw [List.drop_of_length_le (by omega)] at hf
    simp only [List.any_nil, Bool.not_false, Bool.and_true] at hf
    rw [← hf] at h
    cases f
    · rw [if_neg (by simp)] at h
      exact Ev.step (fun k => by simp only [logjamref38_Serial.l3]; rw [if_neg (by omega), if_neg (by simp), hwj.out]) h
    · rw [if_pos rfl] at h
      by_cases q : x8 = 0
      · rw [if_pos q] at h
        exact Ev.step (fun k => by simp only [logjamref38_Serial.l3]; rw [if_neg (by omega), if_pos trivial, if_pos q, if_pos (by omega), if_pos (by omega), hrj, hwj.out]) h
      · rw [if_neg q] at h
        by_cases q2 : left.getD j 0 < x8
        · rw [if_pos q2] at h
          exact Ev.step (fun k => by simp only [logjamref38_Serial.l3]; rw [if_neg (by omega), if_pos trivial, if_neg q, if_pos (by omega), if_pos (by omega), hrj, if_pos q2, hwj.out]) h
        · rw [if_neg q2] at h
          exact Ev.step (fun k => by simp only [logjamref38_Serial.l3]; rw [if_neg (by omega), if_pos trivial, if_neg q, if_pos (by omega), if_pos (by omega), hrj, if_neg q2, hwj.out]) h
  | succ d ih =>
    intro s f hs hf
    have hw := Lib.hid (wrap_succ s left.length (by omega) (by unfold MX; omega))
    have hr : rd left (s : Int) = left.getD s 0 := rfl
    have hgs : left.getD s 0 = left[s] := by simp [show s < left.length by omega]
    rw [drop_cons' 0 left s (by omega), List.any_cons] at hf
    cases f
    · exact Ev.step (f := fun k => logjamref38_Serial.l3 k m left out x8 [] (j : Int) false ((s + 1 : Nat) : Int)) (fun k => by simp only [logjamref38_Serial.l3]; rw [if_pos (by omega), if_neg (by simp), hw.out]) (ih (s + 1) false (by omega) (by rw [← hf]; simp))
    · by_cases q : s = j
      · subst q
        refine Ev.step (f := fun k => logjamref38_Serial.l3 k m left out x8 [] (s : Int) true ((s + 1 : Nat) : Int)) (fun k => by simp only [logjamref38_Serial.l3]; rw [if_pos (by omega), if_pos trivial, if_pos trivial, hw.out]) (ih (s + 1) true (by omega) (by rw [← hf]; simp))
      · have hne : (left.getD s 0 != left.getD j 0) = true := by
          rw [hgs, hgj, bne_iff_ne]; intro e
          exact q ((List.getElem_inj (h₀ := by omega) (h₁ := hj) hd).1 e)
        rw [hne, Bool.true_and] at hf
        refine Ev.step (f := fun k => (logjamref38_Conflict.f k m (left.getD s 0) (left.getD j 0)).bind fun t158 => logjamref38_Serial.l3 k m left out x8 [] (j : Int) (!t158) ((s + 1 : Nat) : Int)) (fun k => by simp only [logjamref38_Serial.l3]; rw [if_pos (by omega), if_pos trivial, if_neg (by omega), if_pos (by omega), if_pos (by omega), if_pos (by omega), hr, hrj, hw.out]) ?_
        refine Ev.bind (ev_rconf m _ _ hm) ?_
        exact ih (s + 1) _ (by omega) (by rw [← hf]; cases rconf (left.getD s 0) (left.getD j 0) m <;> simp)
theorem ser_l2 (m : List Mk) (hm : m.length ≤ 1000000) (left out : List Int) (hl : left.length ≤ 1000000) (hd : left.Nodup) (r : List Int × Bool) : ∀ (d j : Nat) (x8 : Int), j + d = left.length →
    Ev (fun k => if pkR (frR m left) x8 (left.drop j) = 0 then some (out, false) else logjamref38_Serial.l4 k m left out (pkR (frR m left) x8 (left.drop j)) [] 0) r → Ev (fun k => logjamref38_Serial.l2 k m left out x8 [] (j : Int)) r := by
  intro d
  induction d with
  | zero =>
    intro j x8 hj h
    rw [List.drop_of_length_le (by omega)] at h
    exact Ev.step (fun k => by simp only [logjamref38_Serial.l2]; rw [if_neg (by omega)]; rfl) h
  | succ d ih =>
    intro j x8 hj h
    rw [drop_cons' 0 left j (by omega)] at h
    refine Ev.step (f := fun k => logjamref38_Serial.l3 k m left out x8 [] (j : Int) true ((0 : Nat) : Int)) (fun k => by simp only [logjamref38_Serial.l2]; rw [if_pos (by omega)]; rfl) ?_
    exact ser_l3 m hm left out hl hd x8 j (by omega) r (ih (j + 1) _ (by omega) h) left.length 0 true (Nat.zero_add _) (by simp [frR])
theorem ser_l1 (m : List Mk) (hm : m.length ≤ 1000000) : ∀ (n : Nat) (left out : List Int), left.length = n → left.length + out.length ≤ 1000000 → left.Nodup → (∀ b ∈ left, 0 < b) → Ev (fun k => logjamref38_Serial.l1 k m left out) (rser m n left out)
  | 0, left, out, hn, hl, hd, h0 => Ev.step1 (fun k => by simp only [logjamref38_Serial.l1]; rw [if_neg (by omega)]; rfl)
  | n + 1, left, out, hn, hl, hd, h0 => by
    refine Ev.step (f := fun k => logjamref38_Serial.l2 k m left out 0 [] ((0 : Nat) : Int)) (fun k => by simp only [logjamref38_Serial.l1]; rw [if_pos (by omega)]; rfl) ?_
    refine ser_l2 m hm left out (by omega) hd _ left.length 0 0 (Nat.zero_add _) ?_
    rw [List.drop_zero]
    unfold rser
    obtain ⟨h1, _, _⟩ := pkR_spec (frR m left) left 0 (Int.le_refl _) h0
    by_cases q : pkR (frR m left) 0 left = 0
    · rw [if_pos q]
      exact Ev.const (fun k => if_pos q)
    · rw [if_neg q]
      refine Ev.congr (f := fun k => logjamref38_Serial.l4 k m left out (pkR (frR m left) 0 left) [] ((0 : Nat) : Int)) (fun k => if_neg q) ?_
      have hb : pkR (frR m left) 0 left ∈ left := by rcases h1 with e | ⟨e, _⟩; exact absurd e q; exact e
      have hfl := filter_len left _ hd hb
      refine ser_l4 m left out _ (by omega) (by omega) _ left.length 0 [] (Nat.zero_add _) (by simp) ?_
      rw [List.nil_append, List.drop_zero]
      exact ser_l1 m hm n _ _ (by omega) (by simp; omega) (hd.sublist List.filter_sublist) (fun b hb => h0 b (List.mem_filter.1 hb).1)
theorem ser_l0 (m : List Mk) (hm : m.length ≤ 1000000) (x6 : List Int) (hx : x6.length ≤ 1000000) (hj : ∀ j ∈ x6, 0 ≤ j ∧ j < m.length) (r : List Int × Bool) : ∀ (d i : Nat) (x4 : List Int), i + d = x6.length → x4.length ≤ i →
    Ev (fun k => logjamref38_Serial.l1 k m (x4 ++ comsG ((x6.drop i).map (enAt m))) []) r → Ev (fun k => logjamref38_Serial.l0 k m x4 [] x6 (i : Int)) r := by
  intro d
  induction d with
  | zero =>
    intro i x4 hi hx4 h
    rw [List.drop_of_length_le (by omega)] at h
    simp only [List.map_nil, comsG, List.append_nil] at h
    exact Ev.step (fun k => by simp only [logjamref38_Serial.l0]; rw [if_neg (by omega)]) h
  | succ d ih =>
    intro i x4 hi hx4 h
    have hw := Lib.hid (wrap_succ i x6.length (by omega) (by unfold MX; omega))
    obtain ⟨g0, g1⟩ := hj (x6.getD i 0) (getD_mem (by omega))
    have hr : rd x6 (i : Int) = x6.getD i 0 := rfl
    rw [drop_cons' 0 x6 i (by omega), List.map_cons] at h
    simp only [comsG] at h
    by_cases q : (rd_T29 m (x6.getD i 0)).f0 = 3
    · rw [if_pos (show (enAt m (x6.getD i 0)).f2 = 3 from q)] at h
      exact Ev.step (f := fun k => logjamref38_Serial.l0 k m (x4 ++ [(rd_T29 m (x6.getD i 0)).f2]) [] x6 ((i + 1 : Nat) : Int)) (fun k => by simp only [logjamref38_Serial.l0]; rw [if_pos (by omega), if_pos (by omega), hr, if_pos g0, if_pos g1, if_pos q, if_pos (by omega), hw.out]) (ih (i + 1) _ (by omega) (by simp; omega) (by simpa [enAt, mkAt] using h))
    · rw [if_neg (show ¬ (enAt m (x6.getD i 0)).f2 = 3 from q)] at h
      exact Ev.step (f := fun k => logjamref38_Serial.l0 k m x4 [] x6 ((i + 1 : Nat) : Int)) (fun k => by simp only [logjamref38_Serial.l0]; rw [if_pos (by omega), if_pos (by omega), hr, if_pos g0, if_pos g1, if_neg q, hw.out]) (ih (i + 1) _ (by omega) (by omega) h)
theorem ev_rserial (m : List Mk) (hm : m.length ≤ 1000000) : Ev (fun k => logjamref38_Serial.f k m) (serialG m) := by
  rw [serial_page]
  have hx : (ixG m 0 []).length ≤ 1000000 := Nat.le_trans (ixG_len m 0 []) hm
  refine Ev.congr (f := fun k => (logjamref38_Ends.f k m).bind fun t143 => (logjamref38_Serial.l0 k m [] [] t143 ((0 : Nat) : Int))) (fun k => rfl) ?_
  refine Ev.bind (ev_rends m hm) ?_
  refine ser_l0 m hm (ixG m 0 []) hx (ixG_in m m 0 [] (Nat.zero_add _)) _ (ixG m 0 []).length 0 [] (Nat.zero_add _) (by simp) ?_
  rw [List.drop_zero, List.nil_append, ← ends_eq]
  have hcl := Nat.le_trans (comsG_len (endsG m 0 [])) (endsG_len m 0 [])
  exact ser_l1 m hm _ _ _ rfl (by simp; omega) (coms_nodup m) (coms_pos m)
def scanR (q c : Int) : List Mk → Bool
  | [] => true
  | y :: r => if y.f2 = q then (if y.f0 = 3 ∨ y.f0 = 4 then true else scanR q c r) else if acc y = true ∧ y.f3 = c then false else scanR q c r
def strictR : List Mk → Bool
  | [] => true
  | x :: r => if x.f0 = 2 ∧ ¬ x.f2 < 1 then scanR x.f2 x.f3 r && strictR r else strictR r
theorem strict_gen : ∀ (l : List Mk) (D : Int → List Int), (∀ c, ∀ q ∈ D c, 0 < q) → (strictG l D = true ↔ ((∀ c, ∀ q ∈ D c, scanR q c l = true) ∧ strictR l = true))
  | [], D, h0 => by simp [strictG, scanR, strictR]
  | y :: r, D, h0 => by
    unfold strictG
    by_cases hE : isEnd y = true
    · rw [if_pos hE]
      have hE' := hE
      unfold isEnd at hE'
      simp only [Bool.and_eq_true, decide_eq_true_iff, Bool.or_eq_true, beq_iff_eq] at hE'
      obtain ⟨hp, hk⟩ := hE'
      have hna : acc y = false := by
        unfold acc
        rcases hk with e | e <;> rw [e] <;> rfl
      have hsR : strictR (y :: r) = strictR r := by
        rw [strictR, if_neg]
        rintro ⟨e, _⟩; rcases hk with q | q <;> rw [q] at e <;> cases e
      have hmem : ∀ c q, q ∈ flt y.f2 (D c) ↔ q ∈ D c ∧ q ≠ y.f2 := fun c q => by unfold flt; rw [List.mem_filter]; simp
      rw [strict_gen r _ (fun c q hq => h0 c q ((hmem c q).1 hq).1), hsR]
      refine and_congr_left (fun _ => ⟨fun h c q hq => ?_, fun h c q hq => ?_⟩)
      · unfold scanR
        by_cases e : y.f2 = q
        · rw [if_pos e, if_pos hk]
        · rw [if_neg e, if_neg (by rw [hna]; simp)]
          exact h c q ((hmem c q).2 ⟨hq, fun e2 => e e2.symm⟩)
      · obtain ⟨h1, h2⟩ := (hmem c q).1 hq
        have := h c q h1
        unfold scanR at this
        rw [if_neg (fun e => h2 e.symm), if_neg (by rw [hna]; simp)] at this
        exact this
    · rw [if_neg hE]
      by_cases ha : acc y = true
      · rw [if_pos ha]
        have hk : ¬ (y.f0 = 3 ∨ y.f0 = 4) := by
          unfold acc at ha; simp only [Bool.or_eq_true, beq_iff_eq] at ha; omega
        by_cases hany : (D y.f3).any (fun x => x != y.f2) = true
        · rw [if_pos hany]
          obtain ⟨q, hq, hne⟩ := List.any_eq_true.1 hany
          refine ⟨fun h => by simp at h, fun ⟨h, _⟩ => ?_⟩
          have := h y.f3 q hq
          unfold scanR at this
          rw [if_neg (fun e => by rw [e] at hne; simp at hne), if_pos ⟨ha, rfl⟩] at this
          cases this
        · rw [if_neg hany]
          have hall : ∀ q ∈ D y.f3, q = y.f2 := fun q hq => by
            by_cases e : q = y.f2
            · exact e
            · exact absurd (List.any_eq_true.2 ⟨q, hq, by simpa using e⟩) hany
          have hsc : ∀ c q, q ∈ D c → scanR q c (y :: r) = scanR q c r := fun c q hq => by
            rw [scanR]
            by_cases e : y.f2 = q
            · rw [if_pos e, if_neg hk]
            · rw [if_neg e, if_neg]
              rintro ⟨_, e2⟩
              subst e2
              exact e (hall q hq).symm
          have hDs : (∀ c, ∀ q ∈ D c, scanR q c (y :: r) = true) ↔ ∀ c, ∀ q ∈ D c, scanR q c r = true :=
            ⟨fun h c q hq => by rw [← hsc c q hq]; exact h c q hq, fun h c q hq => by rw [hsc c q hq]; exact h c q hq⟩
          rw [hDs]
          by_cases hw : y.f0 = 2 ∧ y.f2 > 0
          · rw [if_pos hw]
            have hsR : strictR (y :: r) = (scanR y.f2 y.f3 r && strictR r) := by rw [strictR, if_pos ⟨hw.1, by omega⟩]
            have hmem : ∀ c q, q ∈ updI D y.f3 (D y.f3 ++ [y.f2]) c ↔ q ∈ D c ∨ (c = y.f3 ∧ q = y.f2) := fun c q => by
              unfold updI
              by_cases e : c = y.f3
              · rw [if_pos e, List.mem_append, e]; simp
              · rw [if_neg e]; simp [e]
            rw [strict_gen r _ (fun c q hq => by rcases (hmem c q).1 hq with h | ⟨_, e⟩; exact h0 c q h; omega), hsR]
            simp only [Bool.and_eq_true]
            constructor
            · rintro ⟨h1, h2⟩
              exact ⟨fun c q hq => h1 c q ((hmem c q).2 (.inl hq)), h1 y.f3 y.f2 ((hmem _ _).2 (.inr ⟨rfl, rfl⟩)), h2⟩
            · rintro ⟨h1, h2, h3⟩
              refine ⟨fun c q hq => ?_, h3⟩
              rcases (hmem c q).1 hq with h | ⟨rfl, rfl⟩
              · exact h1 c q h
              · exact h2
          · rw [if_neg hw]
            have hsR : strictR (y :: r) = strictR r := by rw [strictR, if_neg (fun q => hw ⟨q.1, by omega⟩)]
            rw [strict_gen r D h0, hsR]
      · rw [if_neg ha]
        have hsR : strictR (y :: r) = strictR r := by
          rw [strictR, if_neg]; rintro ⟨e, _⟩
          unfold acc at ha; rw [e] at ha; exact ha rfl
        have hsc : ∀ c q, q ∈ D c → scanR q c (y :: r) = scanR q c r := fun c q hq => by
          rw [scanR]
          by_cases e : y.f2 = q
          · rw [if_pos e, if_neg]
            intro hk
            apply hE
            unfold isEnd
            have := h0 c q hq
            simp only [Bool.and_eq_true, decide_eq_true_iff, Bool.or_eq_true, beq_iff_eq]
            exact ⟨by omega, hk⟩
          · rw [if_neg e, if_neg (fun q => ha q.1)]
        rw [strict_gen r D h0, hsR]
        exact and_congr_left (fun _ => ⟨fun h c q hq => by rw [hsc c q hq]; exact h c q hq, fun h c q hq => by rw [← hsc c q hq]; exact h c q hq⟩)
theorem strict_eq (m : List Mk) : strictG m (fun _ => []) = strictR m := by
  rw [Bool.eq_iff_iff, strict_gen m _ (fun c q hq => by cases hq)]
  exact ⟨fun h => h.2, fun h => ⟨fun c q hq => (by cases hq), h⟩⟩
theorem strict_l0 (m : List Mk) (hm : m.length ≤ 1000000) : ∀ (d i : Nat), i + d = m.length → Ev (fun k => logjamref38_Strict.l0 k m (i : Int)) (strictR (m.drop i)) := by
  intro d
  induction d with
  | zero =>
    intro i hi
    rw [List.drop_of_length_le (by omega)]
    exact Ev.step1 (fun k => by simp only [logjamref38_Strict.l0]; rw [if_neg (by omega)]; rfl)
  | succ d ih =>
    intro i hi
    have hw := Lib.hid (wrap_succ i m.length (by omega) (by unfold MX; omega))
    have hrest := ih (i + 1) (by omega)
    have he : rd_T29 m (i : Int) = m.getD i z29 := rfl
    rw [drop_cons' z29 m i (by omega)]
    generalize m.getD i z29 = x at he ⊢
    rw [strictR]
    by_cases q1 : x.f0 = 2
    · by_cases q2 : x.f2 < 1
      · rw [if_neg (fun q => q.2 q2)]
        exact Ev.step (fun k => by simp only [logjamref38_Strict.l0]; rw [if_pos (by omega), if_pos (by omega), he, if_pos q1, if_pos q2, hw.out]) hrest
      · rw [if_pos ⟨q1, q2⟩]
        have inner : ∀ (e j : Nat), j + e = m.length → Ev (fun k => logjamref38_Strict.l1 k m (i : Int) (j : Int) x.f0 x.f1 x.f2 x.f3 x.f4) (scanR x.f2 x.f3 (m.drop j) && strictR (m.drop (i + 1))) := by
          intro e
          induction e with
          | zero =>
            intro j hj
            rw [List.drop_of_length_le (i := j) (by omega)]
            exact Ev.step (f := fun k => logjamref38_Strict.l0 k m ((i + 1 : Nat) : Int)) (fun k => by simp only [logjamref38_Strict.l1]; rw [if_neg (by omega), hw.out]) (by simpa [scanR] using hrest)
          | succ e ih2 =>
            intro j hj
            have hwj := Lib.hid (wrap_succ j m.length (by omega) (by unfold MX; omega))
            have hin := ih2 (j + 1) (by omega)
            have hy : rd_T29 m (j : Int) = m.getD j z29 := rfl
            rw [drop_cons' z29 m j (by omega)]
            generalize m.getD j z29 = y at hy ⊢
            rw [scanR]
            by_cases h1 : y.f2 = x.f2
            · rw [if_pos h1]
              by_cases h3 : y.f0 = 3
              · rw [if_pos (.inl h3), Bool.true_and]
                exact Ev.step (fun k => by simp only [logjamref38_Strict.l1]; rw [if_pos (by omega), if_pos (by omega), hy, if_pos h1, if_pos h3, hw.out]) hrest
              · by_cases h4 : y.f0 = 4
                · rw [if_pos (.inr h4), Bool.true_and]
                  exact Ev.step (fun k => by simp only [logjamref38_Strict.l1]; rw [if_pos (by omega), if_pos (by omega), hy, if_pos h1, if_neg h3, if_pos h4, hw.out]) hrest
                · rw [if_neg (fun q => q.elim h3 h4)]
                  exact Ev.step (f := fun k => logjamref38_Strict.l1 k m (i : Int) ((j + 1 : Nat) : Int) x.f0 x.f1 x.f2 x.f3 x.f4) (fun k => by simp only [logjamref38_Strict.l1]; rw [if_pos (by omega), if_pos (by omega), hy, if_pos h1, if_neg h3, if_neg h4, access_f]; simp only [Option.bind_some, ite_self]; rw [hwj.out]) hin
            · rw [if_neg h1]
              by_cases h5 : acc y = true
              · by_cases h6 : y.f3 = x.f3
                · rw [if_pos ⟨h5, h6⟩]
                  exact Ev.step1 (fun k => by simp only [logjamref38_Strict.l1]; rw [if_pos (by omega), if_pos (by omega), hy, if_neg h1, access_f, h5]; simp only [Option.bind_some]; rw [if_pos trivial, if_pos h6]; rfl)
                · rw [if_neg (fun q => h6 q.2)]
                  exact Ev.step (f := fun k => logjamref38_Strict.l1 k m (i : Int) ((j + 1 : Nat) : Int) x.f0 x.f1 x.f2 x.f3 x.f4) (fun k => by simp only [logjamref38_Strict.l1]; rw [if_pos (by omega), if_pos (by omega), hy, if_neg h1, access_f, h5]; simp only [Option.bind_some]; rw [if_pos trivial, if_neg h6, hwj.out]) hin
              · rw [if_neg (fun q => h5 q.1)]
                have h5' : acc y = false := by simpa using h5
                exact Ev.step (f := fun k => logjamref38_Strict.l1 k m (i : Int) ((j + 1 : Nat) : Int) x.f0 x.f1 x.f2 x.f3 x.f4) (fun k => by simp only [logjamref38_Strict.l1]; rw [if_pos (by omega), if_pos (by omega), hy, if_neg h1, access_f, h5']; simp only [Option.bind_some]; rw [if_neg (by simp), hwj.out]) hin
        exact Ev.step (f := fun k => logjamref38_Strict.l1 k m (i : Int) ((i + 1 : Nat) : Int) x.f0 x.f1 x.f2 x.f3 x.f4) (fun k => by simp only [logjamref38_Strict.l0]; rw [if_pos (by omega), if_pos (by omega), he, if_pos q1, if_neg q2, hw.out]) (inner d (i + 1) (by omega))
    · rw [if_neg (fun q => q1 q.1)]
      exact Ev.step (fun k => by simp only [logjamref38_Strict.l0]; rw [if_pos (by omega), if_pos (by omega), he, if_neg q1, hw.out]) hrest
theorem ev_rstrict (m : List Mk) (hm : m.length ≤ 1000000) : Ev (fun k => logjamref38_Strict.f k m) (strictG m (fun _ => [])) := by
  rw [strict_eq]
  exact strict_l0 m hm m.length 0 (Nat.zero_add _)
end Go.Proofs.Ytadepdeckapgcaa.Hi
end

section
namespace Go.Proofs.Ytadepdeckapgcaa.PHi
open Go.RowKit Go.Proofs.Ytadepdeckapgcaa.Orc Go.Proofs.YtadepdeckapgcaaW.PrintWords Go.Proofs.YtadepdeckapgcaaW.PrintLast Go.Proofs.YtadepdeckapgcaaW.PrintMore
attribute [local go_sem] max2_int min2_int max_two min_two max_three min_three max_four min_four
set_option linter.unusedVariables false
set_option linter.unusedSimpArgs false
theorem eqA31 (d : Nat) (w : World) (x0 y0 : Int) (x1 y1 : Int) (x2 y2 : Int) (x3 y3 : Int) :
  (Op.equalIn (d + 2) 31 (.agg #[.int .i64 x0, .int .i64 x1, .int .i64 x2, .int .i64 x3]) (.agg #[.int .i64 y0, .int .i64 y1, .int .i64 y2, .int .i64 y3])).run Try.prog w = .ok (x0 == y0 && (x1 == y1 && (x2 == y2 && (x3 == y3)))) w := by
 refine eqA_of Try.underlying31 (by kernel_rfl) ?_
 refine eqf_cons (by rfl) (by go_simp; rfl) (by go_simp; rfl) (by go_simp) ?_
 refine eqf_cons (by rfl) (by go_simp; rfl) (by go_simp; rfl) (by go_simp) ?_
 refine eqf_cons (by rfl) (by go_simp; rfl) (by go_simp; rfl) (by go_simp) ?_
 exact eqf_last (by rfl) (by go_simp; rfl) (by go_simp; rfl) (by go_simp)
end Go.Proofs.Ytadepdeckapgcaa.PHi
end

section
namespace Go.Proofs.Ytadepdeckapgcaa.PHi
open Go.RowKit Go.Proofs.Ytadepdeckapgcaa.Orc Go.Proofs.YtadepdeckapgcaaW.PrintWords Go.Proofs.YtadepdeckapgcaaW.PrintLast Go.Proofs.YtadepdeckapgcaaW.PrintMore
attribute [local go_sem] max2_int min2_int max_two min_two max_three min_three max_four min_four
set_option linter.unusedVariables false
set_option linter.unusedSimpArgs false
attribute [local go_sem high] eqA31
def logjamlaw38_lives.j0 : Nat → Bool → Option (Bool)
 | 0, _ => none
 | k + 1, x0 => some x0
def logjamlaw38_lives.f (k : Nat)  : Option (Bool) := (some (([(⟨2, 0, 1, 3, 4⟩ : S29), (⟨1, 1, 2, 3, 4⟩ : S29), (⟨3, 0, 1, 0, 0⟩ : S29), (⟨3, 1, 2, 0, 0⟩ : S29)] : List (S29)) : List (S29))).bind fun y196 => ((o_Ends.f y196).bind fun t199 => ((o_Serial.f y196).bind fun bt202 => (if (t199.length : Int) = 2 then (if 1 < (t199.length : Int) then (if (((rd_T31 t199 1).f0) == 2 && (((rd_T31 t199 1).f1) == 1 && (((rd_T31 t199 1).f2) == 3 && (((rd_T31 t199 1).f3) == 3)))) = true then ((o_Strict.f y196).bind fun t207 => (if t207 = true then (logjamlaw38_lives.j0 k false) else (if 1 ≤ (y196.length : Int) then ((o_Strict.f (y196.take 1)).bind fun t212 => (if t212 = true then ((history_Before.f k y196 1 2).bind fun t213 => (if t213 = true then ((history_Before.f k y196 2 1).bind fun t214 => (if t214 = true then (logjamlaw38_lives.j0 k false) else (if bt202.2 = true then ((logjamlaw30_Ints.f k bt202.1 (([1, 2] : List Int))).bind fun t218 => (logjamlaw38_lives.j0 k t218)) else (logjamlaw38_lives.j0 k false)))) else (logjamlaw38_lives.j0 k false))) else (logjamlaw38_lives.j0 k false))) else (none)))) else (logjamlaw38_lives.j0 k false)) else (none)) else (logjamlaw38_lives.j0 k false))))
set_option maxHeartbeats 8000000 in
set_option maxRecDepth 100000 in
theorem logjamlaw38_lives.calls (k : Nat)  (r : Bool) (w : World) (h : logjamlaw38_lives.f k  = some r) :
  Calls Try.prog 16 #[] w fun e w' => e = .returned (.bool r) ∧ Below w.heap.size w w' := by
 have hu29 := Try.underlying29
 have hu31 := Try.underlying31
 have HB := Aside0.mk (Below.refl w.heap.size w)
 have H : ((some (([(⟨2, 0, 1, 3, 4⟩ : S29), (⟨1, 1, 2, 3, 4⟩ : S29), (⟨3, 0, 1, 0, 0⟩ : S29), (⟨3, 1, 2, 0, 0⟩ : S29)] : List (S29)) : List (S29))).bind fun y196 => ((o_Ends.f y196).bind fun t199 => ((o_Serial.f y196).bind fun bt202 => (if (t199.length : Int) = 2 then (if 1 < (t199.length : Int) then (if (((rd_T31 t199 1).f0) == 2 && (((rd_T31 t199 1).f1) == 1 && (((rd_T31 t199 1).f2) == 3 && (((rd_T31 t199 1).f3) == 3)))) = true then ((o_Strict.f y196).bind fun t207 => (if t207 = true then (logjamlaw38_lives.j0 k false) else (if 1 ≤ (y196.length : Int) then ((o_Strict.f (y196.take 1)).bind fun t212 => (if t212 = true then ((history_Before.f k y196 1 2).bind fun t213 => (if t213 = true then ((history_Before.f k y196 2 1).bind fun t214 => (if t214 = true then (logjamlaw38_lives.j0 k false) else (if bt202.2 = true then ((logjamlaw30_Ints.f k bt202.1 (([1, 2] : List Int))).bind fun t218 => (logjamlaw38_lives.j0 k t218)) else (logjamlaw38_lives.j0 k false)))) else (logjamlaw38_lives.j0 k false))) else (logjamlaw38_lives.j0 k false))) else (none)))) else (logjamlaw38_lives.j0 k false)) else (none)) else (logjamlaw38_lives.j0 k false))))) = some r := h
 clear h
 obtain ⟨y196, hy196⟩ : ∃ y_ : List (S29), y_ = (([(⟨2, 0, 1, 3, 4⟩ : S29), (⟨1, 1, 2, 3, 4⟩ : S29), (⟨3, 0, 1, 0, 0⟩ : S29), (⟨3, 1, 2, 0, 0⟩ : S29)] : List (S29))) := ⟨_, rfl⟩
 replace H : ((o_Ends.f y196).bind fun t199 => ((o_Serial.f y196).bind fun bt202 => (if (t199.length : Int) = 2 then (if 1 < (t199.length : Int) then (if (((rd_T31 t199 1).f0) == 2 && (((rd_T31 t199 1).f1) == 1 && (((rd_T31 t199 1).f2) == 3 && (((rd_T31 t199 1).f3) == 3)))) = true then ((o_Strict.f y196).bind fun t207 => (if t207 = true then (logjamlaw38_lives.j0 k false) else (if 1 ≤ (y196.length : Int) then ((o_Strict.f (y196.take 1)).bind fun t212 => (if t212 = true then ((history_Before.f k y196 1 2).bind fun t213 => (if t213 = true then ((history_Before.f k y196 2 1).bind fun t214 => (if t214 = true then (logjamlaw38_lives.j0 k false) else (if bt202.2 = true then ((logjamlaw30_Ints.f k bt202.1 (([1, 2] : List Int))).bind fun t218 => (logjamlaw38_lives.j0 k t218)) else (logjamlaw38_lives.j0 k false)))) else (logjamlaw38_lives.j0 k false))) else (logjamlaw38_lives.j0 k false))) else (none)))) else (logjamlaw38_lives.j0 k false)) else (none)) else (logjamlaw38_lives.j0 k false)))) = some r := by first | (rw [hy196]; with_reducible exact H) | (have H2_ := (Option.bind_some _ _).symm.trans H; rw [hy196]; with_reducible exact H2_) | (have H2_ := (Option.bind_some _ _).symm.trans H; with_reducible exact H2_) | with_reducible exact H | (rw [hy196]; exact H) | exact H
 have Ny196 := Aside0.mk hy196
 clear hy196
 replace H := Option.bind_eq_some_iff.mp H
 obtain ⟨t199, A10, H⟩ := H
 replace H : ((o_Serial.f y196).bind fun bt202 => (if (t199.length : Int) = 2 then (if 1 < (t199.length : Int) then (if (((rd_T31 t199 1).f0) == 2 && (((rd_T31 t199 1).f1) == 1 && (((rd_T31 t199 1).f2) == 3 && (((rd_T31 t199 1).f3) == 3)))) = true then ((o_Strict.f y196).bind fun t207 => (if t207 = true then (logjamlaw38_lives.j0 k false) else (if 1 ≤ (y196.length : Int) then ((o_Strict.f (y196.take 1)).bind fun t212 => (if t212 = true then ((history_Before.f k y196 1 2).bind fun t213 => (if t213 = true then ((history_Before.f k y196 2 1).bind fun t214 => (if t214 = true then (logjamlaw38_lives.j0 k false) else (if bt202.2 = true then ((logjamlaw30_Ints.f k bt202.1 (([1, 2] : List Int))).bind fun t218 => (logjamlaw38_lives.j0 k t218)) else (logjamlaw38_lives.j0 k false)))) else (logjamlaw38_lives.j0 k false))) else (logjamlaw38_lives.j0 k false))) else (none)))) else (logjamlaw38_lives.j0 k false)) else (none)) else (logjamlaw38_lives.j0 k false))) = some r := H
 have A1 := Aside0.mk A10
 clear A10
 replace H := Option.bind_eq_some_iff.mp H
 obtain ⟨⟨t202, t203⟩, A20, H⟩ := H
 replace H : (if (t199.length : Int) = 2 then (if 1 < (t199.length : Int) then (if (((rd_T31 t199 1).f0) == 2 && (((rd_T31 t199 1).f1) == 1 && (((rd_T31 t199 1).f2) == 3 && (((rd_T31 t199 1).f3) == 3)))) = true then ((o_Strict.f y196).bind fun t207 => (if t207 = true then (logjamlaw38_lives.j0 k false) else (if 1 ≤ (y196.length : Int) then ((o_Strict.f (y196.take 1)).bind fun t212 => (if t212 = true then ((history_Before.f k y196 1 2).bind fun t213 => (if t213 = true then ((history_Before.f k y196 2 1).bind fun t214 => (if t214 = true then (logjamlaw38_lives.j0 k false) else (if t203 = true then ((logjamlaw30_Ints.f k t202 (([1, 2] : List Int))).bind fun t218 => (logjamlaw38_lives.j0 k t218)) else (logjamlaw38_lives.j0 k false)))) else (logjamlaw38_lives.j0 k false))) else (logjamlaw38_lives.j0 k false))) else (none)))) else (logjamlaw38_lives.j0 k false)) else (none)) else (logjamlaw38_lives.j0 k false)) = some r := H
 have A2 := Aside0.mk A20
 clear A20
 have HC3 := Aside0.mk H
 clear H
 go_enter Try.func16, Try.ntmps16
 go_upto_region 4 with (first | ((with_reducible refine gate_dst (N := 9) rfl ?_); (try (refine gate_guard (by rfl) ?_; dsimp only)); refine Kd.R_lit k29 _ 29 ?hg (N := 9) ?hd (xs := ([(⟨2, 0, 1, 3, 4⟩ : S29), (⟨1, 1, 2, 3, 4⟩ : S29), (⟨3, 0, 1, 0, 0⟩ : S29), (⟨3, 1, 2, 0, 0⟩ : S29)] : List (S29))) (inner := [.int .i64 2, .int .i64 0, .int .i64 1, .int .i64 3, .int .i64 4, .int .i64 1, .int .i64 1, .int .i64 2, .int .i64 3, .int .i64 4, .int .i64 3, .int .i64 0, .int .i64 1, .int .i64 0, .int .i64 0, .int .i64 3, .int .i64 1, .int .i64 2, .int .i64 0, .int .i64 0]) (ok := fun _ => True) (okp := fun _ => True) ?hr ?hp (fun _ hk => hk) trivial (Below.refl _ _) (Nat.le_refl _) (by simp) ?_; (case hd => rfl); (case hg => rfl); (case hr => first | (go_simp; done) | (go_simp; rfl)); (case hp => exact (Reps.c5 (show Kd.M k29 _ _ _ (⟨2, 0, 1, 3, 4⟩ : S29) [.int .i64 2, .int .i64 0, .int .i64 1, .int .i64 3, .int .i64 4] from (k29_mkM _ _ _ (⟨2, 0, 1, 3, 4⟩ : S29) )) (Reps.c5 (show Kd.M k29 _ _ _ (⟨1, 1, 2, 3, 4⟩ : S29) [.int .i64 1, .int .i64 1, .int .i64 2, .int .i64 3, .int .i64 4] from (k29_mkM _ _ _ (⟨1, 1, 2, 3, 4⟩ : S29) )) (Reps.c5 (show Kd.M k29 _ _ _ (⟨3, 0, 1, 0, 0⟩ : S29) [.int .i64 3, .int .i64 0, .int .i64 1, .int .i64 0, .int .i64 0] from (k29_mkM _ _ _ (⟨3, 0, 1, 0, 0⟩ : S29) )) (Reps.c5 (show Kd.M k29 _ _ _ (⟨3, 1, 2, 0, 0⟩ : S29) [.int .i64 3, .int .i64 1, .int .i64 2, .int .i64 0, .int .i64 0] from (k29_mkM _ _ _ (⟨3, 1, 2, 0, 0⟩ : S29) )) (Reps.none _ _)))))); intro v197 w4 ho5 hb hg_ hnew_; clear hg_ hnew_; (first | rw [← Ny196.out] at ho5 | (simp only [Int.reduceToNat] at ho5; rw [← Ny196.out] at ho5)); have n0_ := Aside0.mk (Kd.R_lower ho5 (below_size (by repeat (first | (with_reducible first | exact HB.out | apply below_alloc | apply pw_below_drewN | apply below_drew1) | exact HB.out)))); have n1_ := Aside0.mk (below_step (by repeat (first | (with_reducible first | exact HB.out | apply below_alloc | apply pw_below_drewN | apply below_drew1) | exact HB.out)) hb); clear HB; have HO198 := n0_; have HB := n1_; clear n0_ n1_; clear hb ho5; obtain ⟨Ao6, co6, eo6⟩ := Kd.R_slice HO198.out; subst eo6) | ((with_reducible refine gate_callee (f := 7) rfl ?_); refine goesL_ (some 11) rfl rfl Try.func7 (by kernel_rfl) rfl #[.slice Ao6 y196.length co6] rfl (by (try simp only [List.map_toArray, List.map_cons, List.map_nil]); first | done | rfl | (simp only [List.length_drop, List.length_take]; rfl)) ?_; (with_reducible refine (o_Ends.calls _ _ y196 t199 _ ?side1 ?side2 A1.out).mono ?_); (case side1 => repeat (first | exact (Kd.R_reads' HO198.out).2.2 | (with_reducible refine Kd.C_alloc ?_ _) | (with_reducible refine Kd.C_drewN ?_ _) | (with_reducible refine Kd.C_drew ?_))); (case side2 => exact (Kd.R_reads' HO198.out).2.1); rintro e w7 ⟨v200, rfl, ho0, hb⟩; refine ⟨_, rfl, ?_⟩; have n0_ := Aside0.mk (Kd.R_below (by (with_reducible repeat (first | apply Kd.R_alloc | apply Kd.R_drewN | apply Kd.R_drew)); exact HO198.out) hb); have n1_ := Aside0.mk (Kd.R_lower ho0 (below_size (by repeat (first | (with_reducible first | exact HB.out | apply below_alloc | apply pw_below_drewN | apply below_drew1) | exact HB.out)))); have n2_ := Aside0.mk (below_step (by repeat (first | (with_reducible first | exact HB.out | apply below_alloc | apply pw_below_drewN | apply below_drew1) | exact HB.out)) hb); clear HO198; clear HB; have HO198 := n0_; have HO201 := n1_; have HB := n2_; clear n0_ n1_ n2_; (try clear hb); (try clear hb2); (try clear hk); (try clear hi); (try clear ho0)) | ((with_reducible refine gate_callee (f := 9) rfl ?_); refine goesL_ (some 14) rfl rfl Try.func9 (by kernel_rfl) rfl #[.slice Ao6 y196.length co6] rfl (by (try simp only [List.map_toArray, List.map_cons, List.map_nil]); first | done | rfl | (simp only [List.length_drop, List.length_take]; rfl)) ?_; (with_reducible refine (o_Serial.calls _ _ y196 t202 t203 _ ?side1 ?side2 A2.out).mono ?_); (case side1 => repeat (first | exact (Kd.R_reads' HO198.out).2.2 | (with_reducible refine Kd.C_alloc ?_ _) | (with_reducible refine Kd.C_drewN ?_ _) | (with_reducible refine Kd.C_drew ?_))); (case side2 => exact (Kd.R_reads' HO198.out).2.1); rintro e w8 ⟨v204, rfl, ho0, hb⟩; refine ⟨_, rfl, ?_⟩; have n0_ := Aside0.mk (Kd.R_below (by (with_reducible repeat (first | apply Kd.R_alloc | apply Kd.R_drewN | apply Kd.R_drew)); exact HO198.out) hb); have n1_ := Aside0.mk (Kd.R_below (by (with_reducible repeat (first | apply Kd.R_alloc | apply Kd.R_drewN | apply Kd.R_drew)); exact HO201.out) hb); have n2_ := Aside0.mk (Kd.R_lower ho0 (below_size (by repeat (first | (with_reducible first | exact HB.out | apply below_alloc | apply pw_below_drewN | apply below_drew1) | exact HB.out)))); have n3_ := Aside0.mk (below_step (by repeat (first | (with_reducible first | exact HB.out | apply below_alloc | apply pw_below_drewN | apply below_drew1) | exact HB.out)) hb); clear HO198; clear HO201; clear HB; have HO198 := n0_; have HO201 := n1_; have HO205 := n2_; have HB := n3_; clear n0_ n1_ n2_ n3_; (try clear hb); (try clear hb2); (try clear hk); (try clear hi); (try clear ho0)))
 (try simp only [Act.put, List.setIfInBounds_toArray, List.set_cons_zero, List.set_cons_succ])
 go_cut [0] (fun v0 wc => ∃ (kq : Nat) (x0_2 : Bool), v0 = .bool x0_2 ∧ Aside0 (logjamlaw38_lives.j0 kq x0_2 = some r) ∧ Aside0 (kq ≤ k) ∧ Aside0 (Below w.heap.size w wc))
 case first =>
  have H := HC3.out
  clear HC3
  by_cases c9 : (t199.length : Int) = 2
  ·rw [if_pos c9] at H
   have c9b0 : ((t199.length : Int) == 2) = true := beq_iff_eq.mpr c9
   have c9b1 : ((t199.length : Int) != 2) = false := bne_eq_false_iff_eq.mpr c9
   clear c9
   (first | rw [c9b0] | (simp only [i64_w, i32_w]; rw [c9b0]) | skip)
   by_cases c10 : 1 < (t199.length : Int)
   ·rw [if_pos c10] at H
    have c10b0 : decide (1 < (t199.length : Int)) = true := decide_eq_true c10
    have c10b1 : decide (1 < t199.length) = true := decide_eq_true (by omega)
    clear c10
    by_cases c11 : (((rd_T31 t199 1).f0) == 2 && (((rd_T31 t199 1).f1) == 1 && (((rd_T31 t199 1).f2) == 3 && (((rd_T31 t199 1).f3) == 3)))) = true
    ·rw [if_pos c11] at H
     have c11b0 : (((rd_T31 t199 1).f0) == 2 && (((rd_T31 t199 1).f1) == 1 && (((rd_T31 t199 1).f2) == 3 && (((rd_T31 t199 1).f3) == 3)))) = true := c11
     (try (have c11b1 : decide (((rd_T31 t199 1).f0) = 2 && (((rd_T31 t199 1).f1) == 1 && (((rd_T31 t199 1).f2) == 3 && (((rd_T31 t199 1).f3) == 3)))) = true := by simpa using c11))
     (try (have c11b2 : (((rd_T31 t199 1).f0) == 2 && (((rd_T31 t199 1).f1) == 1 && (((rd_T31 t199 1).f2) == 3 && (((rd_T31 t199 1).f3) == 3)))) = true := by simpa using c11))
     clear c11
     replace H := Option.bind_eq_some_iff.mp H
     obtain ⟨t207, A120, H⟩ := H
     replace H : (if t207 = true then (logjamlaw38_lives.j0 k false) else (if 1 ≤ (y196.length : Int) then ((o_Strict.f (y196.take 1)).bind fun t212 => (if t212 = true then ((history_Before.f k y196 1 2).bind fun t213 => (if t213 = true then ((history_Before.f k y196 2 1).bind fun t214 => (if t214 = true then (logjamlaw38_lives.j0 k false) else (if t203 = true then ((logjamlaw30_Ints.f k t202 (([1, 2] : List Int))).bind fun t218 => (logjamlaw38_lives.j0 k t218)) else (logjamlaw38_lives.j0 k false)))) else (logjamlaw38_lives.j0 k false))) else (logjamlaw38_lives.j0 k false))) else (none))) = some r := H
     have A12 := Aside0.mk A120
     clear A120
     by_cases c13 : t207 = true
     ·subst c13
      have H1 : (logjamlaw38_lives.j0 k false) = some r := by rw [if_pos rfl] at H; exact H
      clear H
      have H := H1
      clear H1
      have H' := Aside0.mk H
      clear H
      obtain ⟨Ao14, co14, eo14⟩ := Kd.R_slice HO201.out
      subst eo14
      have p206 : 0 ≤ (1 : Int) := (by omega)
      have q206 : 1 < (t199.length : Int) := of_decide_eq_true (by first | (with_reducible assumption) | assumption)
      obtain ⟨ad206, e206, hx206_0, hx206_1, hx206_2, hx206_3⟩ := at_T31 (Kd.R_reads' HO201.out).2.2 1 p206 q206
      cases e206
      (try simp only [show (1 : Int).toNat = 1 from rfl, Nat.reduceMul, Nat.reduceEqDiff, Go.Addr.add, ↓reduceIte] at hx206_0)
      (try simp only [show (1 : Int).toNat = 1 from rfl, Nat.reduceMul, Nat.reduceEqDiff, Go.Addr.add, ↓reduceIte] at hx206_1)
      (try simp only [show (1 : Int).toNat = 1 from rfl, Nat.reduceMul, Nat.reduceEqDiff, Go.Addr.add, ↓reduceIte] at hx206_2)
      (try simp only [show (1 : Int).toNat = 1 from rfl, Nat.reduceMul, Nat.reduceEqDiff, Go.Addr.add, ↓reduceIte] at hx206_3)
      have qi206 : (1 < t199.length) = True := eq_true (by omega)
      (try rw [show ((1 : Int)).toNat = 1 from rfl] at hx206_0)
      (try rw [show 1 * 4 = 4 from rfl] at hx206_0)
      (try rw [show ((1 : Int)).toNat = 1 from rfl] at hx206_1)
      (try rw [show 1 * 4 = 4 from rfl] at hx206_1)
      (try rw [show ((1 : Int)).toNat = 1 from rfl] at hx206_2)
      (try rw [show 1 * 4 = 4 from rfl] at hx206_2)
      (try rw [show ((1 : Int)).toNat = 1 from rfl] at hx206_3)
      (try rw [show 1 * 4 = 4 from rfl] at hx206_3)
      replace p206 := eq_true p206
      replace q206 := eq_true q206
      go_wp2_with (first | (go_at_call 14; (with_reducible refine (o_Strict.calls _ _ y196 true _ ?side1 ?side2 A12.out).mono ?_); (case side1 => repeat (first | exact (Kd.R_reads' HO198.out).2.2 | (with_reducible refine Kd.C_alloc ?_ _) | (with_reducible refine Kd.C_drewN ?_ _) | (with_reducible refine Kd.C_drew ?_))); (case side2 => exact (Kd.R_reads' HO198.out).2.1); rintro e w15 ⟨rfl, hb⟩; have n0_ := Aside0.mk (Kd.R_below (by (with_reducible repeat (first | apply Kd.R_alloc | apply Kd.R_drewN | apply Kd.R_drew)); exact HO198.out) hb); have n1_ := Aside0.mk (Kd.R_below (by (with_reducible repeat (first | apply Kd.R_alloc | apply Kd.R_drewN | apply Kd.R_drew)); exact HO201.out) hb); have n2_ := Aside0.mk (Kd.R_below (by (with_reducible repeat (first | apply Kd.R_alloc | apply Kd.R_drewN | apply Kd.R_drew)); exact HO205.out) hb); have n3_ := Aside0.mk (below_step (by repeat (first | (with_reducible first | exact HB.out | apply below_alloc | apply pw_below_drewN | apply below_drew1) | exact HB.out)) hb); clear HO198; clear HO201; clear HO205; clear HB; have HO198 := n0_; have HO201 := n1_; have HO205 := n2_; have HB := n3_; clear n0_ n1_ n2_ n3_; (try clear hb); (try clear hb2); (try clear hk); (try clear hi)))
      go_meet
      case rel => exact ⟨_, (false), (by first | rfl | (simp; done) | (simp only [emptyNe_, emptyEq_]; done) | (simp [*]; done)), H', ⟨by first | omega | exact Nat.le_refl _⟩, ⟨by repeat (first | (with_reducible first | exact HB.out | apply below_alloc | apply pw_below_drewN | apply below_drew1) | exact HB.out)⟩⟩
     ·replace c13 := Bool.eq_false_iff.mpr c13
      subst c13
      have H1 : (if 1 ≤ (y196.length : Int) then ((o_Strict.f (y196.take 1)).bind fun t212 => (if t212 = true then ((history_Before.f k y196 1 2).bind fun t213 => (if t213 = true then ((history_Before.f k y196 2 1).bind fun t214 => (if t214 = true then (logjamlaw38_lives.j0 k false) else (if t203 = true then ((logjamlaw30_Ints.f k t202 (([1, 2] : List Int))).bind fun t218 => (logjamlaw38_lives.j0 k t218)) else (logjamlaw38_lives.j0 k false)))) else (logjamlaw38_lives.j0 k false))) else (logjamlaw38_lives.j0 k false))) else (none)) = some r := by rw [if_neg (show ¬ (false = true) by decide)] at H; exact H
      clear H
      have H := H1
      clear H1
      by_cases c16 : 1 ≤ (y196.length : Int)
      ·rw [if_pos c16] at H
       have c16b0 := eq_true c16
       have c16b1 : decide (1 ≤ (y196.length : Int)) = true := decide_eq_true c16
       clear c16
       obtain ⟨y208, hy208⟩ : ∃ y_ : List (S29), y_ = (y196.take 1) := ⟨_, rfl⟩
       replace H : ((o_Strict.f y208).bind fun t212 => (if t212 = true then ((history_Before.f k y196 1 2).bind fun t213 => (if t213 = true then ((history_Before.f k y196 2 1).bind fun t214 => (if t214 = true then (logjamlaw38_lives.j0 k false) else (if t203 = true then ((logjamlaw30_Ints.f k t202 (([1, 2] : List Int))).bind fun t218 => (logjamlaw38_lives.j0 k t218)) else (logjamlaw38_lives.j0 k false)))) else (logjamlaw38_lives.j0 k false))) else (logjamlaw38_lives.j0 k false))) = some r := by first | (rw [hy208]; with_reducible exact H) | (have H2_ := (Option.bind_some _ _).symm.trans H; rw [hy208]; with_reducible exact H2_) | (have H2_ := (Option.bind_some _ _).symm.trans H; with_reducible exact H2_) | with_reducible exact H | (rw [hy208]; exact H) | exact H
       have Ny208 := Aside0.mk hy208
       clear hy208
       replace H := Option.bind_eq_some_iff.mp H
       obtain ⟨t212, A170, H⟩ := H
       replace H : (if t212 = true then ((history_Before.f k y196 1 2).bind fun t213 => (if t213 = true then ((history_Before.f k y196 2 1).bind fun t214 => (if t214 = true then (logjamlaw38_lives.j0 k false) else (if t203 = true then ((logjamlaw30_Ints.f k t202 (([1, 2] : List Int))).bind fun t218 => (logjamlaw38_lives.j0 k t218)) else (logjamlaw38_lives.j0 k false)))) else (logjamlaw38_lives.j0 k false))) else (logjamlaw38_lives.j0 k false)) = some r := H
       have A17 := Aside0.mk A170
       clear A170
       by_cases c18 : t212 = true
       ·subst c18
        have H1 : ((history_Before.f k y196 1 2).bind fun t213 => (if t213 = true then ((history_Before.f k y196 2 1).bind fun t214 => (if t214 = true then (logjamlaw38_lives.j0 k false) else (if t203 = true then ((logjamlaw30_Ints.f k t202 (([1, 2] : List Int))).bind fun t218 => (logjamlaw38_lives.j0 k t218)) else (logjamlaw38_lives.j0 k false)))) else (logjamlaw38_lives.j0 k false))) = some r := by rw [if_pos rfl] at H; exact H
        clear H
        have H := H1
        clear H1
        replace H := Option.bind_eq_some_iff.mp H
        obtain ⟨t213, A190, H⟩ := H
        replace H : (if t213 = true then ((history_Before.f k y196 2 1).bind fun t214 => (if t214 = true then (logjamlaw38_lives.j0 k false) else (if t203 = true then ((logjamlaw30_Ints.f k t202 (([1, 2] : List Int))).bind fun t218 => (logjamlaw38_lives.j0 k t218)) else (logjamlaw38_lives.j0 k false)))) else (logjamlaw38_lives.j0 k false)) = some r := H
        have A19 := Aside0.mk A190
        clear A190
        by_cases c20 : t213 = true
        ·subst c20
         have H1 : ((history_Before.f k y196 2 1).bind fun t214 => (if t214 = true then (logjamlaw38_lives.j0 k false) else (if t203 = true then ((logjamlaw30_Ints.f k t202 (([1, 2] : List Int))).bind fun t218 => (logjamlaw38_lives.j0 k t218)) else (logjamlaw38_lives.j0 k false)))) = some r := by rw [if_pos rfl] at H; exact H
         clear H
         have H := H1
         clear H1
         replace H := Option.bind_eq_some_iff.mp H
         obtain ⟨t214, A210, H⟩ := H
         replace H : (if t214 = true then (logjamlaw38_lives.j0 k false) else (if t203 = true then ((logjamlaw30_Ints.f k t202 (([1, 2] : List Int))).bind fun t218 => (logjamlaw38_lives.j0 k t218)) else (logjamlaw38_lives.j0 k false))) = some r := H
         have A21 := Aside0.mk A210
         clear A210
         by_cases c22 : t214 = true
         ·subst c22
          have H1 : (logjamlaw38_lives.j0 k false) = some r := by rw [if_pos rfl] at H; exact H
          clear H
          have H := H1
          clear H1
          have H' := Aside0.mk H
          clear H
          obtain ⟨Ao23, co23, eo23⟩ := Kd.R_slice HO201.out
          subst eo23
          have p206 : 0 ≤ (1 : Int) := (by omega)
          have q206 : 1 < (t199.length : Int) := of_decide_eq_true (by first | (with_reducible assumption) | assumption)
          obtain ⟨ad206, e206, hx206_0, hx206_1, hx206_2, hx206_3⟩ := at_T31 (Kd.R_reads' HO201.out).2.2 1 p206 q206
          cases e206
          (try simp only [show (1 : Int).toNat = 1 from rfl, Nat.reduceMul, Nat.reduceEqDiff, Go.Addr.add, ↓reduceIte] at hx206_0)
          (try simp only [show (1 : Int).toNat = 1 from rfl, Nat.reduceMul, Nat.reduceEqDiff, Go.Addr.add, ↓reduceIte] at hx206_1)
          (try simp only [show (1 : Int).toNat = 1 from rfl, Nat.reduceMul, Nat.reduceEqDiff, Go.Addr.add, ↓reduceIte] at hx206_2)
          (try simp only [show (1 : Int).toNat = 1 from rfl, Nat.reduceMul, Nat.reduceEqDiff, Go.Addr.add, ↓reduceIte] at hx206_3)
          have qi206 : (1 < t199.length) = True := eq_true (by omega)
          (try rw [show ((1 : Int)).toNat = 1 from rfl] at hx206_0)
          (try rw [show 1 * 4 = 4 from rfl] at hx206_0)
          (try rw [show ((1 : Int)).toNat = 1 from rfl] at hx206_1)
          (try rw [show 1 * 4 = 4 from rfl] at hx206_1)
          (try rw [show ((1 : Int)).toNat = 1 from rfl] at hx206_2)
          (try rw [show 1 * 4 = 4 from rfl] at hx206_2)
          (try rw [show ((1 : Int)).toNat = 1 from rfl] at hx206_3)
          (try rw [show 1 * 4 = 4 from rfl] at hx206_3)
          replace p206 := eq_true p206
          replace q206 := eq_true q206
          go_wp2_with (first | (go_at_call 14; (with_reducible refine (o_Strict.calls _ _ y196 false _ ?side1 ?side2 A12.out).mono ?_); (case side1 => repeat (first | exact (Kd.R_reads' HO198.out).2.2 | (with_reducible refine Kd.C_alloc ?_ _) | (with_reducible refine Kd.C_drewN ?_ _) | (with_reducible refine Kd.C_drew ?_))); (case side2 => exact (Kd.R_reads' HO198.out).2.1); rintro e w24 ⟨rfl, hb⟩; have n0_ := Aside0.mk (Kd.R_below (by (with_reducible repeat (first | apply Kd.R_alloc | apply Kd.R_drewN | apply Kd.R_drew)); exact HO198.out) hb); have n1_ := Aside0.mk (Kd.R_below (by (with_reducible repeat (first | apply Kd.R_alloc | apply Kd.R_drewN | apply Kd.R_drew)); exact HO201.out) hb); have n2_ := Aside0.mk (Kd.R_below (by (with_reducible repeat (first | apply Kd.R_alloc | apply Kd.R_drewN | apply Kd.R_drew)); exact HO205.out) hb); have n3_ := Aside0.mk (below_step (by repeat (first | (with_reducible first | exact HB.out | apply below_alloc | apply pw_below_drewN | apply below_drew1) | exact HB.out)) hb); clear HO198; clear HO201; clear HO205; clear HB; have HO198 := n0_; have HO201 := n1_; have HO205 := n2_; have HB := n3_; clear n0_ n1_ n2_ n3_; (try clear hb); (try clear hb2); (try clear hk); (try clear hi); have q25 : (1 : Int) ≤ ((y196.length : Int) : Int) := of_decide_eq_true (by first | (with_reducible assumption) | assumption); obtain ⟨i025, hi025, _, hsz25, _⟩ := info_parts info29; have hroom25 : y196.length ≤ co6 := (Kd.R_reads' HO198.out).2.1; have hC25 : Kd.C k29 _ Ao6 y196.length y196 := (Kd.R_reads' HO198.out).2.2; have hcut25 := cut_to (P := Try.prog) 22 29 .i64 Try.underlying22 hi025 Ao6 y196.length co6 1 (by omega) q25 hroom25; have hr25 := Kd.C_take (m := 1) hC25 (by omega); have hy25 : y208.length = (1 : Int).toNat := (by rw [Ny208.out, List.length_take]; omega); rw [← Ny208.out] at hr25; rw [← hy25] at hcut25; have HR211 := Aside0.mk hr25; have HC211 := Aside0.mk (show y208.length ≤ co6 from by omega); clear hr25 hC25 hroom25 hi025 hsz25; have KY25 := Aside0.mk hy25; clear hy25; have KL25 := Aside0.mk (show 1 ≤ y196.length from by omega); replace q25 := eq_true q25) | (go_at_call 14; (with_reducible refine (o_Strict.calls _ _ y208 true _ ?side1 ?side2 A17.out).mono ?_); (case side1 => repeat (first | exact (by repeat (first | (with_reducible exact HR211.out) | (with_reducible refine Kd.C_alloc ?_ _) | (with_reducible refine Kd.C_drewN ?_ _) | (with_reducible refine Kd.C_drew ?_) | exact HR211.out)) | (with_reducible refine Kd.C_alloc ?_ _) | (with_reducible refine Kd.C_drewN ?_ _) | (with_reducible refine Kd.C_drew ?_))); (case side2 => exact HC211.out); rintro e w26 ⟨rfl, hb⟩; have n0_ := Aside0.mk (Kd.R_below (by (with_reducible repeat (first | apply Kd.R_alloc | apply Kd.R_drewN | apply Kd.R_drew)); exact HO198.out) hb); have n1_ := Aside0.mk (Kd.R_below (by (with_reducible repeat (first | apply Kd.R_alloc | apply Kd.R_drewN | apply Kd.R_drew)); exact HO201.out) hb); have n2_ := Aside0.mk (Kd.R_below (by (with_reducible repeat (first | apply Kd.R_alloc | apply Kd.R_drewN | apply Kd.R_drew)); exact HO205.out) hb); have n3_ := Aside0.mk (Kd.C_below (by repeat (first | (with_reducible exact HR211.out) | (with_reducible refine Kd.C_alloc ?_ _) | (with_reducible refine Kd.C_drewN ?_ _) | (with_reducible refine Kd.C_drew ?_) | exact HR211.out)) hb); have n4_ := Aside0.mk (below_step (by repeat (first | (with_reducible first | exact HB.out | apply below_alloc | apply pw_below_drewN | apply below_drew1) | exact HB.out)) hb); clear HO198; clear HO201; clear HO205; clear HR211; clear HB; have HO198 := n0_; have HO201 := n1_; have HO205 := n2_; have HR211 := n3_; have HB := n4_; clear n0_ n1_ n2_ n3_ n4_; (try clear hb); (try clear hb2); (try clear hk); (try clear hi)) | (go_at_call 12; (with_reducible refine (history_Before.calls k _ _ y196 1 2 true _ ?side1 ?side2 A19.out).mono ?_); (case side1 => repeat (first | exact (Kd.R_reads' HO198.out).2.2 | (with_reducible refine Kd.C_alloc ?_ _) | (with_reducible refine Kd.C_drewN ?_ _) | (with_reducible refine Kd.C_drew ?_))); (case side2 => exact (Kd.R_reads' HO198.out).2.1); rintro e w27 ⟨rfl, hb⟩; have n0_ := Aside0.mk (Kd.R_below (by (with_reducible repeat (first | apply Kd.R_alloc | apply Kd.R_drewN | apply Kd.R_drew)); exact HO198.out) hb); have n1_ := Aside0.mk (Kd.R_below (by (with_reducible repeat (first | apply Kd.R_alloc | apply Kd.R_drewN | apply Kd.R_drew)); exact HO201.out) hb); have n2_ := Aside0.mk (Kd.R_below (by (with_reducible repeat (first | apply Kd.R_alloc | apply Kd.R_drewN | apply Kd.R_drew)); exact HO205.out) hb); have n3_ := Aside0.mk (Kd.C_below (by repeat (first | (with_reducible exact HR211.out) | (with_reducible refine Kd.C_alloc ?_ _) | (with_reducible refine Kd.C_drewN ?_ _) | (with_reducible refine Kd.C_drew ?_) | exact HR211.out)) hb); have n4_ := Aside0.mk (below_step (by repeat (first | (with_reducible first | exact HB.out | apply below_alloc | apply pw_below_drewN | apply below_drew1) | exact HB.out)) hb); clear HO198; clear HO201; clear HO205; clear HR211; clear HB; have HO198 := n0_; have HO201 := n1_; have HO205 := n2_; have HR211 := n3_; have HB := n4_; clear n0_ n1_ n2_ n3_ n4_; (try clear hb); (try clear hb2); (try clear hk); (try clear hi)) | (go_at_call 12; (with_reducible refine (history_Before.calls k _ _ y196 2 1 true _ ?side1 ?side2 A21.out).mono ?_); (case side1 => repeat (first | exact (Kd.R_reads' HO198.out).2.2 | (with_reducible refine Kd.C_alloc ?_ _) | (with_reducible refine Kd.C_drewN ?_ _) | (with_reducible refine Kd.C_drew ?_))); (case side2 => exact (Kd.R_reads' HO198.out).2.1); rintro e w28 ⟨rfl, hb⟩; have n0_ := Aside0.mk (Kd.R_below (by (with_reducible repeat (first | apply Kd.R_alloc | apply Kd.R_drewN | apply Kd.R_drew)); exact HO198.out) hb); have n1_ := Aside0.mk (Kd.R_below (by (with_reducible repeat (first | apply Kd.R_alloc | apply Kd.R_drewN | apply Kd.R_drew)); exact HO201.out) hb); have n2_ := Aside0.mk (Kd.R_below (by (with_reducible repeat (first | apply Kd.R_alloc | apply Kd.R_drewN | apply Kd.R_drew)); exact HO205.out) hb); have n3_ := Aside0.mk (Kd.C_below (by repeat (first | (with_reducible exact HR211.out) | (with_reducible refine Kd.C_alloc ?_ _) | (with_reducible refine Kd.C_drewN ?_ _) | (with_reducible refine Kd.C_drew ?_) | exact HR211.out)) hb); have n4_ := Aside0.mk (below_step (by repeat (first | (with_reducible first | exact HB.out | apply below_alloc | apply pw_below_drewN | apply below_drew1) | exact HB.out)) hb); clear HO198; clear HO201; clear HO205; clear HR211; clear HB; have HO198 := n0_; have HO201 := n1_; have HO205 := n2_; have HR211 := n3_; have HB := n4_; clear n0_ n1_ n2_ n3_ n4_; (try clear hb); (try clear hb2); (try clear hk); (try clear hi)))
          go_meet
          case rel => exact ⟨_, (false), (by first | rfl | (simp; done) | (simp only [emptyNe_, emptyEq_]; done) | (simp [*]; done)), H', ⟨by first | omega | exact Nat.le_refl _⟩, ⟨by repeat (first | (with_reducible first | exact HB.out | apply below_alloc | apply pw_below_drewN | apply below_drew1) | exact HB.out)⟩⟩
         ·replace c22 := Bool.eq_false_iff.mpr c22
          subst c22
          have H1 : (if t203 = true then ((logjamlaw30_Ints.f k t202 (([1, 2] : List Int))).bind fun t218 => (logjamlaw38_lives.j0 k t218)) else (logjamlaw38_lives.j0 k false)) = some r := by rw [if_neg (show ¬ (false = true) by decide)] at H; exact H
          clear H
          have H := H1
          clear H1
          by_cases c29 : t203 = true
          ·subst c29
           have H1 : ((logjamlaw30_Ints.f k t202 (([1, 2] : List Int))).bind fun t218 => (logjamlaw38_lives.j0 k t218)) = some r := by rw [if_pos rfl] at H; exact H
           clear H
           have H := H1
           clear H1
           obtain ⟨y215, hy215⟩ : ∃ y_ : List Int, y_ = (([1, 2] : List Int)) := ⟨_, rfl⟩
           replace H : ((logjamlaw30_Ints.f k t202 y215).bind fun t218 => (logjamlaw38_lives.j0 k t218)) = some r := by first | (rw [hy215]; with_reducible exact H) | (have H2_ := (Option.bind_some _ _).symm.trans H; rw [hy215]; with_reducible exact H2_) | (have H2_ := (Option.bind_some _ _).symm.trans H; with_reducible exact H2_) | with_reducible exact H | (rw [hy215]; exact H) | exact H
           have Ny215 := Aside0.mk hy215
           clear hy215
           replace H := Option.bind_eq_some_iff.mp H
           obtain ⟨t218, A300, H⟩ := H
           replace H : (logjamlaw38_lives.j0 k t218) = some r := H
           have A30 := Aside0.mk A300
           clear A300
           have H' := Aside0.mk H
           clear H
           obtain ⟨Ao31, co31, eo31⟩ := Kd.R_slice HO201.out
           subst eo31
           have p206 : 0 ≤ (1 : Int) := (by omega)
           have q206 : 1 < (t199.length : Int) := of_decide_eq_true (by first | (with_reducible assumption) | assumption)
           obtain ⟨ad206, e206, hx206_0, hx206_1, hx206_2, hx206_3⟩ := at_T31 (Kd.R_reads' HO201.out).2.2 1 p206 q206
           cases e206
           (try simp only [show (1 : Int).toNat = 1 from rfl, Nat.reduceMul, Nat.reduceEqDiff, Go.Addr.add, ↓reduceIte] at hx206_0)
           (try simp only [show (1 : Int).toNat = 1 from rfl, Nat.reduceMul, Nat.reduceEqDiff, Go.Addr.add, ↓reduceIte] at hx206_1)
           (try simp only [show (1 : Int).toNat = 1 from rfl, Nat.reduceMul, Nat.reduceEqDiff, Go.Addr.add, ↓reduceIte] at hx206_2)
           (try simp only [show (1 : Int).toNat = 1 from rfl, Nat.reduceMul, Nat.reduceEqDiff, Go.Addr.add, ↓reduceIte] at hx206_3)
           have qi206 : (1 < t199.length) = True := eq_true (by omega)
           (try rw [show ((1 : Int)).toNat = 1 from rfl] at hx206_0)
           (try rw [show 1 * 4 = 4 from rfl] at hx206_0)
           (try rw [show ((1 : Int)).toNat = 1 from rfl] at hx206_1)
           (try rw [show 1 * 4 = 4 from rfl] at hx206_1)
           (try rw [show ((1 : Int)).toNat = 1 from rfl] at hx206_2)
           (try rw [show 1 * 4 = 4 from rfl] at hx206_2)
           (try rw [show ((1 : Int)).toNat = 1 from rfl] at hx206_3)
           (try rw [show 1 * 4 = 4 from rfl] at hx206_3)
           replace p206 := eq_true p206
           replace q206 := eq_true q206
           go_wp2_with (first | (go_at_call 14; (with_reducible refine (o_Strict.calls _ _ y196 false _ ?side1 ?side2 A12.out).mono ?_); (case side1 => repeat (first | exact (Kd.R_reads' HO198.out).2.2 | (with_reducible refine Kd.C_alloc ?_ _) | (with_reducible refine Kd.C_drewN ?_ _) | (with_reducible refine Kd.C_drew ?_))); (case side2 => exact (Kd.R_reads' HO198.out).2.1); rintro e w32 ⟨rfl, hb⟩; have n0_ := Aside0.mk (Kd.R_below (by (with_reducible repeat (first | apply Kd.R_alloc | apply Kd.R_drewN | apply Kd.R_drew)); exact HO198.out) hb); have n1_ := Aside0.mk (Kd.R_below (by (with_reducible repeat (first | apply Kd.R_alloc | apply Kd.R_drewN | apply Kd.R_drew)); exact HO201.out) hb); have n2_ := Aside0.mk (Kd.R_below (by (with_reducible repeat (first | apply Kd.R_alloc | apply Kd.R_drewN | apply Kd.R_drew)); exact HO205.out) hb); have n3_ := Aside0.mk (below_step (by repeat (first | (with_reducible first | exact HB.out | apply below_alloc | apply pw_below_drewN | apply below_drew1) | exact HB.out)) hb); clear HO198; clear HO201; clear HO205; clear HB; have HO198 := n0_; have HO201 := n1_; have HO205 := n2_; have HB := n3_; clear n0_ n1_ n2_ n3_; (try clear hb); (try clear hb2); (try clear hk); (try clear hi); have q33 : (1 : Int) ≤ ((y196.length : Int) : Int) := of_decide_eq_true (by first | (with_reducible assumption) | assumption); obtain ⟨i033, hi033, _, hsz33, _⟩ := info_parts info29; have hroom33 : y196.length ≤ co6 := (Kd.R_reads' HO198.out).2.1; have hC33 : Kd.C k29 _ Ao6 y196.length y196 := (Kd.R_reads' HO198.out).2.2; have hcut33 := cut_to (P := Try.prog) 22 29 .i64 Try.underlying22 hi033 Ao6 y196.length co6 1 (by omega) q33 hroom33; have hr33 := Kd.C_take (m := 1) hC33 (by omega); have hy33 : y208.length = (1 : Int).toNat := (by rw [Ny208.out, List.length_take]; omega); rw [← Ny208.out] at hr33; rw [← hy33] at hcut33; have HR211 := Aside0.mk hr33; have HC211 := Aside0.mk (show y208.length ≤ co6 from by omega); clear hr33 hC33 hroom33 hi033 hsz33; have KY33 := Aside0.mk hy33; clear hy33; have KL33 := Aside0.mk (show 1 ≤ y196.length from by omega); replace q33 := eq_true q33) | (go_at_call 14; (with_reducible refine (o_Strict.calls _ _ y208 true _ ?side1 ?side2 A17.out).mono ?_); (case side1 => repeat (first | exact (by repeat (first | (with_reducible exact HR211.out) | (with_reducible refine Kd.C_alloc ?_ _) | (with_reducible refine Kd.C_drewN ?_ _) | (with_reducible refine Kd.C_drew ?_) | exact HR211.out)) | (with_reducible refine Kd.C_alloc ?_ _) | (with_reducible refine Kd.C_drewN ?_ _) | (with_reducible refine Kd.C_drew ?_))); (case side2 => exact HC211.out); rintro e w34 ⟨rfl, hb⟩; have n0_ := Aside0.mk (Kd.R_below (by (with_reducible repeat (first | apply Kd.R_alloc | apply Kd.R_drewN | apply Kd.R_drew)); exact HO198.out) hb); have n1_ := Aside0.mk (Kd.R_below (by (with_reducible repeat (first | apply Kd.R_alloc | apply Kd.R_drewN | apply Kd.R_drew)); exact HO201.out) hb); have n2_ := Aside0.mk (Kd.R_below (by (with_reducible repeat (first | apply Kd.R_alloc | apply Kd.R_drewN | apply Kd.R_drew)); exact HO205.out) hb); have n3_ := Aside0.mk (Kd.C_below (by repeat (first | (with_reducible exact HR211.out) | (with_reducible refine Kd.C_alloc ?_ _) | (with_reducible refine Kd.C_drewN ?_ _) | (with_reducible refine Kd.C_drew ?_) | exact HR211.out)) hb); have n4_ := Aside0.mk (below_step (by repeat (first | (with_reducible first | exact HB.out | apply below_alloc | apply pw_below_drewN | apply below_drew1) | exact HB.out)) hb); clear HO198; clear HO201; clear HO205; clear HR211; clear HB; have HO198 := n0_; have HO201 := n1_; have HO205 := n2_; have HR211 := n3_; have HB := n4_; clear n0_ n1_ n2_ n3_ n4_; (try clear hb); (try clear hb2); (try clear hk); (try clear hi)) | (go_at_call 12; (with_reducible refine (history_Before.calls k _ _ y196 1 2 true _ ?side1 ?side2 A19.out).mono ?_); (case side1 => repeat (first | exact (Kd.R_reads' HO198.out).2.2 | (with_reducible refine Kd.C_alloc ?_ _) | (with_reducible refine Kd.C_drewN ?_ _) | (with_reducible refine Kd.C_drew ?_))); (case side2 => exact (Kd.R_reads' HO198.out).2.1); rintro e w35 ⟨rfl, hb⟩; have n0_ := Aside0.mk (Kd.R_below (by (with_reducible repeat (first | apply Kd.R_alloc | apply Kd.R_drewN | apply Kd.R_drew)); exact HO198.out) hb); have n1_ := Aside0.mk (Kd.R_below (by (with_reducible repeat (first | apply Kd.R_alloc | apply Kd.R_drewN | apply Kd.R_drew)); exact HO201.out) hb); have n2_ := Aside0.mk (Kd.R_below (by (with_reducible repeat (first | apply Kd.R_alloc | apply Kd.R_drewN | apply Kd.R_drew)); exact HO205.out) hb); have n3_ := Aside0.mk (Kd.C_below (by repeat (first | (with_reducible exact HR211.out) | (with_reducible refine Kd.C_alloc ?_ _) | (with_reducible refine Kd.C_drewN ?_ _) | (with_reducible refine Kd.C_drew ?_) | exact HR211.out)) hb); have n4_ := Aside0.mk (below_step (by repeat (first | (with_reducible first | exact HB.out | apply below_alloc | apply pw_below_drewN | apply below_drew1) | exact HB.out)) hb); clear HO198; clear HO201; clear HO205; clear HR211; clear HB; have HO198 := n0_; have HO201 := n1_; have HO205 := n2_; have HR211 := n3_; have HB := n4_; clear n0_ n1_ n2_ n3_ n4_; (try clear hb); (try clear hb2); (try clear hk); (try clear hi)) | (go_at_call 12; (with_reducible refine (history_Before.calls k _ _ y196 2 1 false _ ?side1 ?side2 A21.out).mono ?_); (case side1 => repeat (first | exact (Kd.R_reads' HO198.out).2.2 | (with_reducible refine Kd.C_alloc ?_ _) | (with_reducible refine Kd.C_drewN ?_ _) | (with_reducible refine Kd.C_drew ?_))); (case side2 => exact (Kd.R_reads' HO198.out).2.1); rintro e w36 ⟨rfl, hb⟩; have n0_ := Aside0.mk (Kd.R_below (by (with_reducible repeat (first | apply Kd.R_alloc | apply Kd.R_drewN | apply Kd.R_drew)); exact HO198.out) hb); have n1_ := Aside0.mk (Kd.R_below (by (with_reducible repeat (first | apply Kd.R_alloc | apply Kd.R_drewN | apply Kd.R_drew)); exact HO201.out) hb); have n2_ := Aside0.mk (Kd.R_below (by (with_reducible repeat (first | apply Kd.R_alloc | apply Kd.R_drewN | apply Kd.R_drew)); exact HO205.out) hb); have n3_ := Aside0.mk (Kd.C_below (by repeat (first | (with_reducible exact HR211.out) | (with_reducible refine Kd.C_alloc ?_ _) | (with_reducible refine Kd.C_drewN ?_ _) | (with_reducible refine Kd.C_drew ?_) | exact HR211.out)) hb); have n4_ := Aside0.mk (below_step (by repeat (first | (with_reducible first | exact HB.out | apply below_alloc | apply pw_below_drewN | apply below_drew1) | exact HB.out)) hb); clear HO198; clear HO201; clear HO205; clear HR211; clear HB; have HO198 := n0_; have HO201 := n1_; have HO205 := n2_; have HR211 := n3_; have HB := n4_; clear n0_ n1_ n2_ n3_ n4_; (try clear hb); (try clear hb2); (try clear hk); (try clear hi)) | ((with_reducible refine gate_dst (N := 51) rfl ?_); (try (refine gate_guard (by rfl) ?_; dsimp only)); refine Kd.R_lit (Kd.int .i64) _ 3 ?hg (N := 51) ?hd (xs := ([1, 2] : List Int)) (inner := [.int .i64 1, .int .i64 2]) (ok := fun _ => True) (okp := fun _ => True) ?hr ?hp (fun _ hk => hk) trivial (Below.refl _ _) (Nat.le_refl _) (by simp) ?_; (case hd => rfl); (case hg => rfl); (case hr => first | (go_simp; done) | (go_simp; rfl)); (case hp => exact (Reps.one (show Kd.M (Kd.int .i64) _ _ _ 1 [.int .i64 1] from rfl) (Reps.one (show Kd.M (Kd.int .i64) _ _ _ 2 [.int .i64 2] from rfl) (Reps.none _ _)))); intro v216 w37 ho38 hb hg_ hnew_; clear hg_ hnew_; (first | rw [← Ny215.out] at ho38 | (simp only [Int.reduceToNat] at ho38; rw [← Ny215.out] at ho38)); have n0_ := Aside0.mk (Kd.R_below (by (with_reducible repeat (first | apply Kd.R_alloc | apply Kd.R_drewN | apply Kd.R_drew)); exact HO198.out) hb); have n1_ := Aside0.mk (Kd.R_below (by (with_reducible repeat (first | apply Kd.R_alloc | apply Kd.R_drewN | apply Kd.R_drew)); exact HO201.out) hb); have n2_ := Aside0.mk (Kd.R_elder' (by (with_reducible repeat (first | apply Kd.R_alloc | apply Kd.R_drewN | apply Kd.R_drew)); exact HO205.out) (Kd.R_base ho38) hb); have n3_ := Aside0.mk (Kd.R_lower (Kd.R_new' ho38 (Kd.R_lt (by (with_reducible repeat (first | apply Kd.R_alloc | apply Kd.R_drewN | apply Kd.R_drew)); exact HO205.out))) (below_size (by repeat (first | (with_reducible first | exact HB.out | apply below_alloc | apply pw_below_drewN | apply below_drew1) | exact HB.out)))); have n4_ := Aside0.mk (Kd.C_below (by repeat (first | (with_reducible exact HR211.out) | (with_reducible refine Kd.C_alloc ?_ _) | (with_reducible refine Kd.C_drewN ?_ _) | (with_reducible refine Kd.C_drew ?_) | exact HR211.out)) hb); have n5_ := Aside0.mk (below_step (by repeat (first | (with_reducible first | exact HB.out | apply below_alloc | apply pw_below_drewN | apply below_drew1) | exact HB.out)) hb); clear HO198; clear HO201; clear HO205; clear HR211; clear HB; have HO198 := n0_; have HO201 := n1_; have HO205 := n2_; have HO217 := n3_; have HR211 := n4_; have HB := n5_; clear n0_ n1_ n2_ n3_ n4_ n5_; clear hb ho38; obtain ⟨Ao39, co39, eo39⟩ := Kd.R_slice HO205.out; subst eo39; obtain ⟨Ao40, co40, eo40⟩ := Kd.R_slice HO217.out; subst eo40) | (go_at_call 11; (with_reducible refine (logjamlaw30_Ints.calls k _ _ t202 _ _ y215 t218 _ ?side1 ?side2 ?side3 ?side4 A30.out).mono ?_); (case side1 => repeat (first | exact (Kd.R_reads' HO205.out).2.2 | (with_reducible refine Kd.C_alloc ?_ _) | (with_reducible refine Kd.C_drewN ?_ _) | (with_reducible refine Kd.C_drew ?_))); (case side2 => exact (Kd.R_reads' HO205.out).2.1); (case side3 => repeat (first | exact (Kd.R_reads' HO217.out).2.2 | (with_reducible refine Kd.C_alloc ?_ _) | (with_reducible refine Kd.C_drewN ?_ _) | (with_reducible refine Kd.C_drew ?_))); (case side4 => exact (Kd.R_reads' HO217.out).2.1); rintro e w' ⟨rfl, ⟨nd, rfl⟩⟩))
           go_meet
           case rel => exact ⟨_, (t218), (by first | rfl | (simp; done) | (simp only [emptyNe_, emptyEq_]; done) | (simp [*]; done)), H', ⟨by first | omega | exact Nat.le_refl _⟩, ⟨by repeat (first | (with_reducible first | exact HB.out | apply below_alloc | apply pw_below_drewN | apply below_drew1) | exact HB.out)⟩⟩
          ·replace c29 := Bool.eq_false_iff.mpr c29
           subst c29
           have H1 : (logjamlaw38_lives.j0 k false) = some r := by rw [if_neg (show ¬ (false = true) by decide)] at H; exact H
           clear H
           have H := H1
           clear H1
           have H' := Aside0.mk H
           clear H
           obtain ⟨Ao41, co41, eo41⟩ := Kd.R_slice HO201.out
           subst eo41
           have p206 : 0 ≤ (1 : Int) := (by omega)
           have q206 : 1 < (t199.length : Int) := of_decide_eq_true (by first | (with_reducible assumption) | assumption)
           obtain ⟨ad206, e206, hx206_0, hx206_1, hx206_2, hx206_3⟩ := at_T31 (Kd.R_reads' HO201.out).2.2 1 p206 q206
           cases e206
           (try simp only [show (1 : Int).toNat = 1 from rfl, Nat.reduceMul, Nat.reduceEqDiff, Go.Addr.add, ↓reduceIte] at hx206_0)
           (try simp only [show (1 : Int).toNat = 1 from rfl, Nat.reduceMul, Nat.reduceEqDiff, Go.Addr.add, ↓reduceIte] at hx206_1)
           (try simp only [show (1 : Int).toNat = 1 from rfl, Nat.reduceMul, Nat.reduceEqDiff, Go.Addr.add, ↓reduceIte] at hx206_2)
           (try simp only [show (1 : Int).toNat = 1 from rfl, Nat.reduceMul, Nat.reduceEqDiff, Go.Addr.add, ↓reduceIte] at hx206_3)
           have qi206 : (1 < t199.length) = True := eq_true (by omega)
           (try rw [show ((1 : Int)).toNat = 1 from rfl] at hx206_0)
           (try rw [show 1 * 4 = 4 from rfl] at hx206_0)
           (try rw [show ((1 : Int)).toNat = 1 from rfl] at hx206_1)
           (try rw [show 1 * 4 = 4 from rfl] at hx206_1)
           (try rw [show ((1 : Int)).toNat = 1 from rfl] at hx206_2)
           (try rw [show 1 * 4 = 4 from rfl] at hx206_2)
           (try rw [show ((1 : Int)).toNat = 1 from rfl] at hx206_3)
           (try rw [show 1 * 4 = 4 from rfl] at hx206_3)
           replace p206 := eq_true p206
           replace q206 := eq_true q206
           go_wp2_with (first | (go_at_call 14; (with_reducible refine (o_Strict.calls _ _ y196 false _ ?side1 ?side2 A12.out).mono ?_); (case side1 => repeat (first | exact (Kd.R_reads' HO198.out).2.2 | (with_reducible refine Kd.C_alloc ?_ _) | (with_reducible refine Kd.C_drewN ?_ _) | (with_reducible refine Kd.C_drew ?_))); (case side2 => exact (Kd.R_reads' HO198.out).2.1); rintro e w42 ⟨rfl, hb⟩; have n0_ := Aside0.mk (Kd.R_below (by (with_reducible repeat (first | apply Kd.R_alloc | apply Kd.R_drewN | apply Kd.R_drew)); exact HO198.out) hb); have n1_ := Aside0.mk (Kd.R_below (by (with_reducible repeat (first | apply Kd.R_alloc | apply Kd.R_drewN | apply Kd.R_drew)); exact HO201.out) hb); have n2_ := Aside0.mk (Kd.R_below (by (with_reducible repeat (first | apply Kd.R_alloc | apply Kd.R_drewN | apply Kd.R_drew)); exact HO205.out) hb); have n3_ := Aside0.mk (below_step (by repeat (first | (with_reducible first | exact HB.out | apply below_alloc | apply pw_below_drewN | apply below_drew1) | exact HB.out)) hb); clear HO198; clear HO201; clear HO205; clear HB; have HO198 := n0_; have HO201 := n1_; have HO205 := n2_; have HB := n3_; clear n0_ n1_ n2_ n3_; (try clear hb); (try clear hb2); (try clear hk); (try clear hi); have q43 : (1 : Int) ≤ ((y196.length : Int) : Int) := of_decide_eq_true (by first | (with_reducible assumption) | assumption); obtain ⟨i043, hi043, _, hsz43, _⟩ := info_parts info29; have hroom43 : y196.length ≤ co6 := (Kd.R_reads' HO198.out).2.1; have hC43 : Kd.C k29 _ Ao6 y196.length y196 := (Kd.R_reads' HO198.out).2.2; have hcut43 := cut_to (P := Try.prog) 22 29 .i64 Try.underlying22 hi043 Ao6 y196.length co6 1 (by omega) q43 hroom43; have hr43 := Kd.C_take (m := 1) hC43 (by omega); have hy43 : y208.length = (1 : Int).toNat := (by rw [Ny208.out, List.length_take]; omega); rw [← Ny208.out] at hr43; rw [← hy43] at hcut43; have HR211 := Aside0.mk hr43; have HC211 := Aside0.mk (show y208.length ≤ co6 from by omega); clear hr43 hC43 hroom43 hi043 hsz43; have KY43 := Aside0.mk hy43; clear hy43; have KL43 := Aside0.mk (show 1 ≤ y196.length from by omega); replace q43 := eq_true q43) | (go_at_call 14; (with_reducible refine (o_Strict.calls _ _ y208 true _ ?side1 ?side2 A17.out).mono ?_); (case side1 => repeat (first | exact (by repeat (first | (with_reducible exact HR211.out) | (with_reducible refine Kd.C_alloc ?_ _) | (with_reducible refine Kd.C_drewN ?_ _) | (with_reducible refine Kd.C_drew ?_) | exact HR211.out)) | (with_reducible refine Kd.C_alloc ?_ _) | (with_reducible refine Kd.C_drewN ?_ _) | (with_reducible refine Kd.C_drew ?_))); (case side2 => exact HC211.out); rintro e w44 ⟨rfl, hb⟩; have n0_ := Aside0.mk (Kd.R_below (by (with_reducible repeat (first | apply Kd.R_alloc | apply Kd.R_drewN | apply Kd.R_drew)); exact HO198.out) hb); have n1_ := Aside0.mk (Kd.R_below (by (with_reducible repeat (first | apply Kd.R_alloc | apply Kd.R_drewN | apply Kd.R_drew)); exact HO201.out) hb); have n2_ := Aside0.mk (Kd.R_below (by (with_reducible repeat (first | apply Kd.R_alloc | apply Kd.R_drewN | apply Kd.R_drew)); exact HO205.out) hb); have n3_ := Aside0.mk (Kd.C_below (by repeat (first | (with_reducible exact HR211.out) | (with_reducible refine Kd.C_alloc ?_ _) | (with_reducible refine Kd.C_drewN ?_ _) | (with_reducible refine Kd.C_drew ?_) | exact HR211.out)) hb); have n4_ := Aside0.mk (below_step (by repeat (first | (with_reducible first | exact HB.out | apply below_alloc | apply pw_below_drewN | apply below_drew1) | exact HB.out)) hb); clear HO198; clear HO201; clear HO205; clear HR211; clear HB; have HO198 := n0_; have HO201 := n1_; have HO205 := n2_; have HR211 := n3_; have HB := n4_; clear n0_ n1_ n2_ n3_ n4_; (try clear hb); (try clear hb2); (try clear hk); (try clear hi)) | (go_at_call 12; (with_reducible refine (history_Before.calls k _ _ y196 1 2 true _ ?side1 ?side2 A19.out).mono ?_); (case side1 => repeat (first | exact (Kd.R_reads' HO198.out).2.2 | (with_reducible refine Kd.C_alloc ?_ _) | (with_reducible refine Kd.C_drewN ?_ _) | (with_reducible refine Kd.C_drew ?_))); (case side2 => exact (Kd.R_reads' HO198.out).2.1); rintro e w45 ⟨rfl, hb⟩; have n0_ := Aside0.mk (Kd.R_below (by (with_reducible repeat (first | apply Kd.R_alloc | apply Kd.R_drewN | apply Kd.R_drew)); exact HO198.out) hb); have n1_ := Aside0.mk (Kd.R_below (by (with_reducible repeat (first | apply Kd.R_alloc | apply Kd.R_drewN | apply Kd.R_drew)); exact HO201.out) hb); have n2_ := Aside0.mk (Kd.R_below (by (with_reducible repeat (first | apply Kd.R_alloc | apply Kd.R_drewN | apply Kd.R_drew)); exact HO205.out) hb); have n3_ := Aside0.mk (Kd.C_below (by repeat (first | (with_reducible exact HR211.out) | (with_reducible refine Kd.C_alloc ?_ _) | (with_reducible refine Kd.C_drewN ?_ _) | (with_reducible refine Kd.C_drew ?_) | exact HR211.out)) hb); have n4_ := Aside0.mk (below_step (by repeat (first | (with_reducible first | exact HB.out | apply below_alloc | apply pw_below_drewN | apply below_drew1) | exact HB.out)) hb); clear HO198; clear HO201; clear HO205; clear HR211; clear HB; have HO198 := n0_; have HO201 := n1_; have HO205 := n2_; have HR211 := n3_; have HB := n4_; clear n0_ n1_ n2_ n3_ n4_; (try clear hb); (try clear hb2); (try clear hk); (try clear hi)) | (go_at_call 12; (with_reducible refine (history_Before.calls k _ _ y196 2 1 false _ ?side1 ?side2 A21.out).mono ?_); (case side1 => repeat (first | exact (Kd.R_reads' HO198.out).2.2 | (with_reducible refine Kd.C_alloc ?_ _) | (with_reducible refine Kd.C_drewN ?_ _) | (with_reducible refine Kd.C_drew ?_))); (case side2 => exact (Kd.R_reads' HO198.out).2.1); rintro e w46 ⟨rfl, hb⟩; have n0_ := Aside0.mk (Kd.R_below (by (with_reducible repeat (first | apply Kd.R_alloc | apply Kd.R_drewN | apply Kd.R_drew)); exact HO198.out) hb); have n1_ := Aside0.mk (Kd.R_below (by (with_reducible repeat (first | apply Kd.R_alloc | apply Kd.R_drewN | apply Kd.R_drew)); exact HO201.out) hb); have n2_ := Aside0.mk (Kd.R_below (by (with_reducible repeat (first | apply Kd.R_alloc | apply Kd.R_drewN | apply Kd.R_drew)); exact HO205.out) hb); have n3_ := Aside0.mk (Kd.C_below (by repeat (first | (with_reducible exact HR211.out) | (with_reducible refine Kd.C_alloc ?_ _) | (with_reducible refine Kd.C_drewN ?_ _) | (with_reducible refine Kd.C_drew ?_) | exact HR211.out)) hb); have n4_ := Aside0.mk (below_step (by repeat (first | (with_reducible first | exact HB.out | apply below_alloc | apply pw_below_drewN | apply below_drew1) | exact HB.out)) hb); clear HO198; clear HO201; clear HO205; clear HR211; clear HB; have HO198 := n0_; have HO201 := n1_; have HO205 := n2_; have HR211 := n3_; have HB := n4_; clear n0_ n1_ n2_ n3_ n4_; (try clear hb); (try clear hb2); (try clear hk); (try clear hi)))
           go_meet
           case rel => exact ⟨_, (false), (by first | rfl | (simp; done) | (simp only [emptyNe_, emptyEq_]; done) | (simp [*]; done)), H', ⟨by first | omega | exact Nat.le_refl _⟩, ⟨by repeat (first | (with_reducible first | exact HB.out | apply below_alloc | apply pw_below_drewN | apply below_drew1) | exact HB.out)⟩⟩
        ·replace c20 := Bool.eq_false_iff.mpr c20
         subst c20
         have H1 : (logjamlaw38_lives.j0 k false) = some r := by rw [if_neg (show ¬ (false = true) by decide)] at H; exact H
         clear H
         have H := H1
         clear H1
         have H' := Aside0.mk H
         clear H
         obtain ⟨Ao47, co47, eo47⟩ := Kd.R_slice HO201.out
         subst eo47
         have p206 : 0 ≤ (1 : Int) := (by omega)
         have q206 : 1 < (t199.length : Int) := of_decide_eq_true (by first | (with_reducible assumption) | assumption)
         obtain ⟨ad206, e206, hx206_0, hx206_1, hx206_2, hx206_3⟩ := at_T31 (Kd.R_reads' HO201.out).2.2 1 p206 q206
         cases e206
         (try simp only [show (1 : Int).toNat = 1 from rfl, Nat.reduceMul, Nat.reduceEqDiff, Go.Addr.add, ↓reduceIte] at hx206_0)
         (try simp only [show (1 : Int).toNat = 1 from rfl, Nat.reduceMul, Nat.reduceEqDiff, Go.Addr.add, ↓reduceIte] at hx206_1)
         (try simp only [show (1 : Int).toNat = 1 from rfl, Nat.reduceMul, Nat.reduceEqDiff, Go.Addr.add, ↓reduceIte] at hx206_2)
         (try simp only [show (1 : Int).toNat = 1 from rfl, Nat.reduceMul, Nat.reduceEqDiff, Go.Addr.add, ↓reduceIte] at hx206_3)
         have qi206 : (1 < t199.length) = True := eq_true (by omega)
         (try rw [show ((1 : Int)).toNat = 1 from rfl] at hx206_0)
         (try rw [show 1 * 4 = 4 from rfl] at hx206_0)
         (try rw [show ((1 : Int)).toNat = 1 from rfl] at hx206_1)
         (try rw [show 1 * 4 = 4 from rfl] at hx206_1)
         (try rw [show ((1 : Int)).toNat = 1 from rfl] at hx206_2)
         (try rw [show 1 * 4 = 4 from rfl] at hx206_2)
         (try rw [show ((1 : Int)).toNat = 1 from rfl] at hx206_3)
         (try rw [show 1 * 4 = 4 from rfl] at hx206_3)
         replace p206 := eq_true p206
         replace q206 := eq_true q206
         go_wp2_with (first | (go_at_call 14; (with_reducible refine (o_Strict.calls _ _ y196 false _ ?side1 ?side2 A12.out).mono ?_); (case side1 => repeat (first | exact (Kd.R_reads' HO198.out).2.2 | (with_reducible refine Kd.C_alloc ?_ _) | (with_reducible refine Kd.C_drewN ?_ _) | (with_reducible refine Kd.C_drew ?_))); (case side2 => exact (Kd.R_reads' HO198.out).2.1); rintro e w48 ⟨rfl, hb⟩; have n0_ := Aside0.mk (Kd.R_below (by (with_reducible repeat (first | apply Kd.R_alloc | apply Kd.R_drewN | apply Kd.R_drew)); exact HO198.out) hb); have n1_ := Aside0.mk (Kd.R_below (by (with_reducible repeat (first | apply Kd.R_alloc | apply Kd.R_drewN | apply Kd.R_drew)); exact HO201.out) hb); have n2_ := Aside0.mk (Kd.R_below (by (with_reducible repeat (first | apply Kd.R_alloc | apply Kd.R_drewN | apply Kd.R_drew)); exact HO205.out) hb); have n3_ := Aside0.mk (below_step (by repeat (first | (with_reducible first | exact HB.out | apply below_alloc | apply pw_below_drewN | apply below_drew1) | exact HB.out)) hb); clear HO198; clear HO201; clear HO205; clear HB; have HO198 := n0_; have HO201 := n1_; have HO205 := n2_; have HB := n3_; clear n0_ n1_ n2_ n3_; (try clear hb); (try clear hb2); (try clear hk); (try clear hi); have q49 : (1 : Int) ≤ ((y196.length : Int) : Int) := of_decide_eq_true (by first | (with_reducible assumption) | assumption); obtain ⟨i049, hi049, _, hsz49, _⟩ := info_parts info29; have hroom49 : y196.length ≤ co6 := (Kd.R_reads' HO198.out).2.1; have hC49 : Kd.C k29 _ Ao6 y196.length y196 := (Kd.R_reads' HO198.out).2.2; have hcut49 := cut_to (P := Try.prog) 22 29 .i64 Try.underlying22 hi049 Ao6 y196.length co6 1 (by omega) q49 hroom49; have hr49 := Kd.C_take (m := 1) hC49 (by omega); have hy49 : y208.length = (1 : Int).toNat := (by rw [Ny208.out, List.length_take]; omega); rw [← Ny208.out] at hr49; rw [← hy49] at hcut49; have HR211 := Aside0.mk hr49; have HC211 := Aside0.mk (show y208.length ≤ co6 from by omega); clear hr49 hC49 hroom49 hi049 hsz49; have KY49 := Aside0.mk hy49; clear hy49; have KL49 := Aside0.mk (show 1 ≤ y196.length from by omega); replace q49 := eq_true q49) | (go_at_call 14; (with_reducible refine (o_Strict.calls _ _ y208 true _ ?side1 ?side2 A17.out).mono ?_); (case side1 => repeat (first | exact (by repeat (first | (with_reducible exact HR211.out) | (with_reducible refine Kd.C_alloc ?_ _) | (with_reducible refine Kd.C_drewN ?_ _) | (with_reducible refine Kd.C_drew ?_) | exact HR211.out)) | (with_reducible refine Kd.C_alloc ?_ _) | (with_reducible refine Kd.C_drewN ?_ _) | (with_reducible refine Kd.C_drew ?_))); (case side2 => exact HC211.out); rintro e w50 ⟨rfl, hb⟩; have n0_ := Aside0.mk (Kd.R_below (by (with_reducible repeat (first | apply Kd.R_alloc | apply Kd.R_drewN | apply Kd.R_drew)); exact HO198.out) hb); have n1_ := Aside0.mk (Kd.R_below (by (with_reducible repeat (first | apply Kd.R_alloc | apply Kd.R_drewN | apply Kd.R_drew)); exact HO201.out) hb); have n2_ := Aside0.mk (Kd.R_below (by (with_reducible repeat (first | apply Kd.R_alloc | apply Kd.R_drewN | apply Kd.R_drew)); exact HO205.out) hb); have n3_ := Aside0.mk (Kd.C_below (by repeat (first | (with_reducible exact HR211.out) | (with_reducible refine Kd.C_alloc ?_ _) | (with_reducible refine Kd.C_drewN ?_ _) | (with_reducible refine Kd.C_drew ?_) | exact HR211.out)) hb); have n4_ := Aside0.mk (below_step (by repeat (first | (with_reducible first | exact HB.out | apply below_alloc | apply pw_below_drewN | apply below_drew1) | exact HB.out)) hb); clear HO198; clear HO201; clear HO205; clear HR211; clear HB; have HO198 := n0_; have HO201 := n1_; have HO205 := n2_; have HR211 := n3_; have HB := n4_; clear n0_ n1_ n2_ n3_ n4_; (try clear hb); (try clear hb2); (try clear hk); (try clear hi)) | (go_at_call 12; (with_reducible refine (history_Before.calls k _ _ y196 1 2 false _ ?side1 ?side2 A19.out).mono ?_); (case side1 => repeat (first | exact (Kd.R_reads' HO198.out).2.2 | (with_reducible refine Kd.C_alloc ?_ _) | (with_reducible refine Kd.C_drewN ?_ _) | (with_reducible refine Kd.C_drew ?_))); (case side2 => exact (Kd.R_reads' HO198.out).2.1); rintro e w51 ⟨rfl, hb⟩; have n0_ := Aside0.mk (Kd.R_below (by (with_reducible repeat (first | apply Kd.R_alloc | apply Kd.R_drewN | apply Kd.R_drew)); exact HO198.out) hb); have n1_ := Aside0.mk (Kd.R_below (by (with_reducible repeat (first | apply Kd.R_alloc | apply Kd.R_drewN | apply Kd.R_drew)); exact HO201.out) hb); have n2_ := Aside0.mk (Kd.R_below (by (with_reducible repeat (first | apply Kd.R_alloc | apply Kd.R_drewN | apply Kd.R_drew)); exact HO205.out) hb); have n3_ := Aside0.mk (Kd.C_below (by repeat (first | (with_reducible exact HR211.out) | (with_reducible refine Kd.C_alloc ?_ _) | (with_reducible refine Kd.C_drewN ?_ _) | (with_reducible refine Kd.C_drew ?_) | exact HR211.out)) hb); have n4_ := Aside0.mk (below_step (by repeat (first | (with_reducible first | exact HB.out | apply below_alloc | apply pw_below_drewN | apply below_drew1) | exact HB.out)) hb); clear HO198; clear HO201; clear HO205; clear HR211; clear HB; have HO198 := n0_; have HO201 := n1_; have HO205 := n2_; have HR211 := n3_; have HB := n4_; clear n0_ n1_ n2_ n3_ n4_; (try clear hb); (try clear hb2); (try clear hk); (try clear hi)))
         go_meet
         case rel => exact ⟨_, (false), (by first | rfl | (simp; done) | (simp only [emptyNe_, emptyEq_]; done) | (simp [*]; done)), H', ⟨by first | omega | exact Nat.le_refl _⟩, ⟨by repeat (first | (with_reducible first | exact HB.out | apply below_alloc | apply pw_below_drewN | apply below_drew1) | exact HB.out)⟩⟩
       ·replace c18 := Bool.eq_false_iff.mpr c18
        subst c18
        have H1 : (logjamlaw38_lives.j0 k false) = some r := by rw [if_neg (show ¬ (false = true) by decide)] at H; exact H
        clear H
        have H := H1
        clear H1
        have H' := Aside0.mk H
        clear H
        obtain ⟨Ao52, co52, eo52⟩ := Kd.R_slice HO201.out
        subst eo52
        have p206 : 0 ≤ (1 : Int) := (by omega)
        have q206 : 1 < (t199.length : Int) := of_decide_eq_true (by first | (with_reducible assumption) | assumption)
        obtain ⟨ad206, e206, hx206_0, hx206_1, hx206_2, hx206_3⟩ := at_T31 (Kd.R_reads' HO201.out).2.2 1 p206 q206
        cases e206
        (try simp only [show (1 : Int).toNat = 1 from rfl, Nat.reduceMul, Nat.reduceEqDiff, Go.Addr.add, ↓reduceIte] at hx206_0)
        (try simp only [show (1 : Int).toNat = 1 from rfl, Nat.reduceMul, Nat.reduceEqDiff, Go.Addr.add, ↓reduceIte] at hx206_1)
        (try simp only [show (1 : Int).toNat = 1 from rfl, Nat.reduceMul, Nat.reduceEqDiff, Go.Addr.add, ↓reduceIte] at hx206_2)
        (try simp only [show (1 : Int).toNat = 1 from rfl, Nat.reduceMul, Nat.reduceEqDiff, Go.Addr.add, ↓reduceIte] at hx206_3)
        have qi206 : (1 < t199.length) = True := eq_true (by omega)
        (try rw [show ((1 : Int)).toNat = 1 from rfl] at hx206_0)
        (try rw [show 1 * 4 = 4 from rfl] at hx206_0)
        (try rw [show ((1 : Int)).toNat = 1 from rfl] at hx206_1)
        (try rw [show 1 * 4 = 4 from rfl] at hx206_1)
        (try rw [show ((1 : Int)).toNat = 1 from rfl] at hx206_2)
        (try rw [show 1 * 4 = 4 from rfl] at hx206_2)
        (try rw [show ((1 : Int)).toNat = 1 from rfl] at hx206_3)
        (try rw [show 1 * 4 = 4 from rfl] at hx206_3)
        replace p206 := eq_true p206
        replace q206 := eq_true q206
        go_wp2_with (first | (go_at_call 14; (with_reducible refine (o_Strict.calls _ _ y196 false _ ?side1 ?side2 A12.out).mono ?_); (case side1 => repeat (first | exact (Kd.R_reads' HO198.out).2.2 | (with_reducible refine Kd.C_alloc ?_ _) | (with_reducible refine Kd.C_drewN ?_ _) | (with_reducible refine Kd.C_drew ?_))); (case side2 => exact (Kd.R_reads' HO198.out).2.1); rintro e w53 ⟨rfl, hb⟩; have n0_ := Aside0.mk (Kd.R_below (by (with_reducible repeat (first | apply Kd.R_alloc | apply Kd.R_drewN | apply Kd.R_drew)); exact HO198.out) hb); have n1_ := Aside0.mk (Kd.R_below (by (with_reducible repeat (first | apply Kd.R_alloc | apply Kd.R_drewN | apply Kd.R_drew)); exact HO201.out) hb); have n2_ := Aside0.mk (Kd.R_below (by (with_reducible repeat (first | apply Kd.R_alloc | apply Kd.R_drewN | apply Kd.R_drew)); exact HO205.out) hb); have n3_ := Aside0.mk (below_step (by repeat (first | (with_reducible first | exact HB.out | apply below_alloc | apply pw_below_drewN | apply below_drew1) | exact HB.out)) hb); clear HO198; clear HO201; clear HO205; clear HB; have HO198 := n0_; have HO201 := n1_; have HO205 := n2_; have HB := n3_; clear n0_ n1_ n2_ n3_; (try clear hb); (try clear hb2); (try clear hk); (try clear hi); have q54 : (1 : Int) ≤ ((y196.length : Int) : Int) := of_decide_eq_true (by first | (with_reducible assumption) | assumption); obtain ⟨i054, hi054, _, hsz54, _⟩ := info_parts info29; have hroom54 : y196.length ≤ co6 := (Kd.R_reads' HO198.out).2.1; have hC54 : Kd.C k29 _ Ao6 y196.length y196 := (Kd.R_reads' HO198.out).2.2; have hcut54 := cut_to (P := Try.prog) 22 29 .i64 Try.underlying22 hi054 Ao6 y196.length co6 1 (by omega) q54 hroom54; have hr54 := Kd.C_take (m := 1) hC54 (by omega); have hy54 : y208.length = (1 : Int).toNat := (by rw [Ny208.out, List.length_take]; omega); rw [← Ny208.out] at hr54; rw [← hy54] at hcut54; have HR211 := Aside0.mk hr54; have HC211 := Aside0.mk (show y208.length ≤ co6 from by omega); clear hr54 hC54 hroom54 hi054 hsz54; have KY54 := Aside0.mk hy54; clear hy54; have KL54 := Aside0.mk (show 1 ≤ y196.length from by omega); replace q54 := eq_true q54) | (go_at_call 14; (with_reducible refine (o_Strict.calls _ _ y208 false _ ?side1 ?side2 A17.out).mono ?_); (case side1 => repeat (first | exact (by repeat (first | (with_reducible exact HR211.out) | (with_reducible refine Kd.C_alloc ?_ _) | (with_reducible refine Kd.C_drewN ?_ _) | (with_reducible refine Kd.C_drew ?_) | exact HR211.out)) | (with_reducible refine Kd.C_alloc ?_ _) | (with_reducible refine Kd.C_drewN ?_ _) | (with_reducible refine Kd.C_drew ?_))); (case side2 => exact HC211.out); rintro e w55 ⟨rfl, hb⟩; have n0_ := Aside0.mk (Kd.R_below (by (with_reducible repeat (first | apply Kd.R_alloc | apply Kd.R_drewN | apply Kd.R_drew)); exact HO198.out) hb); have n1_ := Aside0.mk (Kd.R_below (by (with_reducible repeat (first | apply Kd.R_alloc | apply Kd.R_drewN | apply Kd.R_drew)); exact HO201.out) hb); have n2_ := Aside0.mk (Kd.R_below (by (with_reducible repeat (first | apply Kd.R_alloc | apply Kd.R_drewN | apply Kd.R_drew)); exact HO205.out) hb); have n3_ := Aside0.mk (Kd.C_below (by repeat (first | (with_reducible exact HR211.out) | (with_reducible refine Kd.C_alloc ?_ _) | (with_reducible refine Kd.C_drewN ?_ _) | (with_reducible refine Kd.C_drew ?_) | exact HR211.out)) hb); have n4_ := Aside0.mk (below_step (by repeat (first | (with_reducible first | exact HB.out | apply below_alloc | apply pw_below_drewN | apply below_drew1) | exact HB.out)) hb); clear HO198; clear HO201; clear HO205; clear HR211; clear HB; have HO198 := n0_; have HO201 := n1_; have HO205 := n2_; have HR211 := n3_; have HB := n4_; clear n0_ n1_ n2_ n3_ n4_; (try clear hb); (try clear hb2); (try clear hk); (try clear hi)))
        go_meet
        case rel => exact ⟨_, (false), (by first | rfl | (simp; done) | (simp only [emptyNe_, emptyEq_]; done) | (simp [*]; done)), H', ⟨by first | omega | exact Nat.le_refl _⟩, ⟨by repeat (first | (with_reducible first | exact HB.out | apply below_alloc | apply pw_below_drewN | apply below_drew1) | exact HB.out)⟩⟩
      ·rw [if_neg c16] at H
       exact absurd H (by simp)
    ·rw [if_neg c11] at H
     have c11b0 : (((rd_T31 t199 1).f0) == 2 && (((rd_T31 t199 1).f1) == 1 && (((rd_T31 t199 1).f2) == 3 && (((rd_T31 t199 1).f3) == 3)))) = false := by simpa using c11
     (try (have c11b1 : decide (((rd_T31 t199 1).f0) = 2 && (((rd_T31 t199 1).f1) == 1 && (((rd_T31 t199 1).f2) == 3 && (((rd_T31 t199 1).f3) == 3)))) = false := by simpa using c11))
     (try (have c11b2 : (((rd_T31 t199 1).f0) == 2 && (((rd_T31 t199 1).f1) == 1 && (((rd_T31 t199 1).f2) == 3 && (((rd_T31 t199 1).f3) == 3)))) = false := by simpa using c11))
     (try (have c11b3 : ¬ (((rd_T31 t199 1).f0) = 2 && (((rd_T31 t199 1).f1) == 1 && (((rd_T31 t199 1).f2) == 3 && (((rd_T31 t199 1).f3) == 3)))) := by simpa using c11))
     clear c11
     have H' := Aside0.mk H
     clear H
     obtain ⟨Ao56, co56, eo56⟩ := Kd.R_slice HO201.out
     subst eo56
     have p206 : 0 ≤ (1 : Int) := (by omega)
     have q206 : 1 < (t199.length : Int) := of_decide_eq_true (by first | (with_reducible assumption) | assumption)
     obtain ⟨ad206, e206, hx206_0, hx206_1, hx206_2, hx206_3⟩ := at_T31 (Kd.R_reads' HO201.out).2.2 1 p206 q206
     cases e206
     (try simp only [show (1 : Int).toNat = 1 from rfl, Nat.reduceMul, Nat.reduceEqDiff, Go.Addr.add, ↓reduceIte] at hx206_0)
     (try simp only [show (1 : Int).toNat = 1 from rfl, Nat.reduceMul, Nat.reduceEqDiff, Go.Addr.add, ↓reduceIte] at hx206_1)
     (try simp only [show (1 : Int).toNat = 1 from rfl, Nat.reduceMul, Nat.reduceEqDiff, Go.Addr.add, ↓reduceIte] at hx206_2)
     (try simp only [show (1 : Int).toNat = 1 from rfl, Nat.reduceMul, Nat.reduceEqDiff, Go.Addr.add, ↓reduceIte] at hx206_3)
     have qi206 : (1 < t199.length) = True := eq_true (by omega)
     (try rw [show ((1 : Int)).toNat = 1 from rfl] at hx206_0)
     (try rw [show 1 * 4 = 4 from rfl] at hx206_0)
     (try rw [show ((1 : Int)).toNat = 1 from rfl] at hx206_1)
     (try rw [show 1 * 4 = 4 from rfl] at hx206_1)
     (try rw [show ((1 : Int)).toNat = 1 from rfl] at hx206_2)
     (try rw [show 1 * 4 = 4 from rfl] at hx206_2)
     (try rw [show ((1 : Int)).toNat = 1 from rfl] at hx206_3)
     (try rw [show 1 * 4 = 4 from rfl] at hx206_3)
     replace p206 := eq_true p206
     replace q206 := eq_true q206
     go_wp2
     go_meet
     case rel => exact ⟨_, (false), (by first | rfl | (simp; done) | (simp only [emptyNe_, emptyEq_]; done) | (simp [*]; done)), H', ⟨by first | omega | exact Nat.le_refl _⟩, ⟨by repeat (first | (with_reducible first | exact HB.out | apply below_alloc | apply pw_below_drewN | apply below_drew1) | exact HB.out)⟩⟩
   ·rw [if_neg c10] at H
    exact absurd H (by simp)
  ·rw [if_neg c9] at H
   have c9b0 : ((t199.length : Int) == 2) = false := beq_eq_false_iff_ne.mpr c9
   have c9b1 : ((t199.length : Int) != 2) = true := bne_iff_ne.mpr c9
   (first | rw [c9b0] | (simp only [i64_w, i32_w]; rw [c9b0]) | skip)
   have H' := Aside0.mk H
   clear H
   obtain ⟨Ao57, co57, eo57⟩ := Kd.R_slice HO201.out
   subst eo57
   go_wp2
   go_meet
   case rel => exact ⟨_, (false), (by first | rfl | (simp; done) | (simp only [emptyNe_, emptyEq_]; done) | (simp [*]; done)), H', ⟨by first | omega | exact Nat.le_refl _⟩, ⟨by repeat (first | (with_reducible first | exact HB.out | apply below_alloc | apply pw_below_drewN | apply below_drew1) | exact HB.out)⟩⟩
 case rest =>
  clear HC3; try clear c1; try clear c2; try clear p2; try clear q2; try clear hx2; try clear qi2; try clear q3; try clear q4; try clear c5; try clear q5; try clear c7; try clear c9; try clear c9b0; try clear c9b1; try clear c10; try clear c10b0; try clear c10b1; try clear c11; try clear c11b0; try clear c11b1; try clear c11b2; try clear c13; try clear c16; try clear c16b0; try clear c16b1; try clear c18; try clear c20; try clear p20; try clear q20; try clear hx20; try clear qi20; try clear c22; try clear q25; try clear c29; try clear q33; try clear q43; try clear q49; try clear q54; try clear hx206_0; try clear hx206_1; try clear hx206_2; try clear hx206_3; try clear p206; try clear q206; try clear q25; try clear q33; try clear q43; try clear q49; try clear q54
  obtain ⟨kq, x0_2, rfl, HA, HJ2, HB⟩ := hcut
  cases kq with
  | zero => exact absurd HA.out (by simp [logjamlaw38_lives.j0])
  | succ kj2 =>
   have H := HA.out
   clear HA
   simp only [logjamlaw38_lives.j0] at H
   obtain rfl := Option.some.inj H
   go_wp2
   go_ret
   exact ⟨by first | rfl | (simp [errW_none, errW_some] <;> rfl) | (simp [*, errW_none, errW_some] <;> rfl), by repeat (first | (with_reducible first | exact HB.out | apply below_alloc | apply pw_below_drewN | apply below_drew1) | exact HB.out)⟩
end Go.Proofs.Ytadepdeckapgcaa.PHi
end
