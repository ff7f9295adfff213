/- LawReportBack, part 6: what the proof stands on (merged by wip/shake.py out of the session's texts and of what the print wrote for this claim). -/
import Derived.Deep.RegionHeld3
import Derived.Deep.RegionHeldLaw
import Derived.Lib.Hide
import Derived.Test.YtadepdeckapgcaaDoorZhE

section
namespace Go.Proofs.YtadepdeckapgcaaDoor.PRp
open Go.RowKit Go.Proofs.YtadepdeckapgcaaDoor.Orc Go.Proofs.YtadepdeckapgcaaDoorW.PrintWords Go.Proofs.YtadepdeckapgcaaDoorW.PrintLast Go.Proofs.YtadepdeckapgcaaDoorW.PrintMore
attribute [local go_sem] max2_int min2_int max_two min_two max_three min_three max_four min_four
set_option linter.unusedVariables false
set_option linter.unusedSimpArgs false
mutual
def logjamlaw36_Own.j1 : Nat → Int → List Int → List (S92) → Int → List Int → Option (Int × List Int × (List (S92)))
 | 0, _, _, _, _, _ => none
 | k + 1, x208000, x208001, x208002, x210000, x210001 => logjamlaw36_Own.l1 k x208002 0 x210000 x210001 ([] : List (S92))
def logjamlaw36_Own.l1 : Nat → List (S92) → Int → Int → List Int → List (S92) → Option (Int × List Int × (List (S92)))
 | 0, _, _, _, _, _ => none
 | k + 1, x5, x6, x210000, x210001, x210002 => if x6 < (x5.length : Int) then (if x6 < 70 then (if 0 ≤ x6 then (if x6 ≤ (wrap64 (x6 + 1)) then (if (wrap64 (x6 + 1)) ≤ (x5.length : Int) then ((logjamlaw26_Own.f k ((x5.take ((wrap64 (x6 + 1)) : Int).toNat).drop (x6 : Int).toNat)).bind fun t218 => (if 0 < (t218.length : Int) then (if x210002.length < 4398046511104 then (logjamlaw36_Own.l1 k x5 (wrap64 (x6 + 1)) x210000 x210001 (x210002 ++ [(⟨(rd_T92 t218 0).f0, (rd_T92 t218 0).f1⟩ : S92)])) else (none)) else (none))) else (none)) else (none)) else (none)) else (some (x210000, x210001, x210002))) else (some (x210000, x210001, x210002))
def logjamlaw36_Own.l0 : Nat → Int → Int → List Int → List (S92) → Int → List Int → Option (Int × List Int × (List (S92)))
 | 0, _, _, _, _, _, _ => none
 | k + 1, x4, x208000, x208001, x208002, x210000, x210001 => if x4 < (x208001.length : Int) then (if x4 < 70 then (if 0 ≤ x4 then (if x210001.length < 17592186044416 then (logjamlaw36_Own.l0 k (wrap64 (x4 + 1)) x208000 x208001 x208002 x210000 (x210001 ++ [rd x208001 x4])) else (none)) else (none)) else (logjamlaw36_Own.j1 k x208000 x208001 x208002 x210000 x210001)) else (logjamlaw36_Own.j1 k x208000 x208001 x208002 x210000 x210001)
end
def logjamlaw36_Own.f (k : Nat) (a0_0 : Int) (l0_1 : List Int) (l0_2 : List (S92)) : Option (Int × List Int × (List (S92))) := logjamlaw36_Own.l0 k 0 a0_0 l0_1 l0_2 a0_0 ([] : List Int)
def logjamlaw36_Own.T5 : Bool × List (List Nat × List Nat) := (true, [([], []), ([0], [0]), ([], []), ([2], [2]), ([], []), ([3, 4], [3, 4]), ([5], [5]), ([6], [6]), ([1, 7], [1, 7]), ([0, 1, 2, 3, 4, 5, 6, 7, 8], []), ([9, 8, 8, 0, 1, 2, 3, 4, 5, 6, 7, 8], [8, 9])])
def logjamlaw36_Own.B5 : List Nat := [0, 1, 0, 4, 0, 28, 60, 124, 255, 511, 1023]
theorem logjamlaw36_Own.tab5 : rtab .any (opsOf Tryd.f13 5) = logjamlaw36_Own.T5 := by kernel_rfl
theorem logjamlaw36_Own.bits5 : waitsOk logjamlaw36_Own.T5.2 logjamlaw36_Own.B5 = true := by kernel_rfl
def logjamlaw36_Own.T10 : Bool × List (List Nat × List Nat) := (true, [([], []), ([0], [0]), ([], []), ([], []), ([], []), ([4], [4]), ([2, 3, 5], [2, 3, 5]), ([6], [6]), ([7], [7]), ([8], [8]), ([9], [9]), ([1, 10, 7], [1, 10]), ([0, 1, 2, 3, 4, 5, 6, 7, 8, 9, 10, 11], []), ([12, 11, 11, 0, 1, 2, 3, 4, 5, 6, 7, 8, 9, 10, 11], [11, 12])])
def logjamlaw36_Own.B10 : List Nat := [0, 1, 0, 0, 0, 16, 60, 124, 252, 508, 1020, 2047, 4095, 8191]
theorem logjamlaw36_Own.tab10 : rtab .any (opsOf Tryd.f13 10) = logjamlaw36_Own.T10 := by kernel_rfl
theorem logjamlaw36_Own.bits10 : waitsOk logjamlaw36_Own.T10.2 logjamlaw36_Own.B10 = true := by kernel_rfl
set_option maxHeartbeats 8000000 in
set_option maxRecDepth 100000 in
theorem logjamlaw36_Own.calls (k : Nat) (a0_0 : Int) (A0_1 : Option Addr) (c0_1 : Nat) (l0_1 : List Int) (A0_2 : Option Addr) (c0_2 : Nat) (l0_2 : List (S92)) (r1 : Int) (r2 : List Int) (r3 : List (S92)) (w : World) (hr0_1 : Kd.C (Kd.int .i64) w A0_1 l0_1.length l0_1) (hc0_1 : l0_1.length ≤ c0_1) (hr0_2 : Kd.C k92 w A0_2 l0_2.length l0_2) (hc0_2 : l0_2.length ≤ c0_2) (h : logjamlaw36_Own.f k a0_0 l0_1 l0_2 = some (r1, r2, r3)) :
  Calls Tryd.prog 13 #[.agg #[.int .i64 a0_0, .slice A0_1 l0_1.length c0_1, .slice A0_2 l0_2.length c0_2]] w fun e w' => ∃ v1_ v2_ : Value, e = .returned (.agg #[.int .i64 r1, v1_, v2_]) ∧ Kd.R (Kd.int .i64) 3 w' w.heap.size (fun k_ => (w.heap.size ≤ k_)) v1_ r2 ∧ Kd.N k92 92 w' w.heap.size (fun k_ => (w.heap.size ≤ k_) ∧ some k_ ≠ (v1_ : Value).ownBlock) v2_ r3 ∧ Below w.heap.size w w' := by
 have hu25 := Tryd.underlying25
 have hu92 := Tryd.underlying92
 have HR0_1 := Aside0.mk hr0_1
 have HC0_1 := Aside0.mk hc0_1
 clear hr0_1 hc0_1
 have HR0_2 := Aside0.mk hr0_2
 have HC0_2 := Aside0.mk hc0_2
 clear hr0_2 hc0_2
 have HB := Aside0.mk (Below.refl w.heap.size w)
 have H : (logjamlaw36_Own.l0 k 0 a0_0 l0_1 l0_2 a0_0 ([] : List Int)) = some (r1, r2, r3) := h
 clear h
 have HC2 := Aside0.mk H
 clear H
 go_enter Tryd.func13, Tryd.ntmps13
 go_upto_block 0 with (first | ((with_reducible refine gate_dst (N := 1) rfl ?_); refine box_event ?hg (N := 1) ?hd (cs := #[.int .i64 a0_0, .slice A0_1 l0_1.length c0_1, .slice A0_2 l0_2.length c0_2]) (t := 25) ?hr ?_; (case hd => rfl); (case hg => rfl); (case hr => first | (go_simp; done) | (go_simp; rfl)); intro gb207 hg w3 hbox hb; have n0_ := Aside0.mk (below_step (by repeat (first | (with_reducible first | exact HB.out | apply below_alloc | apply pw_below_drewN | apply below_drew1) | exact HB.out)) hb); have n1_ := Aside0.mk (hbox); have n2_ := Aside0.mk ((by rw [hg]; exact (below_size (by repeat (first | (with_reducible first | exact HB.out | apply below_alloc | apply pw_below_drewN | apply below_drew1) | exact HB.out))) : w.heap.size ≤ gb207)); have n3_ := Aside0.mk ((by rw [hg]; exact (below_size (by repeat (first | (with_reducible first | exact HB.out | apply below_alloc | apply pw_below_drewN | apply below_drew1) | exact HB.out))) : w.heap.size ≤ gb207)); clear HB; have HB := n0_; have BK207 := n1_; have GW207 := n2_; have GE207 := n3_; clear n0_ n1_ n2_ n3_; clear hb hbox hg) | ((with_reducible refine gate_dst (N := 2) rfl ?_); refine box_event ?hg (N := 2) ?hd (cs := #[.int .i64 0, .slice none 0 0, .slice none 0 0]) (t := 25) ?hr ?_; (case hd => rfl); (case hg => rfl); (case hr => first | (go_simp; done) | (go_simp; rfl)); intro gb208 hg w4 hbox hb; have n0_ := Aside0.mk (blk_below (g := gb207) (o := .cells #[.int .i64 a0_0, .slice A0_1 l0_1.length c0_1, .slice A0_2 l0_2.length c0_2] 25 (0, 0)) (by (with_reducible repeat (first | refine blk_drewN ?_ _ | refine blk_drew ?_ | refine blk_alloc ?_ _)); exact BK207.out) hb); have n1_ := Aside0.mk (below_step (by repeat (first | (with_reducible first | exact HB.out | apply below_alloc | apply pw_below_drewN | apply below_drew1 | refine below_set ?_ GE207.out) | exact HB.out)) hb); have n2_ := Aside0.mk (hbox); have n3_ := Aside0.mk ((by rw [hg]; exact (below_size (by repeat (first | (with_reducible first | exact HB.out | apply below_alloc | apply pw_below_drewN | apply below_drew1 | refine below_set ?_ GE207.out) | exact HB.out))) : w.heap.size ≤ gb208)); have n4_ := Aside0.mk ((by rw [hg]; exact (below_size (by repeat (first | (with_reducible first | exact HB.out | apply below_alloc | apply pw_below_drewN | apply below_drew1 | refine below_set ?_ GE207.out) | exact HB.out))) : w.heap.size ≤ gb208)); have n5_ := Aside0.mk ((by rw [hg]; exact Nat.ne_of_lt (blk_lt (g := gb207) (o := .cells #[.int .i64 a0_0, .slice A0_1 l0_1.length c0_1, .slice A0_2 l0_2.length c0_2] 25 (0, 0)) (by (with_reducible repeat (first | refine blk_drewN ?_ _ | refine blk_drew ?_ | refine blk_alloc ?_ _)); exact BK207.out)) : gb207 ≠ gb208)); have n6_ := Aside0.mk ((by rw [hg]; exact Nat.ne_of_gt (blk_lt (g := gb207) (o := .cells #[.int .i64 a0_0, .slice A0_1 l0_1.length c0_1, .slice A0_2 l0_2.length c0_2] 25 (0, 0)) (by (with_reducible repeat (first | refine blk_drewN ?_ _ | refine blk_drew ?_ | refine blk_alloc ?_ _)); exact BK207.out)) : gb208 ≠ gb207)); clear BK207; clear HB; have BK207 := n0_; have HB := n1_; have BK208 := n2_; have GW208 := n3_; have GE208 := n4_; have NB207_208 := n5_; have NB208_207 := n6_; clear n0_ n1_ n2_ n3_ n4_ n5_ n6_; clear hb hbox hg; have hnb5 := NB207_208.out; have hnc5 := NB208_207.out; have hcz6_0 : w4.cell? ⟨gb207, 0, none⟩ = some (.int .i64 a0_0) := (blk_cell BK207.out 0).trans rfl; have hcz6_1 : w4.cell? ⟨gb207, 1, none⟩ = some (.slice A0_1 l0_1.length c0_1) := (blk_cell BK207.out 1).trans rfl; have hcz6_2 : w4.cell? ⟨gb207, 2, none⟩ = some (.slice A0_2 l0_2.length c0_2) := (blk_cell BK207.out 2).trans rfl; have hfz6_0 := blk_frozen BK207.out 0; have hfz6_1 := blk_frozen BK207.out 1; have hfz6_2 := blk_frozen BK207.out 2) | ((with_reducible refine gate_dst (N := 3) rfl ?_); refine box_event ?hg (N := 3) ?hd (cs := #[.int .i64 0, .slice none 0 0, .slice none 0 0]) (t := 25) ?hr ?_; (case hd => rfl); (case hg => rfl); (case hr => first | (go_simp; done) | (go_simp; rfl)); intro gb209 hg w7 hbox hb; have n0_ := Aside0.mk (blk_below (g := gb207) (o := .cells #[.int .i64 a0_0, .slice A0_1 l0_1.length c0_1, .slice A0_2 l0_2.length c0_2] 25 (0, 0)) (by (with_reducible repeat (first | refine blk_drewN ?_ _ | refine blk_drew ?_ | refine blk_alloc ?_ _)); exact BK207.out) hb); have n1_ := Aside0.mk (blk_below (g := gb208) (o := .cells #[.int .i64 0, .slice none 0 0, .slice none 0 0] 25 (0, 0)) (by (with_reducible repeat (first | refine blk_drewN ?_ _ | refine blk_drew ?_ | refine blk_alloc ?_ _)); exact BK208.out) hb); have n2_ := Aside0.mk (below_step (by repeat (first | (with_reducible first | exact HB.out | apply below_alloc | apply pw_below_drewN | apply below_drew1 | refine below_set ?_ GE207.out | refine below_set ?_ GE208.out) | exact HB.out)) hb); have n3_ := Aside0.mk (hbox); have n4_ := Aside0.mk ((by rw [hg]; exact (below_size (by repeat (first | (with_reducible first | exact HB.out | apply below_alloc | apply pw_below_drewN | apply below_drew1 | refine below_set ?_ GE207.out | refine below_set ?_ GE208.out) | exact HB.out))) : w.heap.size ≤ gb209)); have n5_ := Aside0.mk ((by rw [hg]; exact (below_size (by repeat (first | (with_reducible first | exact HB.out | apply below_alloc | apply pw_below_drewN | apply below_drew1 | refine below_set ?_ GE207.out | refine below_set ?_ GE208.out) | exact HB.out))) : w.heap.size ≤ gb209)); have n6_ := Aside0.mk ((by rw [hg]; exact Nat.ne_of_lt (blk_lt (g := gb207) (o := .cells #[.int .i64 a0_0, .slice A0_1 l0_1.length c0_1, .slice A0_2 l0_2.length c0_2] 25 (0, 0)) (by (with_reducible repeat (first | refine blk_drewN ?_ _ | refine blk_drew ?_ | refine blk_alloc ?_ _)); exact BK207.out)) : gb207 ≠ gb209)); have n7_ := Aside0.mk ((by rw [hg]; exact Nat.ne_of_gt (blk_lt (g := gb207) (o := .cells #[.int .i64 a0_0, .slice A0_1 l0_1.length c0_1, .slice A0_2 l0_2.length c0_2] 25 (0, 0)) (by (with_reducible repeat (first | refine blk_drewN ?_ _ | refine blk_drew ?_ | refine blk_alloc ?_ _)); exact BK207.out)) : gb209 ≠ gb207)); have n8_ := Aside0.mk ((by rw [hg]; exact Nat.ne_of_lt (blk_lt (g := gb208) (o := .cells #[.int .i64 0, .slice none 0 0, .slice none 0 0] 25 (0, 0)) (by (with_reducible repeat (first | refine blk_drewN ?_ _ | refine blk_drew ?_ | refine blk_alloc ?_ _)); exact BK208.out)) : gb208 ≠ gb209)); have n9_ := Aside0.mk ((by rw [hg]; exact Nat.ne_of_gt (blk_lt (g := gb208) (o := .cells #[.int .i64 0, .slice none 0 0, .slice none 0 0] 25 (0, 0)) (by (with_reducible repeat (first | refine blk_drewN ?_ _ | refine blk_drew ?_ | refine blk_alloc ?_ _)); exact BK208.out)) : gb209 ≠ gb208)); clear BK207; clear BK208; clear HB; have BK207 := n0_; have BK208 := n1_; have HB := n2_; have BK209 := n3_; have GW209 := n4_; have GE209 := n5_; have NB207_209 := n6_; have NB209_207 := n7_; have NB208_209 := n8_; have NB209_208 := n9_; clear n0_ n1_ n2_ n3_ n4_ n5_ n6_ n7_ n8_ n9_; clear hb hbox hg; have hnb8 := NB209_207.out; have hnc8 := NB207_209.out; have hnb9 := NB209_208.out; have hnc9 := NB208_209.out; have hcz10_0 : w7.cell? ⟨gb209, 0, none⟩ = some (.int .i64 0) := (blk_cell BK209.out 0).trans rfl; have hcz10_1 : w7.cell? ⟨gb209, 1, none⟩ = some (.slice none 0 0) := (blk_cell BK209.out 1).trans rfl; have hcz10_2 : w7.cell? ⟨gb209, 2, none⟩ = some (.slice none 0 0) := (blk_cell BK209.out 2).trans rfl; have hfz10_0 := blk_frozen BK209.out 0; have hfz10_1 := blk_frozen BK209.out 1; have hfz10_2 := blk_frozen BK209.out 2))
 (try simp only [Act.put, List.setIfInBounds_toArray, List.set_cons_zero, List.set_cons_succ])
 go_cut [] (fun wc => ∃ (kq : Nat) (x210001_1 : List Int) (u210001 : Value), Aside0 (logjamlaw36_Own.j1 kq a0_0 l0_1 l0_2 a0_0 x210001_1 = some (r1, r2, r3)) ∧ Aside0 (kq ≤ k) ∧ Aside0 (Kd.R (Kd.int .i64) 3 wc w.heap.size (fun k_ => (w.heap.size ≤ k_)) u210001 x210001_1) ∧ Aside0 (wc.heap[gb207]? = some (.cells #[.int .i64 a0_0, (.slice A0_1 l0_1.length c0_1), (.slice A0_2 l0_2.length c0_2)] 25 (0, 0))) ∧ Aside0 (wc.heap[gb208]? = some (.cells #[.int .i64 0, (.slice none 0 0), (.slice none 0 0)] 25 (0, 0))) ∧ Aside0 (wc.heap[gb209]? = some (.cells #[.int .i64 a0_0, u210001, (.slice none 0 0)] 25 (0, 0))) ∧ Aside0 (Below w.heap.size w wc))
 case first =>
  have H := HC2.out
  clear HC2
  have H' := Aside0.mk H
  clear H
  go_wp2
  go_loopg [4] k (fun kq v4 w' => ∃ (x4_1 : Int) (x210001_1 : List Int) (u210001 : Value), v4 = .int .i64 x4_1 ∧ Aside0 (logjamlaw36_Own.l0 kq x4_1 a0_0 l0_1 l0_2 a0_0 x210001_1 = some (r1, r2, r3)) ∧ Aside0 (kq ≤ k) ∧ Aside0 (Kd.R (Kd.int .i64) 3 w' w.heap.size (fun k_ => (w.heap.size ≤ k_)) u210001 x210001_1) ∧ Aside0 (w'.heap[gb207]? = some (.cells #[.int .i64 a0_0, (.slice A0_1 l0_1.length c0_1), (.slice A0_2 l0_2.length c0_2)] 25 (0, 0))) ∧ Aside0 (w'.heap[gb208]? = some (.cells #[.int .i64 0, (.slice none 0 0), (.slice none 0 0)] 25 (0, 0))) ∧ Aside0 (w'.heap[gb209]? = some (.cells #[.int .i64 a0_0, u210001, (.slice none 0 0)] 25 (0, 0))) ∧ Aside0 (Below w.heap.size w w'))
  case atStart => exact ⟨(0), (([] : List Int)), (.slice none 0 0), (by first | rfl | (simp; done) | (simp only [emptyNe_, emptyEq_]; done) | (simp [*]; done)), H', ⟨Nat.le_refl _⟩, ⟨by first | exact Kd.R_nil _ _ _ _ _ | exact Kd.N_nil _ _ _ _ _ | exact Kd.V_nil _ _ _ _ _ | exact Kd.Q_nil _ _ _ _ _ | exact Kd.S_nil _ _ _ _ _⟩, ⟨by (with_reducible repeat (first | refine blk_drewN ?_ _ | refine blk_drew ?_ | refine blk_alloc ?_ _)); refine blk_far ?_ NB207_209.out _; (with_reducible repeat (first | refine blk_drewN ?_ _ | refine blk_drew ?_ | refine blk_alloc ?_ _)); refine blk_far ?_ NB207_209.out _; (with_reducible repeat (first | refine blk_drewN ?_ _ | refine blk_drew ?_ | refine blk_alloc ?_ _)); refine blk_far ?_ NB207_209.out _; (with_reducible repeat (first | refine blk_drewN ?_ _ | refine blk_drew ?_ | refine blk_alloc ?_ _)); exact BK207.out⟩, ⟨by (with_reducible repeat (first | refine blk_drewN ?_ _ | refine blk_drew ?_ | refine blk_alloc ?_ _)); refine blk_far ?_ NB208_209.out _; (with_reducible repeat (first | refine blk_drewN ?_ _ | refine blk_drew ?_ | refine blk_alloc ?_ _)); refine blk_far ?_ NB208_209.out _; (with_reducible repeat (first | refine blk_drewN ?_ _ | refine blk_drew ?_ | refine blk_alloc ?_ _)); refine blk_far ?_ NB208_209.out _; (with_reducible repeat (first | refine blk_drewN ?_ _ | refine blk_drew ?_ | refine blk_alloc ?_ _)); exact BK208.out⟩, ⟨by (with_reducible repeat (first | refine blk_drewN ?_ _ | refine blk_drew ?_ | refine blk_alloc ?_ _)); refine blk_put (cs := #[.int .i64 a0_0, .slice none 0 0, .slice none 0 0]) ?_ 2 _ rfl; (with_reducible repeat (first | refine blk_drewN ?_ _ | refine blk_drew ?_ | refine blk_alloc ?_ _)); refine blk_put (cs := #[.int .i64 a0_0, .slice none 0 0, .slice none 0 0]) ?_ 1 _ rfl; (with_reducible repeat (first | refine blk_drewN ?_ _ | refine blk_drew ?_ | refine blk_alloc ?_ _)); refine blk_put (cs := #[.int .i64 0, .slice none 0 0, .slice none 0 0]) ?_ 0 _ rfl; (with_reducible repeat (first | refine blk_drewN ?_ _ | refine blk_drew ?_ | refine blk_alloc ?_ _)); exact BK209.out⟩, ⟨by repeat (first | (with_reducible first | exact HB.out | apply below_alloc | apply pw_below_drewN | apply below_drew1 | refine below_set ?_ GE207.out | refine below_set ?_ GE208.out | refine below_set ?_ GE209.out) | exact HB.out)⟩⟩
  case round =>
   clear H'; try clear c1; try clear p2; try clear c5; try clear c8; try clear c9; try clear hcz10_0; try clear hcz10_1; try clear hcz10_2; try clear hcz6_0; try clear hcz6_1; try clear hcz6_2; try clear hfz10_0; try clear hfz10_1; try clear hfz10_2; try clear hfz6_0; try clear hfz6_1; try clear hfz6_2
   obtain ⟨x4_1, x210001_1, u210001, rfl, HA, HK1, HO_210001, BK207, BK208, BK209, HB⟩ := hrel
   cases gk with
   | zero => exact absurd HA.out (by simp [logjamlaw36_Own.l0])
   | succ k1 =>
    have H := HA.out
    clear HA
    simp only [logjamlaw36_Own.l0] at H
    by_cases c11 : x4_1 < (l0_1.length : Int)
    ·rw [if_pos c11] at H
     have c11b0 : decide (x4_1 < (l0_1.length : Int)) = true := decide_eq_true c11
     clear c11
     (first | rw [c11b0] | (simp only [i64_w, i32_w]; rw [c11b0]) | skip)
     by_cases c12 : x4_1 < 70
     ·rw [if_pos c12] at H
      have c12b0 : decide (x4_1 < 70) = true := decide_eq_true c12
      clear c12
      by_cases c13 : 0 ≤ x4_1
      ·rw [if_pos c13] at H
       have c13b0 : decide (0 ≤ x4_1) = true := decide_eq_true c13
       clear c13
       by_cases c14 : x210001_1.length < 17592186044416
       ·rw [if_pos c14] at H
        have LMc14 := Aside0.mk c14
        clear c14
        obtain ⟨y211, hy211⟩ : ∃ y_ : List Int, y_ = (x210001_1 ++ [rd l0_1 x4_1]) := ⟨_, rfl⟩
        replace H : (logjamlaw36_Own.l0 k1 (wrap64 (x4_1 + 1)) a0_0 l0_1 l0_2 a0_0 y211) = some (r1, r2, r3) := by first | (rw [hy211]; with_reducible exact H) | (have H2_ := (Option.bind_some _ _).symm.trans H; rw [hy211]; with_reducible exact H2_) | (have H2_ := (Option.bind_some _ _).symm.trans H; with_reducible exact H2_) | with_reducible exact H | (rw [hy211]; exact H) | exact H
        have Ny211 := Aside0.mk hy211
        clear hy211
        have H' := Aside0.mk H
        clear H
        have hnb15 := NB207_208.out
        have hnc15 := NB208_207.out
        have hnb16 := NB207_209.out
        have hnc16 := NB209_207.out
        have hcz17_0 : wr.cell? ⟨gb207, 0, none⟩ = some (.int .i64 a0_0) := (blk_cell BK207.out 0).trans rfl
        have hcz17_1 : wr.cell? ⟨gb207, 1, none⟩ = some (.slice A0_1 l0_1.length c0_1) := (blk_cell BK207.out 1).trans rfl
        have hcz17_2 : wr.cell? ⟨gb207, 2, none⟩ = some (.slice A0_2 l0_2.length c0_2) := (blk_cell BK207.out 2).trans rfl
        have hfz17_0 := blk_frozen BK207.out 0
        have hfz17_1 := blk_frozen BK207.out 1
        have hfz17_2 := blk_frozen BK207.out 2
        try go_wp2
        have n0_ := Aside0.mk (Kd.R_drew HO_210001.out)
        have n1_ := Aside0.mk (blk_drew BK207.out)
        have n2_ := Aside0.mk (blk_drew BK208.out)
        have n3_ := Aside0.mk (blk_drew BK209.out)
        have n4_ := Aside0.mk (below_drew1 HB.out)
        clear HO_210001; clear BK207; clear BK208; clear BK209; clear HB; have HO_210001 := n0_; have BK207 := n1_; have BK208 := n2_; have BK209 := n3_; have HB := n4_; clear n0_ n1_ n2_ n3_ n4_
        have p210 : 0 ≤ (x4_1 : Int) := of_decide_eq_true (by first | (with_reducible assumption) | assumption)
        have q210 : x4_1 < (l0_1.length : Int) := of_decide_eq_true (by first | (with_reducible assumption) | assumption)
        obtain ⟨ad210, e210, hx210_0⟩ := Kd.at_int HR0_1.out x4_1 p210 q210
        have hw210_0 := hx210_0
        cases e210
        replace hx210_0 := (HB.out.cell (World.block_lt_of_cell? w _ hx210_0)).trans hx210_0
        replace p210 := eq_true p210
        replace q210 := eq_true q210
        refine start_ (n := 11) (S := fun w' => w'.cell? ⟨gb209, 0, none⟩ = some (.int .i64 a0_0) ∧ w'.cell? ⟨gb209, 1, none⟩ = some (u210001) ∧ w'.cell? ⟨gb209, 2, none⟩ = some (.slice none 0 0) ∧ w'.cell? ⟨gb207, 0, none⟩ = some (.int .i64 a0_0) ∧ w'.cell? ⟨gb207, 1, none⟩ = some (.slice (some ad210) l0_1.length c0_1) ∧ w'.cell? ⟨gb207, 2, none⟩ = some (.slice A0_2 l0_2.length c0_2) ∧ w'.cell? (ad210.add (x4_1).toNat) = some (.int .i64 (rd l0_1 x4_1))) (ds := [10]) #[false, false, false, false, false, false, false, false, false, false, false] (by kernel_rfl) rfl rfl ⟨(blk_cell BK209.out 0).trans rfl, (blk_cell BK209.out 1).trans rfl, (blk_cell BK209.out 2).trans rfl, (blk_cell BK207.out 0).trans rfl, (blk_cell BK207.out 1).trans rfl, (blk_cell BK207.out 2).trans rfl, ((HB.out.cell (World.block_lt_of_cell? w _ hw210_0)).trans hw210_0)⟩ (fun hHeld => ?_); refine with_tabW logjamlaw36_Own.tab5 logjamlaw36_Own.bits5 (fun HT_ HW_ => ?_)
        generalize wr.drew = w18 at HO_210001 BK207 BK208 BK209 HB hx210_0 hHeld ⊢
        refine pure_ (i := 0) (N := some 21) (v := ?_) (a' := ?_) #[true, false, false, false, false, false, false, false, false, false, false] rfl rfl (any_of HT_.out (by kernel_rfl)) (fun _ _ _ h => h) (Or.inl ⟨by rfl, ?_⟩) ?_ ?_
        rotate_left
        ·intro w'
         go_simp
         with_reducible rfl
        rotate_left
        ·simp only [Act.put, List.setIfInBounds_toArray, List.set_cons_zero, List.set_cons_succ, i64_w, i32_w]
         rfl
        refine pure_ (i := 2) (N := some 23) (v := ?_) (a' := ?_) #[true, false, true, false, false, false, false, false, false, false, false] rfl rfl (any_of HT_.out (by kernel_rfl)) (fun _ _ _ h => h) (Or.inl ⟨by rfl, ?_⟩) ?_ ?_
        rotate_left
        ·intro w'
         go_simp
         with_reducible rfl
        rotate_left
        ·simp only [Act.put, List.setIfInBounds_toArray, List.set_cons_zero, List.set_cons_succ, i64_w, i32_w]
         rfl
        refine pure_ (i := 4) (N := some 25) (v := ?_) (a' := ?_) #[true, false, true, false, true, false, false, false, false, false, false] rfl rfl (any_of HT_.out (by kernel_rfl)) (fun _ _ _ h => h) (Or.inl ⟨by rfl, ?_⟩) ?_ ?_
        rotate_left
        ·intro w'
         go_simp
         with_reducible rfl
        rotate_left
        ·simp only [Act.put, List.setIfInBounds_toArray, List.set_cons_zero, List.set_cons_succ, i64_w, i32_w]
         rfl
        refine take_ (i := 1) (N := some 22) (v := ?_) (a' := ?_) #[true, true, true, false, true, false, false, false, false, false, false] rfl rfl (take_ofW HT_.out HW_.out (by kernel_rfl)) (fun _ _ _ h => h) (Or.inl ⟨by rfl, ?_⟩) hHeld ?_ ?_
        rotate_left
        ·rintro w' ⟨s0, s1, s2, s3, s4, s5, s6⟩
         go_simp
         with_reducible rfl
        rotate_left
        ·simp only [Act.put, List.setIfInBounds_toArray, List.set_cons_zero, List.set_cons_succ, i64_w, i32_w]
         rfl
        refine take_ (i := 3) (N := some 24) (v := ?_) (a' := ?_) #[true, true, true, true, true, false, false, false, false, false, false] rfl rfl (take_ofW HT_.out HW_.out (by kernel_rfl)) (fun _ _ _ h => h) (Or.inl ⟨by rfl, ?_⟩) hHeld ?_ ?_
        rotate_left
        ·rintro w' ⟨s0, s1, s2, s3, s4, s5, s6⟩
         go_simp
         with_reducible rfl
        rotate_left
        ·simp only [Act.put, List.setIfInBounds_toArray, List.set_cons_zero, List.set_cons_succ, i64_w, i32_w]
         rfl
        refine pure_ (i := 5) (N := some 26) (v := ?_) (a' := ?_) #[true, true, true, true, true, true, false, false, false, false, false] rfl rfl (any_of HT_.out (by kernel_rfl)) (fun _ _ _ h => h) (Or.inl ⟨by rfl, ?_⟩) ?_ ?_
        rotate_left
        ·intro w'
         go_simp
         with_reducible rfl
        rotate_left
        ·simp only [Act.put, List.setIfInBounds_toArray, List.set_cons_zero, List.set_cons_succ, i64_w, i32_w]
         rfl
        refine take_ (i := 6) (N := some 27) (v := ?_) (a' := ?_) #[true, true, true, true, true, true, true, false, false, false, false] rfl rfl (take_ofW HT_.out HW_.out (by kernel_rfl)) (fun _ _ _ h => h) (Or.inl ⟨by rfl, ?_⟩) hHeld ?_ ?_
        rotate_left
        ·rintro w' ⟨s0, s1, s2, s3, s4, s5, s6⟩
         go_simp
         with_reducible rfl
        rotate_left
        ·simp only [Act.put, List.setIfInBounds_toArray, List.set_cons_zero, List.set_cons_succ, i64_w, i32_w]
         rfl
        refine one_ (i := 7) (N := some 28) #[true, true, true, true, true, true, true, true, false, false, false] rfl rfl (one_of HT_.out (by kernel_rfl)) (by decide) (fun K hK => ?_)
        refine value_ (w1 := ?_) (v := ?_) (by rfl) rfl ?_ ?_
        rotate_left 2
        ·go_simp
         constructor
         ·rfl
         ·rfl
        refine hK.out _ _ ⟨(blk_cell (blk_alloc BK209.out _) 0).trans rfl, (blk_cell (blk_alloc BK209.out _) 1).trans rfl, (blk_cell (blk_alloc BK209.out _) 2).trans rfl, (blk_cell (blk_alloc BK207.out _) 0).trans rfl, (blk_cell (blk_alloc BK207.out _) 1).trans rfl, (blk_cell (blk_alloc BK207.out _) 2).trans rfl, (World.cell?_alloc_lt _ _ _ (World.block_lt_of_cell? _ _ (((HB.out.cell (World.block_lt_of_cell? w _ hw210_0)).trans hw210_0)))).trans (((HB.out.cell (World.block_lt_of_cell? w _ hw210_0)).trans hw210_0))⟩ (fun hHeld => ?_)
        clear hK K
        refine norm_ (a' := ?_) ?_ ?_
        rotate_left
        ·show Act.put _ (some 28) _ = _
         simp only [Act.put, List.setIfInBounds_toArray, List.set_cons_zero, List.set_cons_succ, i64_w, i32_w]
         rfl
        refine one_ (i := 8) (N := some 29) #[true, true, true, true, true, true, true, true, true, false, false] rfl rfl (one_of HT_.out (by kernel_rfl)) (by decide) (fun K hK => ?_)
        refine Kd.R_append_step (Kd.int .i64) (w0 := w) w.heap.size (by rfl) (.tmp 22) (.tmp 28) 22 3 (.int .i64 0) 8 rfl Tryd.underlying22 info3 rfl (by decide) (by omega) u210001 x210001_1 (rd l0_1 x4_1) [.int .i64 (rd l0_1 x4_1)] (fun k_ => (w.heap.size ≤ k_)) (fun _ => False) rfl rfl ?aP (fun _ hk => hk.elim) ?aF ?aO ?aB ?aS ?aL ?_
        (case aP => exact rfl)
        (case aB => exact (by repeat (first | (with_reducible first | exact HB.out | apply below_alloc | apply pw_below_drewN | apply below_drew1 | refine below_set ?_ GE207.out | refine below_set ?_ GE208.out | refine below_set ?_ GE209.out) | exact HB.out)))
        (case aF => exact (fun k_ hk => (Nat.le_trans (below_size (by repeat (first | (with_reducible first | exact HB.out | apply below_alloc | apply pw_below_drewN | apply below_drew1 | refine below_set ?_ GE207.out | refine below_set ?_ GE208.out | refine below_set ?_ GE209.out) | exact HB.out))) hk)))
        (case aO => exact (by (with_reducible repeat (first | apply Kd.R_alloc | apply Kd.R_drewN | apply Kd.R_drew)); exact HO_210001.out))
        (case aS => exact (below_size (by repeat (first | (with_reducible first | exact HB.out | apply below_alloc | apply pw_below_drewN | apply below_drew1 | refine below_set ?_ GE207.out | refine below_set ?_ GE208.out | refine below_set ?_ GE209.out) | exact HB.out))))
        (case aL => have := LMc14.out; omega)
        intro v212 w19 ho hb hg hat
        rw [← Ny211.out] at ho
        have n0_ := Aside0.mk (blk_grown (g := gb207) (o := .cells #[.int .i64 a0_0, .slice (some ad210) l0_1.length c0_1, .slice A0_2 l0_2.length c0_2] 25 (0, 0)) (by (with_reducible repeat (first | refine blk_drewN ?_ _ | refine blk_drew ?_ | refine blk_alloc ?_ _)); exact BK207.out) hg (Kd.R_ne HO_210001.out BK207.out (by decide)))
        have n1_ := Aside0.mk (blk_grown (g := gb208) (o := .cells #[.int .i64 0, .slice none 0 0, .slice none 0 0] 25 (0, 0)) (by (with_reducible repeat (first | refine blk_drewN ?_ _ | refine blk_drew ?_ | refine blk_alloc ?_ _)); exact BK208.out) hg (Kd.R_ne HO_210001.out BK208.out (by decide)))
        have n2_ := Aside0.mk (blk_grown (g := gb209) (o := .cells #[.int .i64 a0_0, u210001, .slice none 0 0] 25 (0, 0)) (by (with_reducible repeat (first | refine blk_drewN ?_ _ | refine blk_drew ?_ | refine blk_alloc ?_ _)); exact BK209.out) hg (Kd.R_ne HO_210001.out BK209.out (by decide)))
        have n3_ := Aside0.mk (hb)
        have n4_ := Aside0.mk (ho)
        clear BK207; clear BK208; clear BK209; clear HB; clear HO_210001; have BK207 := n0_; have BK208 := n1_; have BK209 := n2_; have HB := n3_; have HO213 := n4_; clear n0_ n1_ n2_ n3_ n4_; clear ho hb hg hat
        obtain ⟨Ao20, co20, eo20⟩ := Kd.R_slice HO213.out
        (first | subst eo20 | (injection eo20 with f1_ f2_ f3_; have f4_ := f1_.symm; have f5_ := f3_.symm; clear f1_ f2_ f3_; subst f4_; subst f5_))
        refine hK.out _ _ ⟨(blk_cell BK209.out 0).trans rfl, (blk_cell BK209.out 1).trans rfl, (blk_cell BK209.out 2).trans rfl, (blk_cell BK207.out 0).trans rfl, (blk_cell BK207.out 1).trans rfl, (blk_cell BK207.out 2).trans rfl, ((HB.out.cell (World.block_lt_of_cell? w _ hw210_0)).trans hw210_0)⟩ (fun hHeld => ?_)
        clear hK K
        refine norm_ (a' := ?_) ?_ ?_
        rotate_left
        ·show Act.put _ (some 29) _ = _
         simp only [Act.put, List.setIfInBounds_toArray, List.set_cons_zero, List.set_cons_succ, i64_w, i32_w]
         rfl
        refine pure_ (i := 9) (N := some 30) (v := ?_) (a' := ?_) #[true, true, true, true, true, true, true, true, true, true, false] rfl rfl (any_of HT_.out (by kernel_rfl)) (fun _ _ _ h => h) (Or.inl ⟨by rfl, ?_⟩) ?_ ?_
        rotate_left
        ·intro w'
         go_simp
         with_reducible rfl
        rotate_left
        ·simp only [Act.put, List.setIfInBounds_toArray, List.set_cons_zero, List.set_cons_succ, i64_w, i32_w]
         rfl
        refine last_ (i := 10) (N := none) #[true, true, true, true, true, true, true, true, true, true, true] rfl rfl (one_of HT_.out (by kernel_rfl)) (by decide) (fun K hK => ?_)
        have hs21 : w19.cell? ⟨gb209, 1, none⟩ = some (u210001) := (blk_cell BK209.out 1).trans rfl
        have hfs21 := blk_frozen BK209.out 1
        have hns21_0 := NB207_209.out
        have hns21_1 := NB208_209.out
        have hms21_0 := NB209_207.out
        have hms21_1 := NB209_208.out
        refine skip_ (w1 := ?_) (by rfl) rfl ?_ ?_
        rotate_left
        ·go_simp
         rfl
        refine hK.out _ _ ?_
        clear hK K
        refine done_ (done_of HT_.out (by kernel_rfl)) ?_
        try go_wp2
        go_roundg k1
        case measure => have := HK1.out; omega
        case rel => exact ⟨(wrap64 (x4_1 + 1)), (y211), (.slice Ao20 y211.length co20), (by first | rfl | (simp; done) | (simp only [emptyNe_, emptyEq_]; done) | (simp [*]; done)), H', ⟨by have := HK1.out; omega⟩, ⟨by (with_reducible repeat (first | apply Kd.R_alloc | apply Kd.R_drewN | apply Kd.R_drew)); exact Kd.R_mono (Kd.R_far (p := ⟨gb209, 1, none⟩) (Kd.R_types HO213.out BK209.out (by decide)) (fun _ hk => hk.2) (.slice Ao20 y211.length co20)) (fun _ hk => hk.1)⟩, ⟨by (with_reducible repeat (first | refine blk_drewN ?_ _ | refine blk_drew ?_ | refine blk_alloc ?_ _)); refine blk_far ?_ NB207_209.out _; (with_reducible repeat (first | refine blk_drewN ?_ _ | refine blk_drew ?_ | refine blk_alloc ?_ _)); exact BK207.out⟩, ⟨by (with_reducible repeat (first | refine blk_drewN ?_ _ | refine blk_drew ?_ | refine blk_alloc ?_ _)); refine blk_far ?_ NB208_209.out _; (with_reducible repeat (first | refine blk_drewN ?_ _ | refine blk_drew ?_ | refine blk_alloc ?_ _)); exact BK208.out⟩, ⟨by (with_reducible repeat (first | refine blk_drewN ?_ _ | refine blk_drew ?_ | refine blk_alloc ?_ _)); refine blk_put (cs := #[.int .i64 a0_0, u210001, .slice none 0 0]) ?_ 1 _ rfl; (with_reducible repeat (first | refine blk_drewN ?_ _ | refine blk_drew ?_ | refine blk_alloc ?_ _)); exact BK209.out⟩, ⟨by repeat (first | (with_reducible first | exact HB.out | apply below_alloc | apply pw_below_drewN | apply below_drew1 | refine below_set ?_ GE207.out | refine below_set ?_ GE208.out | refine below_set ?_ GE209.out) | exact HB.out)⟩⟩
       ·rw [if_neg c14] at H
        exact absurd H (by simp)
      ·rw [if_neg c13] at H
       exact absurd H (by simp)
     ·rw [if_neg c12] at H
      have c12b0 : decide (x4_1 < 70) = false := decide_eq_false c12
      clear c12
      have H' := Aside0.mk H
      clear H
      have hnb22 := NB207_208.out
      have hnc22 := NB208_207.out
      have hnb23 := NB207_209.out
      have hnc23 := NB209_207.out
      have hcz24_0 : wr.cell? ⟨gb207, 0, none⟩ = some (.int .i64 a0_0) := (blk_cell BK207.out 0).trans rfl
      have hcz24_1 : wr.cell? ⟨gb207, 1, none⟩ = some (.slice A0_1 l0_1.length c0_1) := (blk_cell BK207.out 1).trans rfl
      have hcz24_2 : wr.cell? ⟨gb207, 2, none⟩ = some (.slice A0_2 l0_2.length c0_2) := (blk_cell BK207.out 2).trans rfl
      have hfz24_0 := blk_frozen BK207.out 0
      have hfz24_1 := blk_frozen BK207.out 1
      have hfz24_2 := blk_frozen BK207.out 2
      go_wp2
      go_meet
      case rel => exact ⟨_, (x210001_1), (u210001), H', ⟨by have := HK1.out; first | omega | exact Nat.le_refl _⟩, ⟨by (with_reducible repeat (first | apply Kd.R_alloc | apply Kd.R_drewN | apply Kd.R_drew)); exact HO_210001.out⟩, ⟨by (with_reducible repeat (first | refine blk_drewN ?_ _ | refine blk_drew ?_ | refine blk_alloc ?_ _)); exact BK207.out⟩, ⟨by (with_reducible repeat (first | refine blk_drewN ?_ _ | refine blk_drew ?_ | refine blk_alloc ?_ _)); exact BK208.out⟩, ⟨by (with_reducible repeat (first | refine blk_drewN ?_ _ | refine blk_drew ?_ | refine blk_alloc ?_ _)); exact BK209.out⟩, ⟨by repeat (first | (with_reducible first | exact HB.out | apply below_alloc | apply pw_below_drewN | apply below_drew1 | refine below_set ?_ GE207.out | refine below_set ?_ GE208.out | refine below_set ?_ GE209.out) | exact HB.out)⟩⟩
    ·rw [if_neg c11] at H
     have c11b0 : decide (x4_1 < (l0_1.length : Int)) = false := decide_eq_false c11
     clear c11
     (first | rw [c11b0] | (simp only [i64_w, i32_w]; rw [c11b0]) | skip)
     have H' := Aside0.mk H
     clear H
     have hnb25 := NB207_208.out
     have hnc25 := NB208_207.out
     have hnb26 := NB207_209.out
     have hnc26 := NB209_207.out
     have hcz27_0 : wr.cell? ⟨gb207, 0, none⟩ = some (.int .i64 a0_0) := (blk_cell BK207.out 0).trans rfl
     have hcz27_1 : wr.cell? ⟨gb207, 1, none⟩ = some (.slice A0_1 l0_1.length c0_1) := (blk_cell BK207.out 1).trans rfl
     have hcz27_2 : wr.cell? ⟨gb207, 2, none⟩ = some (.slice A0_2 l0_2.length c0_2) := (blk_cell BK207.out 2).trans rfl
     have hfz27_0 := blk_frozen BK207.out 0
     have hfz27_1 := blk_frozen BK207.out 1
     have hfz27_2 := blk_frozen BK207.out 2
     go_wp2
     go_meet
     case rel => exact ⟨_, (x210001_1), (u210001), H', ⟨by have := HK1.out; first | omega | exact Nat.le_refl _⟩, ⟨by (with_reducible repeat (first | apply Kd.R_alloc | apply Kd.R_drewN | apply Kd.R_drew)); exact HO_210001.out⟩, ⟨by (with_reducible repeat (first | refine blk_drewN ?_ _ | refine blk_drew ?_ | refine blk_alloc ?_ _)); exact BK207.out⟩, ⟨by (with_reducible repeat (first | refine blk_drewN ?_ _ | refine blk_drew ?_ | refine blk_alloc ?_ _)); exact BK208.out⟩, ⟨by (with_reducible repeat (first | refine blk_drewN ?_ _ | refine blk_drew ?_ | refine blk_alloc ?_ _)); exact BK209.out⟩, ⟨by repeat (first | (with_reducible first | exact HB.out | apply below_alloc | apply pw_below_drewN | apply below_drew1 | refine below_set ?_ GE207.out | refine below_set ?_ GE208.out | refine below_set ?_ GE209.out) | exact HB.out)⟩⟩
 case rest =>
  clear HC2; try clear c1; try clear c2; try clear p2; try clear q2; try clear hx2; try clear c5; try clear p6; try clear c8; try clear c9; try clear c11; try clear c11b0; try clear c12; try clear c12b0; try clear c13; try clear c13b0; try clear c14; try clear c15; try clear c16; try clear p21; try clear q21; try clear hx21; try clear c22; try clear c23; try clear c25; try clear c26; try clear hcz10_0; try clear hcz10_1; try clear hcz10_2; try clear hcz17_0; try clear hcz17_1; try clear hcz17_2; try clear hcz24_0; try clear hcz24_1; try clear hcz24_2; try clear hcz27_0; try clear hcz27_1; try clear hcz27_2; try clear hcz6_0; try clear hcz6_1; try clear hcz6_2; try clear hfz10_0; try clear hfz10_1; try clear hfz10_2; try clear hfz17_0; try clear hfz17_1; try clear hfz17_2; try clear hfz24_0; try clear hfz24_1; try clear hfz24_2; try clear hfz27_0; try clear hfz27_1; try clear hfz27_2; try clear hfz6_0; try clear hfz6_1; try clear hfz6_2; try clear hx210_0; try clear p2; try clear p210; try clear q210
  obtain ⟨kq, x210001_1, u210001, HA, HJ1, HO_210001, BK207, BK208, BK209, HB⟩ := hcut
  cases kq with
  | zero => exact absurd HA.out (by simp [logjamlaw36_Own.j1])
  | succ kj1 =>
   have H := HA.out
   clear HA
   simp only [logjamlaw36_Own.j1] at H
   have H' := Aside0.mk H
   clear H
   have hnb28 := NB207_208.out
   have hnc28 := NB208_207.out
   have hnb29 := NB207_209.out
   have hnc29 := NB209_207.out
   have hcz30_0 : wc.cell? ⟨gb207, 0, none⟩ = some (.int .i64 a0_0) := (blk_cell BK207.out 0).trans rfl
   have hcz30_1 : wc.cell? ⟨gb207, 1, none⟩ = some (.slice A0_1 l0_1.length c0_1) := (blk_cell BK207.out 1).trans rfl
   have hcz30_2 : wc.cell? ⟨gb207, 2, none⟩ = some (.slice A0_2 l0_2.length c0_2) := (blk_cell BK207.out 2).trans rfl
   have hfz30_0 := blk_frozen BK207.out 0
   have hfz30_1 := blk_frozen BK207.out 1
   have hfz30_2 := blk_frozen BK207.out 2
   go_wp2
   go_loopg [6] kj1 (fun kq v6 w' => ∃ (x6_2 : Int) (x210002_2 : List (S92)) (u210002 : Value), v6 = .int .i64 x6_2 ∧ Aside0 (logjamlaw36_Own.l1 kq l0_2 x6_2 a0_0 x210001_1 x210002_2 = some (r1, r2, r3)) ∧ Aside0 (kq ≤ kj1) ∧ Aside0 (Kd.R (Kd.int .i64) 3 w' w.heap.size (fun k_ => (w.heap.size ≤ k_)) u210001 x210001_1) ∧ Aside0 (Kd.N k92 92 w' w.heap.size (fun k_ => (w.heap.size ≤ k_) ∧ some k_ ≠ (u210001 : Value).ownBlock ∧ k_ ≠ gb207 ∧ k_ ≠ gb208 ∧ k_ ≠ gb209) u210002 x210002_2) ∧ Aside0 (w'.heap[gb207]? = some (.cells #[.int .i64 a0_0, (.slice A0_1 l0_1.length c0_1), (.slice A0_2 l0_2.length c0_2)] 25 (0, 0))) ∧ Aside0 (w'.heap[gb208]? = some (.cells #[.int .i64 0, (.slice none 0 0), (.slice none 0 0)] 25 (0, 0))) ∧ Aside0 (w'.heap[gb209]? = some (.cells #[.int .i64 a0_0, u210001, u210002] 25 (0, 0))) ∧ Aside0 (Below w.heap.size w w'))
   case atStart => exact ⟨(0), (([] : List (S92))), (.slice none 0 0), (by first | rfl | (simp; done) | (simp only [emptyNe_, emptyEq_]; done) | (simp [*]; done)), H', ⟨Nat.le_refl _⟩, ⟨by (with_reducible repeat (first | apply Kd.R_alloc | apply Kd.R_drewN | apply Kd.R_drew)); exact HO_210001.out⟩, ⟨by first | exact Kd.R_nil _ _ _ _ _ | exact Kd.N_nil _ _ _ _ _ | exact Kd.V_nil _ _ _ _ _ | exact Kd.Q_nil _ _ _ _ _ | exact Kd.S_nil _ _ _ _ _⟩, ⟨by (with_reducible repeat (first | refine blk_drewN ?_ _ | refine blk_drew ?_ | refine blk_alloc ?_ _)); exact BK207.out⟩, ⟨by (with_reducible repeat (first | refine blk_drewN ?_ _ | refine blk_drew ?_ | refine blk_alloc ?_ _)); exact BK208.out⟩, ⟨by (with_reducible repeat (first | refine blk_drewN ?_ _ | refine blk_drew ?_ | refine blk_alloc ?_ _)); exact BK209.out⟩, ⟨by repeat (first | (with_reducible first | exact HB.out | apply below_alloc | apply pw_below_drewN | apply below_drew1 | refine below_set ?_ GE207.out | refine below_set ?_ GE208.out | refine below_set ?_ GE209.out) | exact HB.out)⟩⟩
   case round =>
    clear H'; try clear c1; try clear c2; try clear p2; try clear q2; try clear hx2; try clear c5; try clear p6; try clear c8; try clear c9; try clear c11; try clear c11b0; try clear c12; try clear c12b0; try clear c13; try clear c13b0; try clear c14; try clear c15; try clear c16; try clear p21; try clear q21; try clear hx21; try clear c22; try clear c23; try clear c25; try clear c26; try clear c28; try clear c29; try clear hcz10_0; try clear hcz10_1; try clear hcz10_2; try clear hcz17_0; try clear hcz17_1; try clear hcz17_2; try clear hcz24_0; try clear hcz24_1; try clear hcz24_2; try clear hcz27_0; try clear hcz27_1; try clear hcz27_2; try clear hcz30_0; try clear hcz30_1; try clear hcz30_2; try clear hcz6_0; try clear hcz6_1; try clear hcz6_2; try clear hfz10_0; try clear hfz10_1; try clear hfz10_2; try clear hfz17_0; try clear hfz17_1; try clear hfz17_2; try clear hfz24_0; try clear hfz24_1; try clear hfz24_2; try clear hfz27_0; try clear hfz27_1; try clear hfz27_2; try clear hfz30_0; try clear hfz30_1; try clear hfz30_2; try clear hfz6_0; try clear hfz6_1; try clear hfz6_2; try clear hx210_0; try clear p2; try clear p21; try clear p210; try clear p6; try clear q2; try clear q21; try clear q210
    obtain ⟨x6_2, x210002_2, u210002, rfl, HA, HK2, HO_210001, HO_210002, BK207, BK208, BK209, HB⟩ := hrel
    cases gk with
    | zero => exact absurd HA.out (by simp [logjamlaw36_Own.l1])
    | succ k2 =>
     have H := HA.out
     clear HA
     simp only [logjamlaw36_Own.l1] at H
     by_cases c31 : x6_2 < (l0_2.length : Int)
     ·rw [if_pos c31] at H
      have c31b0 : decide (x6_2 < (l0_2.length : Int)) = true := decide_eq_true c31
      clear c31
      by_cases c32 : x6_2 < 70
      ·rw [if_pos c32] at H
       have c32b0 : decide (x6_2 < 70) = true := decide_eq_true c32
       clear c32
       by_cases c33 : 0 ≤ x6_2
       ·rw [if_pos c33] at H
        have c33b0 := eq_true c33
        have c33b1 : decide (0 ≤ x6_2) = true := decide_eq_true c33
        clear c33
        by_cases c34 : x6_2 ≤ (wrap64 (x6_2 + 1))
        ·rw [if_pos c34] at H
         have c34b0 := eq_true c34
         have c34b1 : decide (x6_2 ≤ (wrap64 (x6_2 + 1))) = true := decide_eq_true c34
         by_cases c35 : (wrap64 (x6_2 + 1)) ≤ (l0_2.length : Int)
         ·rw [if_pos c35] at H
          have c35b0 := eq_true c35
          have c35b1 : decide ((wrap64 (x6_2 + 1)) ≤ (l0_2.length : Int)) = true := decide_eq_true c35
          obtain ⟨y214, hy214⟩ : ∃ y_ : List (S92), y_ = ((l0_2.take ((wrap64 (x6_2 + 1)) : Int).toNat).drop (x6_2 : Int).toNat) := ⟨_, rfl⟩
          replace H : ((logjamlaw26_Own.f k2 y214).bind fun t218 => (if 0 < (t218.length : Int) then (if x210002_2.length < 4398046511104 then (logjamlaw36_Own.l1 k2 l0_2 (wrap64 (x6_2 + 1)) a0_0 x210001_1 (x210002_2 ++ [(⟨(rd_T92 t218 0).f0, (rd_T92 t218 0).f1⟩ : S92)])) else (none)) else (none))) = some (r1, r2, r3) := by first | (rw [hy214]; with_reducible exact H) | (have H2_ := (Option.bind_some _ _).symm.trans H; rw [hy214]; with_reducible exact H2_) | (have H2_ := (Option.bind_some _ _).symm.trans H; with_reducible exact H2_) | with_reducible exact H | (rw [hy214]; exact H) | exact H
          have Ny214 := Aside0.mk hy214
          clear hy214
          replace H := Option.bind_eq_some_iff.mp H
          obtain ⟨t218, A360, H⟩ := H
          replace H : (if 0 < (t218.length : Int) then (if x210002_2.length < 4398046511104 then (logjamlaw36_Own.l1 k2 l0_2 (wrap64 (x6_2 + 1)) a0_0 x210001_1 (x210002_2 ++ [(⟨(rd_T92 t218 0).f0, (rd_T92 t218 0).f1⟩ : S92)])) else (none)) else (none)) = some (r1, r2, r3) := H
          have A36 := Aside0.mk A360
          clear A360
          by_cases c37 : 0 < (t218.length : Int)
          ·rw [if_pos c37] at H
           have c37b0 : decide (0 < (t218.length : Int)) = true := decide_eq_true c37
           have c37b1 : decide (0 < t218.length) = true := decide_eq_true (by omega)
           clear c37
           by_cases c38 : x210002_2.length < 4398046511104
           ·rw [if_pos c38] at H
            have LMc38 := Aside0.mk c38
            clear c38
            obtain ⟨y222, hy222⟩ : ∃ y_ : List (S92), y_ = (x210002_2 ++ [(⟨(rd_T92 t218 0).f0, (rd_T92 t218 0).f1⟩ : S92)]) := ⟨_, rfl⟩
            replace H : (logjamlaw36_Own.l1 k2 l0_2 (wrap64 (x6_2 + 1)) a0_0 x210001_1 y222) = some (r1, r2, r3) := by first | (rw [hy222]; with_reducible exact H) | (have H2_ := (Option.bind_some _ _).symm.trans H; rw [hy222]; with_reducible exact H2_) | (have H2_ := (Option.bind_some _ _).symm.trans H; with_reducible exact H2_) | with_reducible exact H | (rw [hy222]; exact H) | exact H
            have Ny222 := Aside0.mk hy222
            clear hy222
            have H' := Aside0.mk H
            clear H
            try go_wp2
            have n0_ := Aside0.mk (Kd.R_drew HO_210001.out)
            have n1_ := Aside0.mk (Kd.N_drew HO_210002.out)
            have n2_ := Aside0.mk (blk_drew BK207.out)
            have n3_ := Aside0.mk (blk_drew BK208.out)
            have n4_ := Aside0.mk (blk_drew BK209.out)
            have n5_ := Aside0.mk (below_drew1 HB.out)
            clear HO_210001; clear HO_210002; clear BK207; clear BK208; clear BK209; clear HB; have HO_210001 := n0_; have HO_210002 := n1_; have BK207 := n2_; have BK208 := n3_; have BK209 := n4_; have HB := n5_; clear n0_ n1_ n2_ n3_ n4_ n5_
            have q40 : ((wrap64 (x6_2 + 1)) : Int) ≤ ((l0_2.length : Int) : Int) := of_decide_eq_true (by first | (with_reducible assumption) | assumption)
            obtain ⟨i040, hi040, _, hsz40, _⟩ := info_parts info92
            have hroom40 : l0_2.length ≤ c0_2 := HC0_2.out
            have hC40 : Kd.C k92 _ A0_2 l0_2.length l0_2 := HR0_2.out
            have ql40 : (x6_2 : Int) ≤ ((wrap64 (x6_2 + 1)) : Int) := of_decide_eq_true (by first | (with_reducible assumption) | assumption)
            have q040 : (0 : Int) ≤ (x6_2 : Int) := of_decide_eq_true (by first | (with_reducible assumption) | assumption)
            have hcut40 := cut_mid (P := Tryd.prog) 23 92 .i64 .i64 Tryd.underlying23 hi040 2 hsz40 A0_2 l0_2.length c0_2 x6_2 (wrap64 (x6_2 + 1)) q040 ql40 q40 hroom40
            have hr40 := Kd.C_mid (lo := (x6_2 : Int).toNat) (hi := ((wrap64 (x6_2 + 1)) : Int).toNat) (c := c0_2) hC40 (by omega) (by omega) hroom40
            obtain ⟨A40, hA40⟩ : ∃ A1, A1 = (if c0_2 = (x6_2 : Int).toNat then A0_2 else (A0_2 : Option Addr).map (·.add ((x6_2 : Int).toNat * 2))) := ⟨_, rfl⟩
            obtain ⟨c40, hc40⟩ : ∃ c1, c1 = c0_2 - (x6_2 : Int).toNat := ⟨_, rfl⟩
            have hy40 : y214.length = ((wrap64 (x6_2 + 1)) : Int).toNat - (x6_2 : Int).toNat := (by rw [Ny214.out, List.length_drop, List.length_take] <;> omega)
            rw [show ((l0_2).take ((wrap64 (x6_2 + 1)) : Int).toNat).drop (x6_2 : Int).toNat = y214 from Ny214.out.symm] at hr40
            replace hr40 : Kd.C k92 _ A40 y214.length y214 := (by rw [hA40]; exact hr40)
            rw [← hy40, ← hA40, ← hc40] at hcut40
            have HR217 := Aside0.mk hr40
            have HC217 := Aside0.mk (show y214.length ≤ c40 from by rw [hy40, hc40]; exact Nat.sub_le_sub_right (Nat.le_trans (by omega) hroom40) _)
            clear hr40 hC40 hroom40 hi040 hsz40 hc40
            have KY40 := Aside0.mk hy40
            have KA40 := Aside0.mk hA40
            clear hy40 hA40
            replace q40 := eq_true q40
            refine start_ (n := 14) (S := fun w' => w'.cell? ⟨gb209, 0, none⟩ = some (.int .i64 a0_0) ∧ w'.cell? ⟨gb209, 1, none⟩ = some (u210001) ∧ w'.cell? ⟨gb209, 2, none⟩ = some (u210002)) (ds := [13]) #[false, false, false, false, false, false, false, false, false, false, false, false, false, false] (by kernel_rfl) rfl rfl ⟨(blk_cell BK209.out 0).trans rfl, (blk_cell BK209.out 1).trans rfl, (blk_cell BK209.out 2).trans rfl⟩ (fun hHeld => ?_); refine with_tabW logjamlaw36_Own.tab10 logjamlaw36_Own.bits10 (fun HT_ HW_ => ?_)
            generalize wr.drew = w39 at HO_210001 HO_210002 BK207 BK208 BK209 HB HR217 hHeld ⊢
            refine pure_ (i := 0) (N := some 43) (v := ?_) (a' := ?_) #[true, false, false, false, false, false, false, false, false, false, false, false, false, false] rfl rfl (any_of HT_.out (by kernel_rfl)) (fun _ _ _ h => h) (Or.inl ⟨by rfl, ?_⟩) ?_ ?_
            rotate_left
            ·intro w'
             go_simp
             with_reducible rfl
            rotate_left
            ·simp only [Act.put, List.setIfInBounds_toArray, List.set_cons_zero, List.set_cons_succ, i64_w, i32_w]
             rfl
            refine pure_ (i := 2) (N := some 45) (v := ?_) (a' := ?_) #[true, false, true, false, false, false, false, false, false, false, false, false, false, false] rfl rfl (any_of HT_.out (by kernel_rfl)) (fun _ _ _ h => h) (Or.inl ⟨by rfl, ?_⟩) ?_ ?_
            rotate_left
            ·intro w'
             go_simp
             with_reducible rfl
            rotate_left
            ·simp only [Act.put, List.setIfInBounds_toArray, List.set_cons_zero, List.set_cons_succ, i64_w, i32_w]
             rfl
            refine pure_ (i := 3) (N := some 46) (v := ?_) (a' := ?_) #[true, false, true, true, false, false, false, false, false, false, false, false, false, false] rfl rfl (any_of HT_.out (by kernel_rfl)) (fun _ _ _ h => h) (Or.inl ⟨by rfl, ?_⟩) ?_ ?_
            rotate_left
            ·intro w'
             go_simp
             with_reducible rfl
            rotate_left
            ·simp only [Act.put, List.setIfInBounds_toArray, List.set_cons_zero, List.set_cons_succ, i64_w, i32_w]
             rfl
            refine pure_ (i := 4) (N := some 47) (v := ?_) (a' := ?_) #[true, false, true, true, true, false, false, false, false, false, false, false, false, false] rfl rfl (any_of HT_.out (by kernel_rfl)) (fun _ _ _ h => h) (Or.inl ⟨by rfl, ?_⟩) ?_ ?_
            rotate_left
            ·intro w'
             go_simp
             with_reducible rfl
            rotate_left
            ·simp only [Act.put, List.setIfInBounds_toArray, List.set_cons_zero, List.set_cons_succ, i64_w, i32_w]
             rfl
            refine pure_ (i := 5) (N := some 48) (v := ?_) (a' := ?_) #[true, false, true, true, true, true, false, false, false, false, false, false, false, false] rfl rfl (any_of HT_.out (by kernel_rfl)) (fun _ _ _ h => h) (Or.inl ⟨by rfl, ?_⟩) ?_ ?_
            rotate_left
            ·intro w'
             go_simp
             with_reducible rfl
            rotate_left
            ·simp only [Act.put, List.setIfInBounds_toArray, List.set_cons_zero, List.set_cons_succ, i64_w, i32_w]
             rfl
            refine pure_ (i := 6) (N := some 49) (v := ?_) (a' := ?_) #[true, false, true, true, true, true, true, false, false, false, false, false, false, false] rfl rfl (any_of HT_.out (by kernel_rfl)) (fun _ _ _ h => h) (Or.inl ⟨by rfl, ?_⟩) ?_ ?_
            rotate_left
            ·intro w'
             go_simp
             with_reducible rfl
            rotate_left
            ·simp only [Act.put, List.setIfInBounds_toArray, List.set_cons_zero, List.set_cons_succ, i64_w, i32_w]
             rfl
            refine take_ (i := 1) (N := some 44) (v := ?_) (a' := ?_) #[true, true, true, true, true, true, true, false, false, false, false, false, false, false] rfl rfl (take_ofW HT_.out HW_.out (by kernel_rfl)) (fun _ _ _ h => h) (Or.inl ⟨by rfl, ?_⟩) hHeld ?_ ?_
            rotate_left
            ·rintro w' ⟨s0, s1, s2⟩
             go_simp
             with_reducible rfl
            rotate_left
            ·simp only [Act.put, List.setIfInBounds_toArray, List.set_cons_zero, List.set_cons_succ, i64_w, i32_w]
             rfl
            refine one_ (i := 7) (N := some 50) #[true, true, true, true, true, true, true, true, false, false, false, false, false, false] rfl rfl (one_of HT_.out (by kernel_rfl)) (by decide) (fun K hK => ?_)
            refine goes_ Tryd.func14 (by kernel_rfl) rfl #[.slice A40 y214.length c40] (by rfl) rfl rfl (by (try simp only [List.map_toArray, List.map_cons, List.map_nil]); first | done | rfl | (simp only [List.length_drop, List.length_take]; rfl)) ?_
            with_reducible refine (logjamlaw26_Own.calls k2 _ _ y214 t218 _ ?side1 ?side2 A36.out).mono ?_
            (case side1 => repeat (first | exact (Kd.C_below HR217.out HB.out) | (with_reducible refine Kd.C_alloc ?_ _) | (with_reducible refine Kd.C_drewN ?_ _) | (with_reducible refine Kd.C_drew ?_)))
            (case side2 => exact HC217.out)
            rintro e w41 ⟨v219, rfl, ho0, hb⟩
            refine ⟨_, rfl, ?_⟩
            have n0_ := Aside0.mk (Kd.R_below (by (with_reducible repeat (first | apply Kd.R_alloc | apply Kd.R_drewN | apply Kd.R_drew)); exact HO_210001.out) hb)
            have n1_ := Aside0.mk (Kd.N_elder' (by (with_reducible repeat (first | apply Kd.N_alloc | apply Kd.N_drewN | apply Kd.N_drew)); exact HO_210002.out) (Kd.R_base ho0) hb)
            have n2_ := Aside0.mk (Kd.N_lower (Kd.N_mono (ok' := fun k_ => (w.heap.size ≤ k_) ∧ some k_ ≠ (u210001 : Value).ownBlock ∧ some k_ ≠ (u210002 : Value).ownBlock ∧ k_ ≠ gb207 ∧ k_ ≠ gb208 ∧ k_ ≠ gb209) (Kd.R_N (Kd.R_bound ho0)) (fun k_ hk_ => ⟨(Nat.le_trans (below_size (by repeat (first | (with_reducible first | exact HB.out | apply below_alloc | apply pw_below_drewN | apply below_drew1 | refine below_set ?_ GE207.out | refine below_set ?_ GE208.out | refine below_set ?_ GE209.out) | exact HB.out))) hk_.2.1), (Kd.fresh' (Kd.R_lt (by (with_reducible repeat (first | apply Kd.R_alloc | apply Kd.R_drewN | apply Kd.R_drew)); exact HO_210001.out)) k_ hk_.2.1), (Kd.fresh' (Kd.N_lt (by (with_reducible repeat (first | apply Kd.N_alloc | apply Kd.N_drewN | apply Kd.N_drew)); exact HO_210002.out)) k_ hk_.2.1), (Kd.freshB (g := gb207) (o := .cells #[.int .i64 a0_0, .slice A0_1 l0_1.length c0_1, .slice A0_2 l0_2.length c0_2] 25 (0, 0)) (by (with_reducible repeat (first | refine blk_drewN ?_ _ | refine blk_drew ?_ | refine blk_alloc ?_ _)); exact BK207.out) k_ hk_.2.1), (Kd.freshB (g := gb208) (o := .cells #[.int .i64 0, .slice none 0 0, .slice none 0 0] 25 (0, 0)) (by (with_reducible repeat (first | refine blk_drewN ?_ _ | refine blk_drew ?_ | refine blk_alloc ?_ _)); exact BK208.out) k_ hk_.2.1), (Kd.freshB (g := gb209) (o := .cells #[.int .i64 a0_0, u210001, u210002] 25 (0, 0)) (by (with_reducible repeat (first | refine blk_drewN ?_ _ | refine blk_drew ?_ | refine blk_alloc ?_ _)); exact BK209.out) k_ hk_.2.1)⟩)) (below_size (by repeat (first | (with_reducible first | exact HB.out | apply below_alloc | apply pw_below_drewN | apply below_drew1 | refine below_set ?_ GE207.out | refine below_set ?_ GE208.out | refine below_set ?_ GE209.out) | exact HB.out))))
            have n3_ := Aside0.mk (blk_below (g := gb207) (o := .cells #[.int .i64 a0_0, .slice A0_1 l0_1.length c0_1, .slice A0_2 l0_2.length c0_2] 25 (0, 0)) (by (with_reducible repeat (first | refine blk_drewN ?_ _ | refine blk_drew ?_ | refine blk_alloc ?_ _)); exact BK207.out) hb)
            have n4_ := Aside0.mk (blk_below (g := gb208) (o := .cells #[.int .i64 0, .slice none 0 0, .slice none 0 0] 25 (0, 0)) (by (with_reducible repeat (first | refine blk_drewN ?_ _ | refine blk_drew ?_ | refine blk_alloc ?_ _)); exact BK208.out) hb)
            have n5_ := Aside0.mk (blk_below (g := gb209) (o := .cells #[.int .i64 a0_0, u210001, u210002] 25 (0, 0)) (by (with_reducible repeat (first | refine blk_drewN ?_ _ | refine blk_drew ?_ | refine blk_alloc ?_ _)); exact BK209.out) hb)
            have n6_ := Aside0.mk (below_step (by repeat (first | (with_reducible first | exact HB.out | apply below_alloc | apply pw_below_drewN | apply below_drew1 | refine below_set ?_ GE207.out | refine below_set ?_ GE208.out | refine below_set ?_ GE209.out) | exact HB.out)) hb)
            clear HO_210001; clear HO_210002; clear BK207; clear BK208; clear BK209; clear HB; have HO_210001 := n0_; have HO_210002 := n1_; have HO220 := n2_; have BK207 := n3_; have BK208 := n4_; have BK209 := n5_; have HB := n6_; clear n0_ n1_ n2_ n3_ n4_ n5_ n6_; (try clear hb); (try clear hb2); (try clear hk); (try clear hi); (try clear ho0)
            obtain ⟨Ao42, co42, eo42⟩ := Kd.N_slice HO220.out
            (first | subst eo42 | (injection eo42 with f1_ f2_ f3_; have f4_ := f1_.symm; have f5_ := f3_.symm; clear f1_ f2_ f3_; subst f4_; subst f5_))
            have p221 : 0 ≤ (0 : Int) := (by omega)
            have q221 : 0 < (t218.length : Int) := of_decide_eq_true (by first | (with_reducible assumption) | assumption)
            obtain ⟨ad221, A221_1, c221_1, e221, hx221_0, hx221_1, hl221_1, hi221_1⟩ := at_T92 (Kd.N_reads' HO220.out).2.2 0 p221 q221
            cases e221
            obtain ⟨ce221, hce221, hMe221, hcc221⟩ := Kd.N_get HO220.out z92 0 p221 (by first | exact q221 | exact of_decide_eq_true (by first | (with_reducible assumption) | assumption) | (have e_ := (Kd.N_reads' HO220.out).1; omega))
            obtain ⟨ua221_1, uc221_1, rfl, ul221_1, ge221_1⟩ := k92_openF hMe221
            have hv221_1 := hcc221 1 _ rfl
            rw [add_field _ _ 1 (by omega)] at hv221_1
            replace hv221_1 := Option.some.inj (hv221_1.symm.trans hx221_1)
            injection hv221_1 with hva_ hvn_ hvc_
            rw [hva_] at ge221_1
            rw [hvc_] at ul221_1
            have HL221_1 := Aside0.mk (show Kd.V (Kd.slice 96 k96) 93 _ w.heap.size _ _ ((rd_T92 t218 0).f1) from Kd.V_mk ul221_1 ge221_1)
            clear hva_ hvn_ hvc_ ge221_1 ul221_1; clear hcc221 hce221
            have qi221 : (0 < t218.length) = True := eq_true (by omega)
            (try rw [show ((0 : Int)).toNat = 0 from rfl] at hx221_0)
            (try rw [show 0 * 2 = 0 from rfl] at hx221_0)
            (try rw [Addr.add_zero'] at hx221_0)
            (try rw [show ((0 : Int)).toNat = 0 from rfl] at hx221_1)
            (try rw [show 0 * 2 = 0 from rfl] at hx221_1)
            (try rw [Addr.add_zero'] at hx221_1)
            have HR221_1 := Aside0.mk hi221_1
            have HC221_1 := Aside0.mk hl221_1
            clear hi221_1 hl221_1
            replace p221 := eq_true p221
            replace q221 := eq_true q221
            refine hK.out _ _ ⟨(blk_cell BK209.out 0).trans rfl, (blk_cell BK209.out 1).trans rfl, (blk_cell BK209.out 2).trans rfl⟩ (fun hHeld => ?_)
            clear hK K
            refine norm_ (a' := ?_) ?_ ?_
            rotate_left
            ·show Act.put _ (some 50) _ = _
             simp only [Act.put, List.setIfInBounds_toArray, List.set_cons_zero, List.set_cons_succ, i64_w, i32_w]
             rfl
            refine pure_ (i := 8) (N := some 51) (v := ?_) (a' := ?_) #[true, true, true, true, true, true, true, true, true, false, false, false, false, false] rfl rfl (any_of HT_.out (by kernel_rfl)) (fun _ _ _ h => h) (Or.inl ⟨by rfl, ?_⟩) ?_ ?_
            rotate_left
            ·intro w'
             go_simp
             with_reducible rfl
            rotate_left
            ·simp only [Act.put, List.setIfInBounds_toArray, List.set_cons_zero, List.set_cons_succ, i64_w, i32_w]
             rfl
            refine one_ (i := 9) (N := some 52) #[true, true, true, true, true, true, true, true, true, true, false, false, false, false] rfl rfl (one_of HT_.out (by kernel_rfl)) (by decide) (fun K hK => ?_)
            refine value_ (w1 := ?_) (v := ?_) (by rfl) rfl ?_ ?_
            rotate_left 2
            ·go_simp
             constructor
             ·rfl
             ·rfl
            refine hK.out _ _ ⟨hHeld.1, hHeld.2.1, hHeld.2.2⟩ (fun hHeld => ?_)
            clear hK K
            refine norm_ (a' := ?_) ?_ ?_
            rotate_left
            ·show Act.put _ (some 52) _ = _
             simp only [Act.put, List.setIfInBounds_toArray, List.set_cons_zero, List.set_cons_succ, i64_w, i32_w]
             rfl
            refine one_ (i := 10) (N := some 53) #[true, true, true, true, true, true, true, true, true, true, true, false, false, false] rfl rfl (one_of HT_.out (by kernel_rfl)) (by decide) (fun K hK => ?_)
            refine value_ (w1 := ?_) (v := ?_) (by rfl) rfl ?_ ?_
            rotate_left 2
            ·go_simp
             constructor
             ·rfl
             ·rfl
            refine hK.out _ _ ⟨(blk_cell (blk_alloc BK209.out _) 0).trans rfl, (blk_cell (blk_alloc BK209.out _) 1).trans rfl, (blk_cell (blk_alloc BK209.out _) 2).trans rfl⟩ (fun hHeld => ?_)
            clear hK K
            refine norm_ (a' := ?_) ?_ ?_
            rotate_left
            ·show Act.put _ (some 53) _ = _
             simp only [Act.put, List.setIfInBounds_toArray, List.set_cons_zero, List.set_cons_succ, i64_w, i32_w]
             rfl
            refine one_ (i := 11) (N := some 54) #[true, true, true, true, true, true, true, true, true, true, true, true, false, false] rfl rfl (one_of HT_.out (by kernel_rfl)) (by decide) (fun K hK => ?_)
            refine Kd.N_append_step k92 (w0 := w) w.heap.size (by rfl) (.tmp 44) (.tmp 53) 23 92 (.agg #[(.bool false), (.slice none 0 0)]) 32 rfl Tryd.underlying23 info92 rfl (by decide) (by omega) u210002 x210002_2 (⟨(rd_T92 t218 0).f0, (rd_T92 t218 0).f1⟩ : S92) [.bool ((rd_T92 t218 0).f0), .slice A221_1 ((rd_T92 t218 0).f1).length c221_1] (fun k_ => (w.heap.size ≤ k_) ∧ some k_ ≠ (u210001 : Value).ownBlock ∧ some k_ ≠ (.slice (some ad221) t218.length co42 : Value).ownBlock ∧ k_ ≠ gb207 ∧ k_ ≠ gb208 ∧ k_ ≠ gb209) (fun k_ => ((fun k_ => (w.heap.size ≤ k_) ∧ some k_ ≠ (u210001 : Value).ownBlock ∧ some k_ ≠ (.slice (some ad221) t218.length co42 : Value).ownBlock ∧ k_ ≠ gb207 ∧ k_ ≠ gb208 ∧ k_ ≠ gb209)) k_ ∧ some k_ ≠ (u210002 : Value).ownBlock) rfl rfl ?aP (fun _ hk => hk) ?aF ?aO ?aB ?aS ?aL ?_
            (case aP => exact (k92_mkF _ _ (⟨(rd_T92 t218 0).f0, (rd_T92 t218 0).f1⟩ : S92) (Kd.V_reads' (Kd.V_mono (ok' := (fun k_ => ((fun k_ => (w.heap.size ≤ k_) ∧ some k_ ≠ (u210001 : Value).ownBlock ∧ some k_ ≠ (.slice (some ad221) t218.length co42 : Value).ownBlock ∧ k_ ≠ gb207 ∧ k_ ≠ gb208 ∧ k_ ≠ gb209)) k_ ∧ some k_ ≠ (u210002 : Value).ownBlock)) (HL221_1.out) (fun k_ hk => ⟨⟨hk.1.1, ⟨hk.1.2.1, ⟨hk.2, ⟨hk.1.2.2.2.1, ⟨hk.1.2.2.2.2.1, hk.1.2.2.2.2.2⟩⟩⟩⟩⟩, hk.1.2.2.1⟩))).2.1 (Kd.V_F (Kd.V_mono (ok' := (fun k_ => ((fun k_ => (w.heap.size ≤ k_) ∧ some k_ ≠ (u210001 : Value).ownBlock ∧ some k_ ≠ (.slice (some ad221) t218.length co42 : Value).ownBlock ∧ k_ ≠ gb207 ∧ k_ ≠ gb208 ∧ k_ ≠ gb209)) k_ ∧ some k_ ≠ (u210002 : Value).ownBlock)) (HL221_1.out) (fun k_ hk => ⟨⟨hk.1.1, ⟨hk.1.2.1, ⟨hk.2, ⟨hk.1.2.2.2.1, ⟨hk.1.2.2.2.2.1, hk.1.2.2.2.2.2⟩⟩⟩⟩⟩, hk.1.2.2.1⟩)))))
            (case aB => exact (by repeat (first | (with_reducible first | exact HB.out | apply below_alloc | apply pw_below_drewN | apply below_drew1 | refine below_set ?_ GE207.out | refine below_set ?_ GE208.out | refine below_set ?_ GE209.out) | exact HB.out)))
            (case aF => exact (fun k_ hk => ⟨(Nat.le_trans (below_size (by repeat (first | (with_reducible first | exact HB.out | apply below_alloc | apply pw_below_drewN | apply below_drew1 | refine below_set ?_ GE207.out | refine below_set ?_ GE208.out | refine below_set ?_ GE209.out) | exact HB.out))) hk), Kd.fresh' (Kd.R_lt (by (with_reducible repeat (first | apply Kd.R_alloc | apply Kd.R_drewN | apply Kd.R_drew)); exact HO_210001.out)) k_ hk, Kd.fresh' (Kd.N_lt (by (with_reducible repeat (first | apply Kd.N_alloc | apply Kd.N_drewN | apply Kd.N_drew)); exact HO220.out)) k_ hk, Kd.freshB (g := gb207) (o := .cells #[.int .i64 a0_0, .slice A0_1 l0_1.length c0_1, .slice A0_2 l0_2.length c0_2] 25 (0, 0)) (by (with_reducible repeat (first | refine blk_drewN ?_ _ | refine blk_drew ?_ | refine blk_alloc ?_ _)); exact BK207.out) k_ hk, Kd.freshB (g := gb208) (o := .cells #[.int .i64 0, .slice none 0 0, .slice none 0 0] 25 (0, 0)) (by (with_reducible repeat (first | refine blk_drewN ?_ _ | refine blk_drew ?_ | refine blk_alloc ?_ _)); exact BK208.out) k_ hk, Kd.freshB (g := gb209) (o := .cells #[.int .i64 a0_0, u210001, u210002] 25 (0, 0)) (by (with_reducible repeat (first | refine blk_drewN ?_ _ | refine blk_drew ?_ | refine blk_alloc ?_ _)); exact BK209.out) k_ hk⟩))
            (case aO => exact (by (with_reducible repeat (first | apply Kd.N_alloc | apply Kd.N_drewN | apply Kd.N_drew)); exact Kd.N_mono HO_210002.out (fun _ hk => ⟨hk.1.1, ⟨hk.1.2.1, ⟨hk.2, ⟨hk.1.2.2.1, ⟨hk.1.2.2.2.1, hk.1.2.2.2.2⟩⟩⟩⟩⟩)))
            (case aS => exact (below_size (by repeat (first | (with_reducible first | exact HB.out | apply below_alloc | apply pw_below_drewN | apply below_drew1 | refine below_set ?_ GE207.out | refine below_set ?_ GE208.out | refine below_set ?_ GE209.out) | exact HB.out))))
            (case aL => have := LMc38.out; omega)
            intro v223 w43 ho hb hg hat
            rw [← Ny222.out] at ho
            have n0_ := Aside0.mk (Kd.R_over' (by (with_reducible repeat (first | apply Kd.R_alloc | apply Kd.R_drewN | apply Kd.R_drew)); exact HO_210001.out) (Kd.N_typed (by (with_reducible repeat (first | apply Kd.N_alloc | apply Kd.N_drewN | apply Kd.N_drew)); exact HO_210002.out)) (by decide) hg)
            have n1_ := Aside0.mk (blk_grown (g := gb207) (o := .cells #[.int .i64 a0_0, .slice A0_1 l0_1.length c0_1, .slice A0_2 l0_2.length c0_2] 25 (0, 0)) (by (with_reducible repeat (first | refine blk_drewN ?_ _ | refine blk_drew ?_ | refine blk_alloc ?_ _)); exact BK207.out) hg (Kd.N_ne HO_210002.out BK207.out (by decide)))
            have n2_ := Aside0.mk (blk_grown (g := gb208) (o := .cells #[.int .i64 0, .slice none 0 0, .slice none 0 0] 25 (0, 0)) (by (with_reducible repeat (first | refine blk_drewN ?_ _ | refine blk_drew ?_ | refine blk_alloc ?_ _)); exact BK208.out) hg (Kd.N_ne HO_210002.out BK208.out (by decide)))
            have n3_ := Aside0.mk (blk_grown (g := gb209) (o := .cells #[.int .i64 a0_0, u210001, u210002] 25 (0, 0)) (by (with_reducible repeat (first | refine blk_drewN ?_ _ | refine blk_drew ?_ | refine blk_alloc ?_ _)); exact BK209.out) hg (Kd.N_ne HO_210002.out BK209.out (by decide)))
            have n4_ := Aside0.mk (Kd.N_afterv (ok := (fun k_ => (w.heap.size ≤ k_) ∧ some k_ ≠ (u210001 : Value).ownBlock ∧ k_ ≠ gb207 ∧ k_ ≠ gb208 ∧ k_ ≠ gb209)) (by (with_reducible repeat (first | apply Kd.N_alloc | apply Kd.N_drewN | apply Kd.N_drew)); exact Kd.N_mono HO220.out (fun _ hk => ⟨⟨hk.1, ⟨hk.2.1, ⟨hk.2.2.2.1, ⟨hk.2.2.2.2.1, hk.2.2.2.2.2⟩⟩⟩⟩, hk.2.2.1⟩)) hg hat)
            have n5_ := Aside0.mk (Kd.V_afterv (ok := (fun k_ => (w.heap.size ≤ k_) ∧ some k_ ≠ (u210001 : Value).ownBlock ∧ some k_ ≠ (.slice (some ad221) t218.length co42 : Value).ownBlock ∧ k_ ≠ gb207 ∧ k_ ≠ gb208 ∧ k_ ≠ gb209)) (by (with_reducible repeat (first | apply Kd.V_alloc | apply Kd.V_drewN | apply Kd.V_drew)); exact Kd.V_mono HL221_1.out (fun _ hk => ⟨⟨hk.1.1, ⟨hk.1.2.1, ⟨hk.2, ⟨hk.1.2.2.2.1, ⟨hk.1.2.2.2.2.1, hk.1.2.2.2.2.2⟩⟩⟩⟩⟩, hk.1.2.2.1⟩)) hg hat)
            have n6_ := Aside0.mk (hb)
            have n7_ := Aside0.mk (ho)
            clear HO_210001; clear BK207; clear BK208; clear BK209; clear HO220; clear HL221_1; clear HB; clear HO_210002; have HO_210001 := n0_; have BK207 := n1_; have BK208 := n2_; have BK209 := n3_; have HO220 := n4_; have HL221_1 := n5_; have HB := n6_; have HO224 := n7_; clear n0_ n1_ n2_ n3_ n4_ n5_ n6_ n7_; clear ho hb hg hat
            obtain ⟨Ao44, co44, eo44⟩ := Kd.N_slice HO224.out
            (first | subst eo44 | (injection eo44 with f1_ f2_ f3_; have f4_ := f1_.symm; have f5_ := f3_.symm; clear f1_ f2_ f3_; subst f4_; subst f5_))
            refine hK.out _ _ ⟨(blk_cell BK209.out 0).trans rfl, (blk_cell BK209.out 1).trans rfl, (blk_cell BK209.out 2).trans rfl⟩ (fun hHeld => ?_)
            clear hK K
            refine norm_ (a' := ?_) ?_ ?_
            rotate_left
            ·show Act.put _ (some 54) _ = _
             simp only [Act.put, List.setIfInBounds_toArray, List.set_cons_zero, List.set_cons_succ, i64_w, i32_w]
             rfl
            refine pure_ (i := 12) (N := some 55) (v := ?_) (a' := ?_) #[true, true, true, true, true, true, true, true, true, true, true, true, true, false] rfl rfl (any_of HT_.out (by kernel_rfl)) (fun _ _ _ h => h) (Or.inl ⟨by rfl, ?_⟩) ?_ ?_
            rotate_left
            ·intro w'
             go_simp
             with_reducible rfl
            rotate_left
            ·simp only [Act.put, List.setIfInBounds_toArray, List.set_cons_zero, List.set_cons_succ, i64_w, i32_w]
             rfl
            refine last_ (i := 13) (N := none) #[true, true, true, true, true, true, true, true, true, true, true, true, true, true] rfl rfl (one_of HT_.out (by kernel_rfl)) (by decide) (fun K hK => ?_)
            have hs45 : w43.cell? ⟨gb209, 2, none⟩ = some (u210002) := (blk_cell BK209.out 2).trans rfl
            have hfs45 := blk_frozen BK209.out 2
            have hns45_0 := NB207_209.out
            have hns45_1 := NB208_209.out
            have hms45_0 := NB209_207.out
            have hms45_1 := NB209_208.out
            refine skip_ (w1 := ?_) (by rfl) rfl ?_ ?_
            rotate_left
            ·go_simp
             rfl
            refine hK.out _ _ ?_
            clear hK K
            refine done_ (done_of HT_.out (by kernel_rfl)) ?_
            try go_wp2
            go_roundg k2
            case measure => have := HJ1.out; have := HK2.out; omega
            case rel => exact ⟨(wrap64 (x6_2 + 1)), (y222), (.slice Ao44 y222.length co44), (by first | rfl | (simp; done) | (simp only [emptyNe_, emptyEq_]; done) | (simp [*]; done)), H', ⟨by have := HJ1.out; have := HK2.out; omega⟩, ⟨by (with_reducible repeat (first | apply Kd.R_alloc | apply Kd.R_drewN | apply Kd.R_drew)); exact Kd.R_mono (Kd.R_far (p := ⟨gb209, 2, none⟩) (Kd.R_types HO_210001.out BK209.out (by decide)) (fun _ hk => hk.2) (.slice Ao44 y222.length co44)) (fun _ hk => hk.1)⟩, ⟨by (with_reducible repeat (first | apply Kd.N_alloc | apply Kd.N_drewN | apply Kd.N_drew)); exact Kd.N_mono (Kd.N_far (p := ⟨gb209, 2, none⟩) (Kd.N_mono HO224.out (fun k_ hk => (⟨hk, hk.2.2.2.2.2⟩ : _ ∧ k_ ≠ gb209))) (fun _ hk => hk.2) (.slice Ao44 y222.length co44)) (fun _ hk => ⟨hk.1.1, ⟨hk.1.2.1, ⟨hk.1.2.2.2.1, ⟨hk.1.2.2.2.2.1, hk.1.2.2.2.2.2⟩⟩⟩⟩)⟩, ⟨by (with_reducible repeat (first | refine blk_drewN ?_ _ | refine blk_drew ?_ | refine blk_alloc ?_ _)); refine blk_far ?_ NB207_209.out _; (with_reducible repeat (first | refine blk_drewN ?_ _ | refine blk_drew ?_ | refine blk_alloc ?_ _)); exact BK207.out⟩, ⟨by (with_reducible repeat (first | refine blk_drewN ?_ _ | refine blk_drew ?_ | refine blk_alloc ?_ _)); refine blk_far ?_ NB208_209.out _; (with_reducible repeat (first | refine blk_drewN ?_ _ | refine blk_drew ?_ | refine blk_alloc ?_ _)); exact BK208.out⟩, ⟨by (with_reducible repeat (first | refine blk_drewN ?_ _ | refine blk_drew ?_ | refine blk_alloc ?_ _)); refine blk_put (cs := #[.int .i64 a0_0, u210001, u210002]) ?_ 2 _ rfl; (with_reducible repeat (first | refine blk_drewN ?_ _ | refine blk_drew ?_ | refine blk_alloc ?_ _)); exact BK209.out⟩, ⟨by repeat (first | (with_reducible first | exact HB.out | apply below_alloc | apply pw_below_drewN | apply below_drew1 | refine below_set ?_ GE207.out | refine below_set ?_ GE208.out | refine below_set ?_ GE209.out) | exact HB.out)⟩⟩
           ·rw [if_neg c38] at H
            exact absurd H (by simp)
          ·rw [if_neg c37] at H
           exact absurd H (by simp)
         ·rw [if_neg c35] at H
          exact absurd H (by simp)
        ·rw [if_neg c34] at H
         exact absurd H (by simp)
       ·rw [if_neg c33] at H
        exact absurd H (by simp)
      ·rw [if_neg c32] at H
       have c32b0 : decide (x6_2 < 70) = false := decide_eq_false c32
       clear c32
       simp only [Option.some.injEq, Prod.mk.injEq] at H
       obtain ⟨rfl, rfl, rfl⟩ := H
       have hnb46 := NB209_207.out
       have hnc46 := NB207_209.out
       have hnb47 := NB209_208.out
       have hnc47 := NB208_209.out
       have hcz48_0 : wr.cell? ⟨gb209, 0, none⟩ = some (.int .i64 a0_0) := (blk_cell BK209.out 0).trans rfl
       have hcz48_1 : wr.cell? ⟨gb209, 1, none⟩ = some (u210001) := (blk_cell BK209.out 1).trans rfl
       have hcz48_2 : wr.cell? ⟨gb209, 2, none⟩ = some (u210002) := (blk_cell BK209.out 2).trans rfl
       have hfz48_0 := blk_frozen BK209.out 0
       have hfz48_1 := blk_frozen BK209.out 1
       have hfz48_2 := blk_frozen BK209.out 2
       have hnb49 := NB208_207.out
       have hnc49 := NB207_208.out
       have hcz50_0 : wr.cell? ⟨gb208, 0, none⟩ = some (.int .i64 0) := (blk_cell BK208.out 0).trans rfl
       have hcz50_1 : wr.cell? ⟨gb208, 1, none⟩ = some (.slice none 0 0) := (blk_cell BK208.out 1).trans rfl
       have hcz50_2 : wr.cell? ⟨gb208, 2, none⟩ = some (.slice none 0 0) := (blk_cell BK208.out 2).trans rfl
       have hfz50_0 := blk_frozen BK208.out 0
       have hfz50_1 := blk_frozen BK208.out 1
       have hfz50_2 := blk_frozen BK208.out 2
       obtain ⟨Ao51, co51, eo51⟩ := Kd.R_slice HO_210001.out
       subst eo51
       obtain ⟨Ao52, co52, eo52⟩ := Kd.N_slice HO_210002.out
       subst eo52
       go_wp2
       refine bodyPost_ret (results_cell_row rfl _ _ gb208 25 #[.int .i64 a0_0, .slice Ao51 x210001_1.length co51, .slice Ao52 x210002_2.length co52] (0, 0) _ rfl (by (with_reducible repeat (first | refine blk_drewN ?_ _ | refine blk_drew ?_ | refine blk_alloc ?_ _)); refine blk_put (cs := #[.int .i64 a0_0, .slice Ao51 x210001_1.length co51, .slice none 0 0]) ?_ 2 _ rfl; (with_reducible repeat (first | refine blk_drewN ?_ _ | refine blk_drew ?_ | refine blk_alloc ?_ _)); refine blk_put (cs := #[.int .i64 a0_0, .slice none 0 0, .slice none 0 0]) ?_ 1 _ rfl; (with_reducible repeat (first | refine blk_drewN ?_ _ | refine blk_drew ?_ | refine blk_alloc ?_ _)); refine blk_put (cs := #[.int .i64 0, .slice none 0 0, .slice none 0 0]) ?_ 0 _ rfl; (with_reducible repeat (first | refine blk_drewN ?_ _ | refine blk_drew ?_ | refine blk_alloc ?_ _)); exact BK208.out) Tryd.underlying25 rfl (by kernel_rfl)) rfl ?_
       exact ⟨_, _, by first | rfl | (simp [errW_none, errW_some] <;> rfl) | (simp [*, errW_none, errW_some] <;> rfl), by (with_reducible repeat (first | apply Kd.R_alloc | apply Kd.R_drewN | apply Kd.R_drew)); exact Kd.R_mono (Kd.R_far (p := ⟨gb208, 2, none⟩) (Kd.R_far (p := ⟨gb208, 1, none⟩) (Kd.R_far (p := ⟨gb208, 0, none⟩) (Kd.R_types HO_210001.out BK208.out (by decide)) (fun _ hk => hk.2) (.int .i64 a0_0)) (fun _ hk => hk.2) (.slice Ao51 x210001_1.length co51)) (fun _ hk => hk.2) (.slice Ao52 x210002_2.length co52)) (fun _ hk => hk.1), by (with_reducible repeat (first | apply Kd.N_alloc | apply Kd.N_drewN | apply Kd.N_drew)); exact Kd.N_mono (Kd.N_far (p := ⟨gb208, 2, none⟩) (Kd.N_far (p := ⟨gb208, 1, none⟩) (Kd.N_far (p := ⟨gb208, 0, none⟩) (Kd.N_mono HO_210002.out (fun k_ hk => (⟨hk, hk.2.2.2.1⟩ : _ ∧ k_ ≠ gb208))) (fun _ hk => hk.2) (.int .i64 a0_0)) (fun _ hk => hk.2) (.slice Ao51 x210001_1.length co51)) (fun _ hk => hk.2) (.slice Ao52 x210002_2.length co52)) (fun _ hk => ⟨hk.1.1, hk.1.2.1⟩), by repeat (first | (with_reducible first | exact HB.out | apply below_alloc | apply pw_below_drewN | apply below_drew1 | refine below_set ?_ GE207.out | refine below_set ?_ GE208.out | refine below_set ?_ GE209.out) | exact HB.out)⟩
     ·rw [if_neg c31] at H
      have c31b0 : decide (x6_2 < (l0_2.length : Int)) = false := decide_eq_false c31
      clear c31
      simp only [Option.some.injEq, Prod.mk.injEq] at H
      obtain ⟨rfl, rfl, rfl⟩ := H
      have hnb53 := NB209_207.out
      have hnc53 := NB207_209.out
      have hnb54 := NB209_208.out
      have hnc54 := NB208_209.out
      have hcz55_0 : wr.cell? ⟨gb209, 0, none⟩ = some (.int .i64 a0_0) := (blk_cell BK209.out 0).trans rfl
      have hcz55_1 : wr.cell? ⟨gb209, 1, none⟩ = some (u210001) := (blk_cell BK209.out 1).trans rfl
      have hcz55_2 : wr.cell? ⟨gb209, 2, none⟩ = some (u210002) := (blk_cell BK209.out 2).trans rfl
      have hfz55_0 := blk_frozen BK209.out 0
      have hfz55_1 := blk_frozen BK209.out 1
      have hfz55_2 := blk_frozen BK209.out 2
      have hnb56 := NB208_207.out
      have hnc56 := NB207_208.out
      have hcz57_0 : wr.cell? ⟨gb208, 0, none⟩ = some (.int .i64 0) := (blk_cell BK208.out 0).trans rfl
      have hcz57_1 : wr.cell? ⟨gb208, 1, none⟩ = some (.slice none 0 0) := (blk_cell BK208.out 1).trans rfl
      have hcz57_2 : wr.cell? ⟨gb208, 2, none⟩ = some (.slice none 0 0) := (blk_cell BK208.out 2).trans rfl
      have hfz57_0 := blk_frozen BK208.out 0
      have hfz57_1 := blk_frozen BK208.out 1
      have hfz57_2 := blk_frozen BK208.out 2
      obtain ⟨Ao58, co58, eo58⟩ := Kd.R_slice HO_210001.out
      subst eo58
      obtain ⟨Ao59, co59, eo59⟩ := Kd.N_slice HO_210002.out
      subst eo59
      go_wp2
      refine bodyPost_ret (results_cell_row rfl _ _ gb208 25 #[.int .i64 a0_0, .slice Ao58 x210001_1.length co58, .slice Ao59 x210002_2.length co59] (0, 0) _ rfl (by (with_reducible repeat (first | refine blk_drewN ?_ _ | refine blk_drew ?_ | refine blk_alloc ?_ _)); refine blk_put (cs := #[.int .i64 a0_0, .slice Ao58 x210001_1.length co58, .slice none 0 0]) ?_ 2 _ rfl; (with_reducible repeat (first | refine blk_drewN ?_ _ | refine blk_drew ?_ | refine blk_alloc ?_ _)); refine blk_put (cs := #[.int .i64 a0_0, .slice none 0 0, .slice none 0 0]) ?_ 1 _ rfl; (with_reducible repeat (first | refine blk_drewN ?_ _ | refine blk_drew ?_ | refine blk_alloc ?_ _)); refine blk_put (cs := #[.int .i64 0, .slice none 0 0, .slice none 0 0]) ?_ 0 _ rfl; (with_reducible repeat (first | refine blk_drewN ?_ _ | refine blk_drew ?_ | refine blk_alloc ?_ _)); exact BK208.out) Tryd.underlying25 rfl (by kernel_rfl)) rfl ?_
      exact ⟨_, _, by first | rfl | (simp [errW_none, errW_some] <;> rfl) | (simp [*, errW_none, errW_some] <;> rfl), by (with_reducible repeat (first | apply Kd.R_alloc | apply Kd.R_drewN | apply Kd.R_drew)); exact Kd.R_mono (Kd.R_far (p := ⟨gb208, 2, none⟩) (Kd.R_far (p := ⟨gb208, 1, none⟩) (Kd.R_far (p := ⟨gb208, 0, none⟩) (Kd.R_types HO_210001.out BK208.out (by decide)) (fun _ hk => hk.2) (.int .i64 a0_0)) (fun _ hk => hk.2) (.slice Ao58 x210001_1.length co58)) (fun _ hk => hk.2) (.slice Ao59 x210002_2.length co59)) (fun _ hk => hk.1), by (with_reducible repeat (first | apply Kd.N_alloc | apply Kd.N_drewN | apply Kd.N_drew)); exact Kd.N_mono (Kd.N_far (p := ⟨gb208, 2, none⟩) (Kd.N_far (p := ⟨gb208, 1, none⟩) (Kd.N_far (p := ⟨gb208, 0, none⟩) (Kd.N_mono HO_210002.out (fun k_ hk => (⟨hk, hk.2.2.2.1⟩ : _ ∧ k_ ≠ gb208))) (fun _ hk => hk.2) (.int .i64 a0_0)) (fun _ hk => hk.2) (.slice Ao58 x210001_1.length co58)) (fun _ hk => hk.2) (.slice Ao59 x210002_2.length co59)) (fun _ hk => ⟨hk.1.1, hk.1.2.1⟩), by repeat (first | (with_reducible first | exact HB.out | apply below_alloc | apply pw_below_drewN | apply below_drew1 | refine below_set ?_ GE207.out | refine below_set ?_ GE208.out | refine below_set ?_ GE209.out) | exact HB.out)⟩
end Go.Proofs.YtadepdeckapgcaaDoor.PRp
end

section
namespace Go.Proofs.YtadepdeckapgcaaDoor.Orc
open Go.RowKit Go.Proofs.YtadepdeckapgcaaDoorW.PrintWords
set_option linter.unusedVariables false
set_option linter.unusedSimpArgs false
def IsB (B b : Nat) (L : List UInt8) (w : World) : Prop := Lib.IsBuilder 125 5 B b (Lib.byteCells L) w
theorem IsB.below {B b : Nat} {L : List UInt8} {w w' : World} (h : IsB B b L w) (hb : Below w.heap.size w w') : IsB B b L w' := by
  have key : ∀ p : Value, Lib.BuilderAt 125 5 B b p (Lib.byteCells L) w → Lib.BuilderAt 125 5 B b p (Lib.byteCells L) w' := by
    intro p hp
    have hlt := hp.lt
    obtain ⟨hB, v, hv, ho, hn⟩ := hp
    exact ⟨hB, v, by rw [hb.block b hlt]; exact hv, pw_own_below ho hb, hn⟩
  rcases h with h | h
  · exact .inl (key _ h)
  · exact .inr (key _ h)
theorem IsB.lt {B b : Nat} {L : List UInt8} {w : World} (h : IsB B b L w) : b < w.heap.size := by
  rcases h with h | h
  · exact h.lt
  · exact h.lt
theorem IsB.fresh (w : World) : IsB w.heap.size w.heap.size [] (w.alloc (.cells #[.pointer none, .slice none 0 0] 125)) := Lib.fresh_isBuilder _ _ w
theorem bWrite (B b : Nat) (L : List UInt8) (s : ByteArray) (w : World) (h : IsB B b L w) (hlen : L.length + s.size ≤ 140737488355328) (hBw : B ≤ w.heap.size) :
    Calls Tryd.prog 81 #[.pointer (some ⟨b, 0, none⟩), .string s] w fun e w' => e = .returned (.tuple #[.int .i64 s.size, .nilIface]) ∧ IsB B b (L ++ s.data.toList) w' ∧ Below B w w' := by
  refine (Any.Builder_WriteString (ρ := Tryd.lays156_ren) { Tryd.lays156 with } Tryd.Builder_Extra_156 B b (Lib.byteCells L) s w h (by simpa [Lib.byteCells] using hlen) hBw).mono ?_
  rintro e w' ⟨rfl, h1, h2⟩
  refine ⟨rfl, .inr ?_, h2⟩
  have : Lib.byteCells (L ++ s.data.toList) = Lib.byteCells L ++ Lib.strCells s := by simp [Lib.byteCells, Lib.strCells]
  rw [this]; exact h1
theorem bString (B b : Nat) (L : List UInt8) (w : World) (h : IsB B b L w) (hBw : B ≤ w.heap.size) :
    Calls Tryd.prog 84 #[.pointer (some ⟨b, 0, none⟩)] w fun e w' => e = .returned (.string ⟨L.toArray⟩) ∧ Below B w w' :=
  Tryd.Builder_String_any B b L w h hBw
end Go.Proofs.YtadepdeckapgcaaDoor.Orc
end

section
namespace Go.Proofs.YtadepdeckapgcaaDoor.Rp
open Go.RowKit Go.Proofs.YtadepdeckapgcaaDoorW.PrintWords Go.Proofs.YtadepdeckapgcaaDoorW.PrintLast Go.Proofs.YtadepdeckapgcaaDoorW.PrintMore Go.Proofs.YtadepdeckapgcaaDoor.PRp Go.Proofs.YtadepdeckapgcaaDoor.Orc
set_option linter.unusedVariables false
set_option linter.unusedSimpArgs false
theorem C_len {α : Type} {d : Kd α} {w : World} {A : Option Addr} {n : Nat} {xs : List α} (h : Kd.C d w A n xs) : xs.length = n ∧ n ≤ Rc.MX := ⟨h.1, h.2.1⟩
theorem C_each {α : Type} {d : Kd α} {w : World} {A : Option Addr} {n : Nat} {xs : List α} (h : Kd.C d w A n xs) (x : α) (hx : x ∈ xs) : ∃ c, d.K w x c := by
  obtain ⟨j, hj, rfl⟩ := List.getElem_of_mem hx
  obtain ⟨ad, _, hc⟩ := h.2.2 (by have := h.1; omega)
  obtain ⟨c, _, hK, _⟩ := hc j _ (List.getElem?_eq_getElem hj)
  exact ⟨c, hK⟩
theorem bw_of {w : World} {A : Option Addr} {n : Nat} {xs : List S96} (h : Kd.C k96 w A n xs) : Rc.Bw xs := by
  refine ⟨by have := C_len h; omega, fun m hm => ?_⟩
  obtain ⟨c, hK⟩ := C_each h m hm
  obtain ⟨A1, c1, _, _, hC⟩ := k96_open hK
  exact (C_len hC).2
theorem bws_of {w : World} {A : Option Addr} {n : Nat} {xs : List (List S96)} (h : Kd.C (Kd.slice 96 k96) w A n xs) : Rc.Bws xs := by
  refine ⟨by have := C_len h; omega, fun m hm => ?_⟩
  obtain ⟨c, A1, c1, _, _, hC⟩ := C_each h m hm
  exact bw_of hC
theorem bns_of {w : World} {A : Option Addr} {n : Nat} {xs : List S92} (h : Kd.C k92 w A n xs) : Rc.Bns xs := by
  refine ⟨by have := C_len h; omega, fun m hm => ?_⟩
  obtain ⟨c, hK⟩ := C_each h m hm
  obtain ⟨A1, c1, _, _, hC⟩ := k92_open hK
  exact bws_of hC
theorem rdCheck (w : World) (T : Int) (A1 : Option Addr) (c1 : Nat) (d : List Int) (A2 : Option Addr) (c2 : Nat) (n : List S92) (h1 : Kd.C (Kd.int .i64) w A1 d.length d) (h2 : d.length ≤ c1) (h3 : Kd.C k92 w A2 n.length n) (h4 : n.length ≤ c2) :
    Calls Tryd.prog 40 #[.agg #[.int .i64 T, .slice A1 d.length c1, .slice A2 n.length c2]] w fun e w' => e = .returned (.int .i64 (Rc.chkR T d n)) ∧ Below w.heap.size w w' := by
  obtain ⟨k, hk⟩ := (Rc.ev_chk T d h1.2.1 n (bns_of h3)).rounds
  exact report_Check.calls k T A1 c1 d A2 c2 n _ w h1 h2 h3 h4 hk
set_option maxRecDepth 100000 in
set_option maxHeartbeats 4000000 in
theorem wTextBad (T : Int) (A1 : Option Addr) (c1 : Nat) (d : List Int) (A2 : Option Addr) (c2 : Nat) (n : List S92) (w : World) (h1 : Kd.C (Kd.int .i64) w A1 d.length d) (h2 : d.length ≤ c1) (h3 : Kd.C k92 w A2 n.length n) (h4 : n.length ≤ c2) (hne : Rc.chkR T d n ≠ 0) :
    Calls Tryd.prog 39 #[.agg #[.int .i64 T, .slice A1 d.length c1, .slice A2 n.length c2]] w fun e w' => e = .returned (.tuple #[.string ⟨#[]⟩, .int .i64 (Rc.chkR T d n)]) ∧ Below w.heap.size w w' := by
  have HC := Lib.hid (fun (w1 : World) (hb : Below w.heap.size w w1) => rdCheck w1 T A1 c1 d A2 c2 n (Kd.C_below h1 hb) h2 (Kd.C_below h3 hb) h4)
  generalize Rc.chkR T d n = e at *
  have he1 : (e == 0) = false := beq_eq_false_iff_ne.2 hne
  have he2 : (e != 0) = true := bne_iff_ne.2 hne
  have hb0 : Hid (∀ o, Below w.heap.size w (w.alloc o)) := Lib.hid (fun o => (Below.refl _ _).alloc (Nat.le_refl _) _)
  clear h1 h3 hne
  go_enter Tryd.func39, Tryd.ntmps39
  go_wp2_with (go_at_call 40; refine (HC.out _ (hb0.out _)).mono ?_; rintro e w1 ⟨rfl, hb1⟩)
  go_ret2
  exact ⟨rfl, (hb0.out _).trans (hb1.mono (by simp))⟩
def TxRel (w1 : World) (T : Int) (d : List Int) (n : List S92) (j : Nat) (L : List UInt8) (wr : World) : Prop :=
  L ++ (bodyL (d.drop j) (n.drop j) ++ [101, 110, 100, 10]) = textL T d n ∧ IsB w1.heap.size w1.heap.size L wr ∧ Below w1.heap.size w1 wr
def TyRel (w1 : World) (T : Int) (d : List Int) (n : List S92) (j : Nat) (ws : List (List S96)) (m : Nat) (L : List UInt8) (wr : World) : Prop :=
  L ++ (waysL (ws.drop m) ++ (bodyL (d.drop (j + 1)) (n.drop (j + 1)) ++ [101, 110, 100, 10])) = textL T d n ∧ IsB w1.heap.size w1.heap.size L wr ∧ Below w1.heap.size w1 wr
set_option maxRecDepth 100000 in
set_option maxHeartbeats 4000000 in
theorem wTextGood (T : Int) (A1 : Option Addr) (c1 : Nat) (d : List Int) (A2 : Option Addr) (c2 : Nat) (n : List S92) (w : World) (h1 : Kd.C (Kd.int .i64) w A1 d.length d) (h2 : d.length ≤ c1) (h3 : Kd.C k92 w A2 n.length n) (h4 : n.length ≤ c2) (h0 : Rc.chkR T d n = 0) (hG : Gl w) :
    Calls Tryd.prog 39 #[.agg #[.int .i64 T, .slice A1 d.length c1, .slice A2 n.length c2]] w fun e w' => e = .returned (.tuple #[.string ⟨(textL T d n).toArray⟩, .int .i64 0]) ∧ Below w.heap.size w w' := by
  have HC := Lib.hid (fun (w1 : World) (hb : Below w.heap.size w w1) => rdCheck w1 T A1 c1 d A2 c2 n (Kd.C_below h1 hb) h2 (Kd.C_below h3 hb) h4)
  have HOK := Lib.hid (chkR_ok h0)
  rw [h0] at HC
  have hb0 : Hid (∀ o, Below w.heap.size w (w.alloc o)) := Lib.hid (fun o => (Below.refl _ _).alloc (Nat.le_refl _) _)
  have HX0 : Hid (Blk (w.alloc (.cells #[.int .i64 T, .slice A1 d.length c1, .slice A2 n.length c2] 25)) w.heap.size #[.int .i64 T, .slice A1 d.length c1, .slice A2 n.length c2] 25) := Lib.hid (Blk.new _ _ _)
  have H1 := Lib.hid h1; have H3 := Lib.hid h3; have HG := Lib.hid hG
  clear h1 h3 h0 hG
  go_enter Tryd.func39, Tryd.ntmps39
  go_wp2_with fail
  refine (HC.out _ (hb0.out _)).mono ?_
  rintro e w1 ⟨rfl, hb1⟩
  have HX : Hid (Blk w1 w.heap.size #[.int .i64 T, .slice A1 d.length c1, .slice A2 n.length c2] 25) := Lib.hid ((hb1.block _ HX0.out.lt).trans HX0.out)
  have HB := Lib.hid ((hb0.out (.cells #[.int .i64 T, .slice A1 d.length c1, .slice A2 n.length c2] 25)).trans (hb1.mono (by simp)))
  clear hb1 HC HX0 hb0
  have hIB := Lib.hid (IsB.fresh w1)
  have hB1 : Hid (∀ o, Below w1.heap.size w1 (w1.alloc o)) := Lib.hid (fun o => (Below.refl _ _).alloc (Nat.le_refl _) _)
  have hxl := HX.out.lt
  have x0 := HX.out.cell 0; have x1 := HX.out.cell 1; have x2 := HX.out.cell 2
  simp at x0 x1 x2
  have hT : in64 T := by have := HOK.out.t0; have := HOK.out.t1; unfold in64; omega
  have hTs := itB_size T hT
  have s1 : 7 + (itB T).size ≤ 9223372036854775807 := by omega
  have s2 : 7 + (itB T).size + 1 ≤ 9223372036854775807 := by omega
  have HG1 := Lib.hid (fun o => HG.out.below (HB.out.trans ((hB1.out o).mono HB.out.size)))
  have HSZ : Hid (((sReport ++ itB T) ++ sNl).size = 7 + (itB T).size + 1) := Lib.hid (by rw [ByteArray.size_append, ByteArray.size_append]; rfl)
  go_wp2_with (first | (go_at_call 82; refine (o_Itoa.calls T (itB T) _ (itoa_some T hT) (HG1.out _)).mono ?_; rintro e w2 ⟨rfl, hb2⟩; have HB2 := Lib.hid hb2; clear hb2) | (have hqa := HB2; go_at_call 81; refine (bWrite w1.heap.size w1.heap.size [] ((sReport ++ itB T) ++ sNl) _ (hIB.out.below HB2.out) ?cb ?cc).mono ?_; (case cb => rw [HSZ.out]; simp; omega); (case cc => exact Nat.le_trans (by simp) HB2.out.size); rintro e w3 ⟨rfl, hi3, hb3⟩; have HI3 := Lib.hid hi3; have HB3 : Hid (Below w1.heap.size w1 w3) := Lib.hid (((hB1.out _).trans (HB2.out.mono (by simp))).trans hb3); have HX3 : Hid (Blk w3 w.heap.size #[.int .i64 T, .slice A1 d.length c1, .slice A2 n.length c2] 25) := Lib.hid ((HB3.out.block _ hxl).trans HX.out); have x1 := HX3.out.cell 1; simp at x1; clear hi3 hb3 hqa))
  clear x0 x1 x2
  have hdl := HOK.out.dl
  have HNL := Lib.hid HOK.out.len
  go_loopw [24] (fun i wr => ∃ (j : Nat) (L : List UInt8), j ≤ d.length ∧ i = .int .i64 j ∧ Hid (TxRel w1 T d n j L wr)) (fun i _ => d.length - (intOf i).toNat)
  case atStart => exact ⟨0, _, Nat.zero_le _, rfl, Lib.hid ⟨by unfold textL; simp, HI3.out, HB3.out⟩⟩
  case round =>
    obtain ⟨j, L, hj, rfl, HT⟩ := hrel
    obtain ⟨hT1, hI, hBw⟩ := HT.out
    have HIr := Lib.hid hI; have HBr := Lib.hid hBw
    by_cases hlt : j < d.length
    · have hlt2 : j < n.length := by have := HNL.out; omega
      obtain ⟨ad, eA, hx0⟩ := Kd.at_int H1.out (j : Int) (by omega) (by omega)
      obtain ⟨ad2, A3, c3, eA2, _, hx1, hc3, hC3⟩ := at_T92 H3.out (j : Int) (by omega) (by omega)
      cases eA; cases eA2
      have hrd : rd d (j : Int) = d[j] := by unfold rd; simp [hlt]
      have hrn : rd_T92 n (j : Int) = n[j] := by unfold rd_T92; simp [hlt2]
      rw [hrd] at hx0; rw [hrn] at hx1 hc3 hC3
      simp only [Int.toNat_natCast] at hx0 hx1
      have hdt := HOK.out.d _ (List.getElem_mem hlt)
      have hnx := HOK.out.n _ (List.getElem_mem hlt2)
      rw [List.drop_eq_getElem_cons hlt, List.drop_eq_getElem_cons hlt2] at hT1
      simp only [bodyL] at hT1
      generalize d[j] = t at hx0 hdt hT1
      generalize n[j] = x at hx1 hc3 hC3 hnx hT1
      have hCC := Lib.hid (fun (w' : World) (hb : Below w1.heap.size w1 w') => (Kd.C_below (Kd.C_below hC3 HB.out) hb))
      have lt0 := World.block_lt_of_cell? w _ hx0
      have lt1 := World.block_lt_of_cell? w _ hx1
      have hy1 := (HB.out.cell lt1).trans hx1
      replace hx0 := (hBw.cell (Nat.lt_of_lt_of_le lt0 HB.out.size)).trans ((HB.out.cell lt0).trans hx0)
      have t64 : in64 t := by unfold in64; omega
      have htz := itB_size t t64
      have s3 : 7 + (itB t).size ≤ 9223372036854775807 := by omega
      have s4 : 7 + (itB t).size + 1 ≤ 9223372036854775807 := by omega
      have HGr := Lib.hid (HG.out.below (HB.out.trans (hBw.mono HB.out.size)))
      have HSZ2 : Hid (((sThread ++ itB t) ++ sNl).size = 7 + (itB t).size + 1) := Lib.hid (by rw [ByteArray.size_append, ByteArray.size_append]; rfl)
      have hlen := textL_len HOK.out
      rw [← hT1] at hlen
      simp only [List.length_append] at hlen
      have hw1 : L.length + (7 + (itB t).size + 1) ≤ 140737488355328 := by rw [show ((sThread ++ itB t) ++ sNl).data.toList.length = 7 + (itB t).size + 1 by rw [← Lib.size_eq]; exact HSZ2.out] at hlen; omega
      have lt2 := Nat.lt_of_lt_of_le lt1 HB.out.size
      have HTx : Hid ((L ++ ((sThread ++ itB t) ++ sNl).data.toList) ++ (waysL x.f1 ++ (bodyL (d.drop (j + 1)) (n.drop (j + 1)) ++ [101, 110, 100, 10])) = textL T d n) := Lib.hid (by rw [← hT1]; simp)
      have HNX := Lib.hid hnx
      clear hrd hrn hT1 hI hBw hC3 hx1 hlen lt0 lt1 hdt hnx
      go_wp2_with (first | (go_at_call 82; refine (o_Itoa.calls t (itB t) _ (itoa_some t t64) HGr.out).mono ?_; rintro e w4 ⟨rfl, hb4⟩; have HB4 := Lib.hid hb4; clear hb4) | (have hqa := HB4; go_at_call 81; refine (bWrite w1.heap.size w1.heap.size L ((sThread ++ itB t) ++ sNl) _ (HIr.out.below HB4.out) ?cb ?cc).mono ?_; (case cb => rw [HSZ2.out]; exact hw1); (case cc => exact Nat.le_trans HBr.out.size HB4.out.size); rintro e w5 ⟨rfl, hi5, hb5⟩; have HI5 := Lib.hid hi5; have HB5 : Hid (Below w1.heap.size w1 w5) := Lib.hid ((HBr.out.trans (HB4.out.mono HBr.out.size)).trans hb5); have HX5 : Hid (Blk w5 w.heap.size #[.int .i64 T, .slice (some ad) d.length c1, .slice (some ad2) n.length c2] 25) := Lib.hid ((HB5.out.block _ hxl).trans HX.out); have y2 := HX5.out.cell 2; simp at y2; have y3 := (HB5.out.cell (p := ⟨(ad2.add (j * 2)).block, (ad2.add (j * 2)).off + 1, none⟩) lt2).trans hy1; clear hi5 hb5 hqa))
      have HTy0 : Hid (TyRel w1 T d n j x.f1 0 (L ++ ((sThread ++ itB t) ++ sNl).data.toList) w5) := Lib.hid ⟨by rw [List.drop_zero]; exact HTx.out, HI5.out, HB5.out⟩
      clear HTx HI5 HB5 HX5 y2 y3 HB4 HIr HBr HGr HSZ2 s3 s4 hw1 hx0 hy1 htz t64
      go_loopw [41] (fun i wi => ∃ (m : Nat) (L : List UInt8), m ≤ x.f1.length ∧ i = .int .i64 m ∧ Hid (TyRel w1 T d n j x.f1 m L wi)) (fun i _ => x.f1.length - (intOf i).toNat)
      case atStart => exact ⟨0, _, Nat.zero_le _, rfl, HTy0⟩
      case round =>
        obtain ⟨m, L2, hm, rfl, HT2⟩ := hrel
        obtain ⟨hT2, hI2, hB2⟩ := HT2.out
        have HI2 := Lib.hid hI2; have HBi := Lib.hid hB2
        have hf4 := HNX.out.2.1
        by_cases hlm : m < x.f1.length
        · obtain ⟨ad4, A4, c4, eA4, hz0, hc4, hC4⟩ := at_L7 (hCC.out _ hB2) (m : Int) (by omega) (by omega)
          cases eA4
          have hr4 : rd_L7 x.f1 (m : Int) = x.f1[m] := by unfold rd_L7; simp [hlm]
          rw [hr4] at hz0 hc4 hC4
          simp only [Int.toNat_natCast] at hz0
          rw [List.drop_eq_getElem_cons hlm] at hT2
          simp only [waysL] at hT2
          have hwok := (HNX.out.2.2 _ (List.getElem_mem hlm)).in_
          generalize x.f1[m] = wy at hz0 hc4 hC4 hT2 hwok
          obtain ⟨kk, hkk⟩ := (way_ev wy hwok).rounds
          have HKK := Lib.hid hkk; have HC4 := Lib.hid hC4
          have hlen := textL_len HOK.out
          rw [← hT2] at hlen
          simp only [List.length_append] at hlen
          have hw2 : L2.length + (wayP wy).size ≤ 140737488355328 := by rw [Lib.size_eq]; omega
          have HGi := Lib.hid (HG.out.below (HB.out.trans (hB2.mono HB.out.size)))
          have HTz : Hid ((L2 ++ (wayP wy).data.toList) ++ (waysL (x.f1.drop (m + 1)) ++ (bodyL (d.drop (j + 1)) (n.drop (j + 1)) ++ [101, 110, 100, 10])) = textL T d n) := Lib.hid (by rw [← hT2]; simp)
          clear hr4 hT2 hI2 hB2 hC4 hlen hkk hwok HT2
          go_wp2_with (first | (go_at_call 83; refine (report_way.calls kk A4 c4 wy (wayP wy) _ HC4.out hc4 HKK.out HGi.out).mono ?_; rintro e w6 ⟨rfl, hb6⟩; have HB6 := Lib.hid hb6; clear hb6) | (have hqb := HB6; go_at_call 81; refine (bWrite w1.heap.size w1.heap.size L2 (wayP wy) _ (HI2.out.below HB6.out) ?cb ?cc).mono ?_; (case cb => exact hw2); (case cc => exact Nat.le_trans HBi.out.size HB6.out.size); rintro e w7 ⟨rfl, hi7, hb7⟩; have HI7 := Lib.hid hi7; have HB7 : Hid (Below w1.heap.size w1 w7) := Lib.hid ((HBi.out.trans (HB6.out.mono HBi.out.size)).trans hb7); clear hi7 hb7 hqb))
          go_roundw
          case rel => exact ⟨m + 1, L2 ++ (wayP wy).data.toList, by omega, by go_num, Lib.hid ⟨HTz.out, HI7.out, HB7.out⟩⟩
          case measure => simp [intOf]; omega
        · rw [List.drop_of_length_le (by omega)] at hT2
          have HTz : Hid (L2 ++ (bodyL (d.drop (j + 1)) (n.drop (j + 1)) ++ [101, 110, 100, 10]) = textL T d n) := Lib.hid (by rw [← hT2]; simp [waysL])
          clear hT2 hI2 hB2 HT2
          go_wp2
          go_roundw
          case rel => exact ⟨j + 1, L2, by omega, by go_num, Lib.hid ⟨HTz.out, HI2.out, HBi.out⟩⟩
          case measure => simp [intOf]; omega
    · have e : d.drop j = [] := List.drop_of_length_le (by omega)
      rw [e] at hT1
      have HTx : Hid (L ++ [101, 110, 100, 10] = textL T d n) := Lib.hid (by simpa [bodyL] using hT1)
      have hlen := textL_len HOK.out
      have hLl : L.length + 4 ≤ 17000000000 := by rw [← HTx.out] at hlen; simpa using hlen
      clear hT1 hI hBw e hlen
      go_wp2_with (first | (go_at_call 81; refine (bWrite w1.heap.size w1.heap.size L (⟨#[101, 110, 100, 10]⟩ : ByteArray) _ HIr.out ?cb ?cc).mono ?_; (case cb => show L.length + 4 ≤ _; omega); (case cc => exact HBr.out.size); rintro e w4 ⟨rfl, hi4, hb4⟩; have HI4 := Lib.hid hi4; have HB4 := Lib.hid hb4; clear hi4 hb4) | (have hqa := HI4; go_at_call 84; refine (bString w1.heap.size w1.heap.size _ _ HI4.out ?cc).mono ?_; (case cc => exact Nat.le_trans HBr.out.size HB4.out.size); rintro e w5 ⟨rfl, hb5⟩; have HB5 := Lib.hid hb5; clear hb5 hqa))
      go_ret2
      have e2 : L ++ (⟨#[101, 110, 100, 10]⟩ : ByteArray).data.toList = textL T d n := HTx.out
      rw [e2]
      exact ⟨rfl, HB.out.trans (((HBr.out.trans HB4.out).trans HB5.out).mono HB.out.size)⟩
end Go.Proofs.YtadepdeckapgcaaDoor.Rp
namespace Go.Proofs.YtadepdeckapgcaaDoor.Orc
open Go.RowKit Go.Proofs.YtadepdeckapgcaaDoorW.PrintWords Go.Proofs.YtadepdeckapgcaaDoorW.PrintLast Go.Proofs.YtadepdeckapgcaaDoorW.PrintMore Go.Proofs.YtadepdeckapgcaaDoor.PRp Go.Proofs.YtadepdeckapgcaaDoor.Rp
def o_RText.f (T : Int) (d : List Int) (n : List S92) : Option (ByteArray × Int) := if Rc.chkR T d n = 0 then some (⟨(textL T d n).toArray⟩, 0) else some (⟨#[]⟩, Rc.chkR T d n)
theorem o_RText.calls (T : Int) (A1 : Option Addr) (c1 : Nat) (d : List Int) (A2 : Option Addr) (c2 : Nat) (n : List S92) (r1 : ByteArray) (r2 : Int) (w : World) (h1 : Kd.C (Kd.int .i64) w A1 d.length d) (h2 : d.length ≤ c1) (h3 : Kd.C k92 w A2 n.length n) (h4 : n.length ≤ c2) (h : o_RText.f T d n = some (r1, r2)) (hG : Gl w) :
    Calls Tryd.prog 39 #[.agg #[.int .i64 T, .slice A1 d.length c1, .slice A2 n.length c2]] w fun e w' => e = .returned (.tuple #[.string r1, .int .i64 r2]) ∧ Below w.heap.size w w' := by
  unfold o_RText.f at h
  split at h
  · rename_i h0
    injection h with h; injection h with e1 e2
    subst e1; subst e2
    exact wTextGood T A1 c1 d A2 c2 n w h1 h2 h3 h4 h0 hG
  · rename_i h0
    injection h with h; injection h with e1 e2
    subst e1; subst e2
    exact wTextBad T A1 c1 d A2 c2 n w h1 h2 h3 h4 h0
end Go.Proofs.YtadepdeckapgcaaDoor.Orc
end

section
namespace Go.Proofs.YtadepdeckapgcaaDoor.Rp
open Go.RowKit Go.Proofs.YtadepdeckapgcaaDoor Go.Proofs.YtadepdeckapgcaaDoor.Rg Go.Proofs.YtadepdeckapgcaaDoorW.PrintWords Go.Proofs.YtadepdeckapgcaaDoorW.PrintLast Go.Proofs.YtadepdeckapgcaaDoorW.PrintMore Go.Proofs.YtadepdeckapgcaaDoor.PRp Go.Proofs.YtadepdeckapgcaaDoor.Orc
set_option linter.unusedVariables false
set_option linter.unusedSimpArgs false
abbrev NNode := S92
abbrev NTerm := S96
abbrev kWay : Kd (List NTerm) := Kd.slice 96 k96
theorem rdAlt (s : ByteArray) (hs : s.size ≤ 1000000) (w : World) (hG : Gl w) : Calls Tryd.prog 128 #[.string s] w fun e w' => ∃ v, e = .returned (.tuple #[v, .bool (altP s).2]) ∧ k96.R 96 w' w.heap.size AnyB v (altP s).1 ∧ Quiet w w' := by
  obtain ⟨k, hk⟩ := (alt_ev s hs).rounds
  exact (report_alt.calls k s (altP s).1 (altP s).2 w hk hG).mono fun e w' ⟨v, he, hr, hb⟩ => ⟨v, he, Kd.S_R hr, Quiet.of hb⟩
theorem rdCP (a b : ByteArray) (w : World) : Calls Tryd.prog 126 #[.string a, .string b] w fun e w' => e = .returned (.tuple #[.string (cpP a b).1, .bool (cpP a b).2]) ∧ w' = w := Tryd.strings_CutPrefix a b w
theorem rdNum (a : ByteArray) (hs : a.size ≤ 1000000) (w : World) (hG : Gl w) : Calls Tryd.prog 127 #[.string a] w fun e w' => e = .returned (.tuple #[.int .i64 (rnumP a).1, .bool (rnumP a).2]) ∧ Quiet w w' :=
  (o_rnumber.calls a (rnumP a).1 (rnumP a).2 w (rnum_some a hs) hG).mono fun e w' ⟨he, hb⟩ => ⟨he, Quiet.of hb⟩
structure RdAt (w : World) (R Y : Nat) (T : Int) (vd vn : Value) (dd : List Int) (nn : List NNode) (wr : World) : Prop where
  r : Blk wr R #[.int .i64 0, .slice none 0 0, .slice none 0 0] 25
  y : Blk wr Y #[.int .i64 T, vd, vn] 25
  od : (Kd.int .i64).R 3 wr w.heap.size AnyB vd dd
  on : Kd.S k92 92 wr w.heap.size AnyB vn nn
  b : Below w.heap.size w wr
section
variable {w : World} {R Y : Nat} {T : Int} {vd vn : Value} {dd : List Int} {nn : List NNode} {wr wz : World}
theorem RdAt.quiet (h : RdAt w R Y T vd vn dd nn wr) (q : Quiet wr wz) : RdAt w R Y T vd vn dd nn wz :=
  ⟨q.blk h.r (fun x => x), q.blk h.y (fun x => x), Kd.R_below h.od (Quiet.bel q), Kd.S_below h.on (Quiet.bel q), below_then h.b h.b.size (Quiet.bel q)⟩
theorem RdAt.setT {T' : Int} (h : RdAt w R Y T vd vn dd nn wr) (hRY : R ≠ Y) (hY : w.heap.size ≤ Y) : RdAt w R Y T' vd vn dd nn (wr.setCell ⟨Y, 0, none⟩ (.int .i64 T')) :=
  ⟨h.r.set_other (by show Y ≠ _; omega) _, by simpa using h.y.set 0 (.int .i64 T'), Kd.R_set h.od h.y (by decide) 0 _, Kd.S_set h.on h.y (by decide) 0 _, h.b.setCell (by show w.heap.size ≤ Y; omega) _⟩
end
structure RdMid (w : World) (R Y : Nat) (T : Int) (vd vn v1 : Value) (de : List Int) (nn : List NNode) (wr : World) : Prop where
  r : Blk wr R #[.int .i64 0, .slice none 0 0, .slice none 0 0] 25
  y : Blk wr Y #[.int .i64 T, vd, vn] 25
  od : (Kd.int .i64).R 3 wr w.heap.size AnyB v1 de
  on : Kd.S k92 92 wr w.heap.size AnyB vn nn
  b : Below w.heap.size w wr
section
variable {w : World} {R Y : Nat} {T : Int} {vd vn v1 v2 : Value} {dd de : List Int} {nn ne : List NNode} {wr wz : World}
theorem RdMid.quiet (h : RdMid w R Y T vd vn v1 de nn wr) (q : Quiet wr wz) : RdMid w R Y T vd vn v1 de nn wz :=
  ⟨q.blk h.r (fun x => x), q.blk h.y (fun x => x), Kd.R_below h.od (Quiet.bel q), Kd.S_below h.on (Quiet.bel q), below_then h.b h.b.size (Quiet.bel q)⟩
theorem RdAt.growD (h : RdAt w R Y T vd vn dd nn wr) (hg : wr.grownBy wz vd.ownBlock) (ho : (Kd.int .i64).R 3 wz w.heap.size AnyB v1 de) : RdMid w R Y T vd vn v1 de nn wz := by
  obtain ⟨inner, own⟩ := Kd.R_own h.od
  exact ⟨grown_blk hg h.r (own_not_blk h.r own (by decide)), grown_blk hg h.y (own_not_blk h.y own (by decide)), ho, Kd.S_over' h.on (Kd.R_typed h.od) (by decide) hg, h.b.grown hg h.b.size (fun k hk => own_base own k hk)⟩
theorem RdMid.growN (h : RdMid w R Y T vd vn v1 de nn wr) (hRY : R ≠ Y) (hY : w.heap.size ≤ Y) (hg : wr.grownBy wz vn.ownBlock) (ho : Kd.S k92 92 wz w.heap.size AnyB v2 ne) :
    RdAt w R Y T v1 v2 de ne ((wz.setCell ⟨Y, 1, none⟩ v1).setCell ⟨Y, 2, none⟩ v2) := by
  obtain ⟨inner, own⟩ := Kd.S_own h.on
  have y2 := grown_blk hg h.y (own_not_blk h.y own (by decide))
  have y3 := y2.set 1 v1
  have o2 := Kd.R_over' h.od (Kd.S_typed h.on) (by decide) hg
  refine ⟨((grown_blk hg h.r (own_not_blk h.r own (by decide))).set_other (by show Y ≠ _; omega) _).set_other (by show Y ≠ _; omega) _, by simpa using y3.set 2 v2, Kd.R_set (Kd.R_set o2 y2 (by decide) 1 v1) y3 (by decide) 2 v2, Kd.S_set (Kd.S_set ho y2 (by decide) 1 v1) y3 (by decide) 2 v2, ?_⟩
  exact ((h.b.grown hg h.b.size (fun k hk => own_base own k hk)).setCell (by show w.heap.size ≤ Y; omega) _).setCell (by show w.heap.size ≤ Y; omega) _
theorem RdAt.ret (h : RdAt w R Y T vd vn dd nn wr) (hRY : R ≠ Y) (hR : w.heap.size ≤ R) :
    Blk (((wr.setCell ⟨R, 0, none⟩ (.int .i64 T)).setCell ⟨R, 1, none⟩ vd).setCell ⟨R, 2, none⟩ vn) R #[.int .i64 T, vd, vn] 25 ∧
      (Kd.int .i64).R 3 (((wr.setCell ⟨R, 0, none⟩ (.int .i64 T)).setCell ⟨R, 1, none⟩ vd).setCell ⟨R, 2, none⟩ vn) w.heap.size AnyB vd dd ∧
      k92.R 92 (((wr.setCell ⟨R, 0, none⟩ (.int .i64 T)).setCell ⟨R, 1, none⟩ vd).setCell ⟨R, 2, none⟩ vn) w.heap.size AnyB vn nn ∧
      Below w.heap.size w (((wr.setCell ⟨R, 0, none⟩ (.int .i64 T)).setCell ⟨R, 1, none⟩ vd).setCell ⟨R, 2, none⟩ vn) := by
  have r1 := h.r.set 0 (.int .i64 T)
  have r2 := r1.set 1 vd
  have r3 := r2.set 2 vn
  refine ⟨by simpa using r3, ?_, ?_, ?_⟩
  · exact Kd.R_set (Kd.R_set (Kd.R_set h.od h.r (by decide) 0 _) r1 (by decide) 1 _) r2 (by decide) 2 _
  · exact Kd.S_R (Kd.S_set (Kd.S_set (Kd.S_set h.on h.r (by decide) 0 _) r1 (by decide) 1 _) r2 (by decide) 2 _)
  · exact ((h.b.setCell (by show w.heap.size ≤ R; exact hR) _).setCell (by show w.heap.size ≤ R; exact hR) _).setCell (by show w.heap.size ≤ R; exact hR) _
theorem RdAt.inner (h : RdAt w R Y T vd vn dd nn wr) {va : Value} {wa : World} {size n base : Nat} {xs : List Value} (own : wr.ownsRow base 93 size va n xs) (hb : w.heap.size ≤ base) (hg : wr.grownBy wa va.ownBlock) {g : Nat} (hvn : vn.ownBlock = some g)
    (hg2 : wa.grownBy wz (some g)) (hon : Kd.S k92 92 wz w.heap.size AnyB vn ne) : RdAt w R Y T vd vn dd ne wz := by
  obtain ⟨inner, ownN⟩ := Kd.S_own h.on
  have ty : ∀ k, va.ownBlock = some k → ∃ cells, wr.heap[k]? = some (.cells cells 93 (0, 0)) := fun k hk => own_typed own k hk
  have r1 := grown_blk hg h.r (own_not_blk h.r own (by decide)); have y1 := grown_blk hg h.y (own_not_blk h.y own (by decide))
  have d1 := Kd.R_over' h.od ty (by decide) hg
  have b1 := h.b.grown hg h.b.size (fun k hk => Nat.le_trans hb (own_base own k hk))
  have hgt : ∃ cells, wa.heap[g]? = some (.cells cells 92 (0, 0)) := by
    obtain ⟨cells, hc⟩ := own_typed ownN g hvn
    have hne : some g ≠ va.ownBlock := fun e => by
      obtain ⟨c2, h2⟩ := ty g e.symm
      rw [hc] at h2
      injection h2 with h2; injection h2 with _ h2
      exact absurd h2 (by decide)
    exact ⟨cells, (hg.block g (own_lt ownN g hvn) hne).trans hc⟩
  obtain ⟨cells, hc⟩ := hgt
  have nb : ∀ {b : Nat} {cs : Array Value}, Blk wa b cs 25 → some b ≠ some g := by
    intro b cs hb' e
    injection e with e; subst e
    rw [Blk, hc] at hb'
    injection hb' with hb'; injection hb' with _ hb'
    exact absurd hb' (by decide)
  refine ⟨grown_blk hg2 r1 (nb r1), grown_blk hg2 y1 (nb y1), ?_, hon, ?_⟩
  · exact Kd.R_over' (v := vn) d1 (fun k hk => by rw [hvn] at hk; injection hk with hk; subst hk; exact ⟨cells, hc⟩) (by decide) (by rw [hvn]; exact hg2)
  · exact b1.grown hg2 b1.size (fun k hk => by injection hk with hk; subst hk; exact own_base ownN _ hvn)
end
end Go.Proofs.YtadepdeckapgcaaDoor.Rp
end

section
namespace Go.Proofs.YtadepdeckapgcaaDoor.Rp
open Go.RowKit Go.Proofs.YtadepdeckapgcaaDoor Go.Proofs.YtadepdeckapgcaaDoor.Rg Go.Proofs.YtadepdeckapgcaaDoorW.PrintWords Go.Proofs.YtadepdeckapgcaaDoorW.PrintLast Go.Proofs.YtadepdeckapgcaaDoorW.PrintMore Go.Proofs.YtadepdeckapgcaaDoor.PRp Go.Proofs.YtadepdeckapgcaaDoor.Orc
set_option linter.unusedVariables false
set_option linter.unusedSimpArgs false
abbrev Bad (l : List ByteArray) : Prop := l.length < 3 ∨ (rdOf ByteArray.empty l ((l.length : Int) - 1)).toList ≠ ([] : List UInt8) ∨ (rdOf ByteArray.empty l ((l.length : Int) - 2)).toList ≠ ([101, 110, 100] : List UInt8)
theorem infoInt : (Tryd.prog.info? 3).map (fun i => (i.zero, i.size, i.bytes)) = some (some (.int .i64 0), 1, 8) := by kernel_rfl
theorem infoNode : (Tryd.prog.info? 92).map (fun i => (i.zero, i.size, i.bytes)) = some (some (.agg #[(.bool false), (.slice none 0 0)]), 2, 32) := by kernel_rfl
theorem infoWay : (Tryd.prog.info? 93).map (fun i => (i.zero, i.size, i.bytes)) = some (some (.slice none 0 0), 1, 24) := by kernel_rfl
theorem rd_size {l : List ByteArray} (hs : ∀ s ∈ l, s.size ≤ 1000000) (i : Int) : (rdOf ByteArray.empty l i).size ≤ 1000000 := by
  unfold rdOf
  rw [List.getD_eq_getElem?_getD]
  cases e : l[i.toNat]? with
  | none => simp
  | some x => exact hs x (List.mem_of_getElem? e)
theorem add_add1 (ad : Addr) (k : Nat) : (ad.add 1).add k = ⟨ad.block, ad.off + 1 + k, none⟩ := by cases k <;> rfl
def RdFork (w : World) (R Y : Nat) (T : Int) (vd vn : Value) (de : List Int) (nn : List NNode) (v89 v93 : Value) (wr : World) : Prop :=
  ∃ (g : Nat) (Ae : Option Addr) (ce : Nat), v89 = .slice Ae de.length ce ∧ v93 = .slice (some ⟨g, 0, none⟩) 1 1 ∧ Blk wr g #[.bool true, .slice none 0 0] 92 ∧ RdMid w R Y T vd vn v89 de nn wr
def RdRel (w : World) (R Y : Nat) (T : Int) (L : List ByteArray) (res : Int × List Int × List NNode × Bool) (i : Value) (wr : World) : Prop :=
  ∃ (k : Nat) (vd vn : Value) (dd : List Int) (nn : List NNode), k ≤ L.length ∧ i = .int .i64 k ∧ RdAt w R Y T vd vn dd nn wr ∧ dd.length ≤ k ∧ nn.length ≤ k ∧ (∀ x ∈ nn, x.f1.length ≤ k) ∧ rdGo T (L.drop k) dd nn = res
set_option maxRecDepth 100000 in
set_option maxHeartbeats 4000000 in
theorem wRead (w : World) (A0 : Option Addr) (c0 : Nat) (l0 : List ByteArray) (hr0 : Kd.C Kd.string w A0 l0.length l0) (hc0 : l0.length ≤ c0) (hs : ∀ s ∈ l0, s.size ≤ 1000000) (hl : l0.length ≤ 1000001) (hG : Gl w) :
    Calls Tryd.prog 88 #[.slice A0 l0.length c0] w fun e w' => ∃ v1 v2, e = .returned (.tuple #[.agg #[.int .i64 (rdP l0).1, v1, v2], .bool (rdP l0).2.2.2]) ∧
      (Kd.int .i64).R 3 w' w.heap.size AnyB v1 (rdP l0).2.1 ∧ k92.R 92 w' w.heap.size AnyB v2 (rdP l0).2.2.1 ∧ Below w.heap.size w w' := by
  have HR0 := Lib.hid hr0; have HS := Lib.hid hs; have HG := Lib.hid hG
  clear hr0 hs hG
  have hRY : w.heap.size ≠ w.heap.size + 1 := by omega
  have hYY : w.heap.size ≤ w.heap.size + 1 := by omega
  have HP0 : Hid (RdAt w w.heap.size (w.heap.size + 1) 0 (.slice none 0 0) (.slice none 0 0) [] [] ((w.alloc (.cells #[.int .i64 0, .slice none 0 0, .slice none 0 0] 25)).alloc (.cells #[.int .i64 0, .slice none 0 0, .slice none 0 0] 25))) := Lib.hid (by
    refine ⟨(Blk.new _ _ _).alloc _, ?_, Kd.R_nil _ _ _ _ _, Kd.S_nil _ _ _ _ _, ((Below.refl _ _).alloc (Nat.le_refl _) _).alloc (by simp) _⟩
    have q := Blk.new (w.alloc (.cells #[.int .i64 0, .slice none 0 0, .slice none 0 0] 25)) #[.int .i64 0, .slice none 0 0, .slice none 0 0] 25
    simpa using q)
  go_enter Tryd.func88, Tryd.ntmps88
  go_upto_region 2 with fail
  generalize (w.alloc (.cells #[.int .i64 0, .slice none 0 0, .slice none 0 0] 25)).alloc (.cells #[.int .i64 0, .slice none 0 0, .slice none 0 0] 25) = w2 at HP0 ⊢
  go_cut [41] (fun v41 wc => ∃ b : Bool, v41 = .bool b ∧ (b = true ↔ Bad l0) ∧ RdAt w w.heap.size (w.heap.size + 1) 0 (.slice none 0 0) (.slice none 0 0) [] [] wc)
  case first =>
    by_cases c1 : l0.length < 2
    · have c1b : decide ((l0.length : Int) < 2) = true := decide_eq_true (by omega)
      go_wp2
      go_meet
      case rel => exact ⟨true, rfl, ⟨fun _ => .inl (by omega), fun _ => rfl⟩, HP0.out⟩
    · have c1b : decide ((l0.length : Int) < 2) = false := decide_eq_false (by omega)
      obtain ⟨j1, hj1⟩ : ∃ j1 : Nat, j1 = l0.length - 1 := ⟨_, rfl⟩
      have hw1 : IntKind.i64.wrap ((l0.length : Int) - 1) = (j1 : Int) := by rw [IntKind.wrap_i64]; omega
      have hb1 : (j1 : Int) < (l0.length : Int) := by omega
      have hb0 : (0 : Int) ≤ (j1 : Int) := by omega
      obtain ⟨ad, hA, z1⟩ := Kd.at_string HR0.out (j1 : Int) hb0 hb1
      replace z1 := (HP0.out.b.cell (World.block_lt_of_cell? w _ z1)).trans z1
      simp only [Int.toNat_natCast] at z1
      have e1 : Hid ((l0.length : Int) - 1 = (j1 : Int)) := Lib.hid (by omega)
      clear hj1
      subst hA
      by_cases c2 : (rdOf ByteArray.empty l0 (j1 : Int)).toList = ([] : List UInt8)
      · have c2b : ((rdOf ByteArray.empty l0 (j1 : Int)).toList == ([] : List UInt8)) = true := beq_iff_eq.mpr c2
        have c2c : ((rdOf ByteArray.empty l0 (j1 : Int)).toList != ([] : List UInt8)) = false := bne_eq_false_iff_eq.mpr c2
        by_cases c3 : l0.length < 3
        · have c3b : decide ((l0.length : Int) < 3) = true := decide_eq_true (by omega)
          have HC2 := Lib.hid c2; clear c2
          go_wp2
          go_meet
          case rel => exact ⟨true, rfl, ⟨fun _ => .inl c3, fun _ => rfl⟩, HP0.out⟩
        · have c3b : decide ((l0.length : Int) < 3) = false := decide_eq_false (by omega)
          obtain ⟨j2, hj2⟩ : ∃ j2 : Nat, j2 = l0.length - 2 := ⟨_, rfl⟩
          have hw2 : IntKind.i64.wrap ((l0.length : Int) - 2) = (j2 : Int) := by rw [IntKind.wrap_i64]; omega
          have hb3 : (j2 : Int) < (l0.length : Int) := by omega
          have hb2 : (0 : Int) ≤ (j2 : Int) := by omega
          obtain ⟨ad2, hA2, z2⟩ := Kd.at_string HR0.out (j2 : Int) hb2 hb3
          injection hA2 with hA2; subst hA2
          replace z2 := (HP0.out.b.cell (World.block_lt_of_cell? w _ z2)).trans z2
          simp only [Int.toNat_natCast] at z2
          have e2 : Hid ((l0.length : Int) - 2 = (j2 : Int)) := Lib.hid (by omega)
          clear hj2
          have HC2 := Lib.hid c2; clear c2
          by_cases c4 : (rdOf ByteArray.empty l0 (j2 : Int)).toList = ([101, 110, 100] : List UInt8)
          · have c4b : ((rdOf ByteArray.empty l0 (j2 : Int)).toList == ([101, 110, 100] : List UInt8)) = true := beq_iff_eq.mpr c4
            have c4c : ((rdOf ByteArray.empty l0 (j2 : Int)).toList != ([101, 110, 100] : List UInt8)) = false := bne_eq_false_iff_eq.mpr c4
            have HC4 := Lib.hid c4; clear c4
            go_wp2
            go_meet
            case rel =>
              refine ⟨false, rfl, ⟨fun h => (Bool.false_ne_true h).elim, fun h => ?_⟩, HP0.out⟩
              rcases h with h | h | h
              · exact absurd h c3
              · rw [e1.out] at h; exact absurd HC2.out h
              · rw [e2.out] at h; exact absurd HC4.out h
          · have c4b : ((rdOf ByteArray.empty l0 (j2 : Int)).toList == ([101, 110, 100] : List UInt8)) = false := beq_eq_false_iff_ne.mpr c4
            have c4c : ((rdOf ByteArray.empty l0 (j2 : Int)).toList != ([101, 110, 100] : List UInt8)) = true := bne_iff_ne.mpr c4
            have HC4 := Lib.hid c4; clear c4
            go_wp2
            go_meet
            case rel => exact ⟨true, rfl, ⟨fun _ => .inr (.inr (by rw [e2.out]; exact HC4.out)), fun _ => rfl⟩, HP0.out⟩
      · have c2b : ((rdOf ByteArray.empty l0 (j1 : Int)).toList == ([] : List UInt8)) = false := beq_eq_false_iff_ne.mpr c2
        have c2c : ((rdOf ByteArray.empty l0 (j1 : Int)).toList != ([] : List UInt8)) = true := bne_iff_ne.mpr c2
        have HC2 := Lib.hid c2; clear c2
        go_wp2
        go_meet
        case rel => exact ⟨true, rfl, ⟨fun _ => .inr (.inl (by rw [e1.out]; exact HC2.out)), fun _ => rfl⟩, HP0.out⟩
  case rest =>
    obtain ⟨b, rfl, hb, hP⟩ := hcut
    have HP := Lib.hid hP
    have y0 := hP.y.cell 0; have y1 := hP.y.cell 1; have y2 := hP.y.cell 2
    have r0 := hP.r.cell 0; have r1 := hP.r.cell 1; have r2 := hP.r.cell 2
    have f0 := hP.r.free 0; have f1 := hP.r.free 1; have f2 := hP.r.free 2
    simp at y0 y1 y2 r0 r1 r2
    have hRR : w.heap.size ≤ w.heap.size := Nat.le_refl _
    clear HP0 hP
    cases b with
    | true =>
      have hbad := hb.1 rfl
      have hrd : rdP l0 = (0, [], [], false) := by unfold rdP; exact if_pos hbad
      have HRD := Lib.hid hrd
      clear hb hbad hrd
      go_wp2
      obtain ⟨q1, q2, q3, q4⟩ := HP.out.ret hRY hRR
      refine bodyPost_ret (results_ct rfl _ _ w.heap.size 25 #[.int .i64 0, .slice none 0 0, .slice none 0 0] (0, 0) _ rfl q1 Tryd.underlying25 rfl (by kernel_rfl)) rfl ?_
      rw [HRD.out]
      exact ⟨_, _, rfl, q2, q3, q4⟩
    | false =>
      have hbad : ¬ Bad l0 := fun h => Bool.false_ne_true (hb.2 h)
      have hn3 : 3 ≤ l0.length := by
        rcases Nat.lt_or_ge l0.length 3 with h | h
        · exact absurd (.inl h) hbad
        · exact h
      have HBad := Lib.hid hbad
      clear hb hbad
      have hp0 : (0 : Int) < (l0.length : Int) := by omega
      obtain ⟨ad, hA, z0w⟩ := Kd.at_string HR0.out 0 (by omega) hp0
      have z0 := (HP.out.b.cell (World.block_lt_of_cell? w _ z0w)).trans z0w
      rw [show ((0 : Int)).toNat = 0 from rfl] at z0
      rw [Addr.add_zero'] at z0
      subst hA
      obtain ⟨s0, hs0⟩ : ∃ s, s = rdOf ByteArray.empty l0 0 := ⟨_, rfl⟩
      have hz0 := rd_size HS.out 0
      rw [← hs0] at z0 hz0
      have HS0 := Lib.hid hs0
      clear hs0 z0w
      have HGw := Lib.hid (HG.out.below HP.out.b)
      have HC1 := Lib.hid (rdCP s0 sReport wc)
      have hcz := cp_size s0 sReport
      obtain ⟨c, hc⟩ : ∃ c, c = cpP s0 sReport := ⟨_, rfl⟩
      rw [← hc] at HC1 hcz
      obtain ⟨t1, b1⟩ := c
      have HCe := Lib.hid hc
      clear hc
      cases b1 with
      | false =>
        have hrd : rdP l0 = (0, [], [], false) := by unfold rdP; rw [if_neg HBad.out, ← HS0.out, ← HCe.out, if_neg Bool.false_ne_true]
        have HRD := Lib.hid hrd
        clear hrd
        go_wp2_with (go_at_call 126; refine HC1.out.mono ?_; rintro e w3 ⟨rfl, rfl⟩)
        obtain ⟨q1, q2, q3, q4⟩ := HP.out.ret hRY hRR
        refine bodyPost_ret (results_ct rfl _ _ w.heap.size 25 #[.int .i64 0, .slice none 0 0, .slice none 0 0] (0, 0) _ rfl q1 Tryd.underlying25 rfl (by kernel_rfl)) rfl ?_
        rw [HRD.out]
        exact ⟨_, _, rfl, q2, q3, q4⟩
      | true =>
        have HC2 := Lib.hid (rdNum t1 (Nat.le_trans hcz hz0) wc HGw.out)
        obtain ⟨c2, hc2⟩ : ∃ c, c = rnumP t1 := ⟨_, rfl⟩
        rw [← hc2] at HC2
        obtain ⟨T, b2⟩ := c2
        have HCe2 := Lib.hid hc2
        clear hc2
        cases b2 with
        | false =>
          have hrd : rdP l0 = (T, [], [], false) := by unfold rdP; rw [if_neg HBad.out, ← HS0.out, ← HCe.out, if_pos rfl]; dsimp only; rw [← HCe2.out, if_neg Bool.false_ne_true]
          have HRD := Lib.hid hrd
          clear hrd
          have yf := HP.out.y.free 0
          clear y0 y1 y2 r0 r1 r2 f0 f1 f2
          go_wp2_with (first | (go_at_call 126; refine HC1.out.mono ?_; rintro e w3 ⟨rfl, rfl⟩) | (have hqq := HC1; go_at_call 127; refine HC2.out.mono ?_; rintro e w4 ⟨rfl, hq4⟩; have HP4 := Lib.hid (HP.out.quiet hq4); have HP5 := Lib.hid (HP4.out.setT (T' := T) hRY hYY); have yc := HP4.out.y.cell 0; have yf4 := HP4.out.y.free 0; have y0 := HP5.out.y.cell 0; have y1 := HP5.out.y.cell 1; have y2 := HP5.out.y.cell 2; have r0 := HP5.out.r.cell 0; have r1 := HP5.out.r.cell 1; have r2 := HP5.out.r.cell 2; have f0 := HP5.out.r.free 0; have f1 := HP5.out.r.free 1; have f2 := HP5.out.r.free 2; simp at yc y0 y1 y2 r0 r1 r2; clear hq4 hqq))
          obtain ⟨q1, q2, q3, q4⟩ := HP5.out.ret hRY hRR
          refine bodyPost_ret (results_ct rfl _ _ w.heap.size 25 #[.int .i64 T, .slice none 0 0, .slice none 0 0] (0, 0) _ rfl q1 Tryd.underlying25 rfl (by kernel_rfl)) rfl ?_
          rw [HRD.out]
          exact ⟨_, _, rfl, q2, q3, q4⟩
        | true =>
          have hrd : rdP l0 = rdGo T ((l0.take (l0.length - 2)).drop 1) [] [] := by unfold rdP; rw [if_neg HBad.out, ← HS0.out, ← HCe.out, if_pos rfl]; dsimp only; rw [← HCe2.out, if_pos rfl]
          obtain ⟨m, hm⟩ : ∃ m, l0.length = m + 3 := ⟨l0.length - 3, by omega⟩
          have hmid := Kd.C_mid (c := c0) HR0.out (lo := 1) (hi := m + 1) (by omega) (by omega) hc0
          rw [if_neg (by omega)] at hmid
          rw [show l0.length - 2 = m + 1 by omega] at hrd
          obtain ⟨L, hL⟩ : ∃ L, L = (l0.take (m + 1)).drop 1 := ⟨_, rfl⟩
          rw [← hL] at hmid hrd
          have hLl : L.length = m := by rw [hL, List.length_drop, List.length_take]; omega
          have HCL : Hid (Kd.C Kd.string w (some (ad.add 1)) L.length L) := Lib.hid hmid
          have hLs : ∀ s ∈ L, s.size ≤ 1000000 := fun s hs => HS.out s (List.mem_of_mem_take (List.mem_of_mem_drop (by rw [hL] at hs; exact hs)))
          have HLs := Lib.hid hLs; have HRD := Lib.hid hrd
          have hwr : IntKind.i64.wrap ((l0.length : Int) - 2) = (m : Int) + 1 := by rw [IntKind.wrap_i64]; omega
          have hn0 : (0 : Int) ≤ (m : Int) + 1 := by omega
          have htn : ((m : Int) + 1).toNat = m + 1 := by omega
          have hcb : (m : Int) + 1 ≤ (c0 : Int) := by omega
          have h11 : (1 : Int) ≤ (m : Int) + 1 := by omega
          have hc01 : ¬ c0 = 1 := by omega
          have hm1 : m ≤ 1000000 := by omega
          have HM := Lib.hid hm; have HLL := Lib.hid hLl
          clear hmid hL hLs hrd hm hLl hn3
          go_wp2_with (first | (go_at_call 126; refine HC1.out.mono ?_; rintro e w3 ⟨rfl, rfl⟩) | (have hqq := HC1; go_at_call 127; refine HC2.out.mono ?_; rintro e w4 ⟨rfl, hq4⟩; have HP4 := Lib.hid (HP.out.quiet hq4); have HP5 := Lib.hid (HP4.out.setT (T' := T) hRY hYY); have yc := HP4.out.y.cell 0; have yf4 := HP4.out.y.free 0; have y0 := HP5.out.y.cell 0; have y1 := HP5.out.y.cell 1; have y2 := HP5.out.y.cell 2; have r0 := HP5.out.r.cell 0; have r1 := HP5.out.r.cell 1; have r2 := HP5.out.r.cell 2; have f0 := HP5.out.r.free 0; have f1 := HP5.out.r.free 1; have f2 := HP5.out.r.free 2; simp at yc y0 y1 y2 r0 r1 r2; clear hq4 hqq))
          clear yc yf4 r0 r1 r2 f0 f1 f2 y0 y1 y2
          generalize w4.setCell ⟨w.heap.size + 1, 0, none⟩ (.int .i64 T) = w5 at *
          go_loopw [67] (fun i wr => RdRel w w.heap.size (w.heap.size + 1) T L (rdP l0) i wr) (fun i _ => m - (intOf i).toNat)
          case atStart => exact ⟨0, _, _, [], [], Nat.zero_le _, rfl, HP5.out, Nat.zero_le _, Nat.zero_le _, by simp, HRD.out.symm⟩
          case round =>
            clear HRD
            obtain ⟨k, vd, vn, dd, nn, hk, rfl, hP, hdk, hnk, hxk, hgo⟩ := hrel
            rw [HLL.out] at hk
            have HP6 := Lib.hid hP
            obtain ⟨Ad, cd, rfl⟩ := Kd.R_slice hP.od
            obtain ⟨An, cn, rfl⟩ := Kd.R_slice (Kd.S_R hP.on)
            have hdm := (Kd.R_reads' hP.od).2.1
            have hnm := (Kd.S_reads' hP.on).2.1
            by_cases hlt : k < m
            · have hkl : k < L.length := by rw [HLL.out]; exact hlt
              obtain ⟨ad1, hA1, z1⟩ := Kd.at_string HCL.out (k : Int) (by omega) (by omega)
              injection hA1 with hA1; subst hA1
              replace z1 := (HP6.out.b.cell (World.block_lt_of_cell? w _ z1)).trans z1
              simp only [Int.toNat_natCast] at z1
              rw [add_add1] at z1
              have hdr : L.drop k = rdOf ByteArray.empty L (k : Int) :: L.drop (k + 1) := by rw [rd_eq L k hkl]; exact List.drop_eq_getElem_cons hkl
              rw [hdr] at hgo
              have hsz := rd_size HLs.out (k : Int)
              generalize rdOf ByteArray.empty L (k : Int) = s at *
              have hkm : decide ((k : Int) < (m : Int)) = true := decide_eq_true (by omega)
              have hkb : (k : Int) < (m : Int) := by omega
              have hk0 : (0 : Int) ≤ (k : Int) := by omega
              have HG6 := Lib.hid (HG.out.below HP6.out.b)
              have HC3 := Lib.hid (rdCP s sThread wr)
              have hcz3 := Nat.le_trans (cp_size s sThread) hsz
              simp only [rdGo] at hgo
              obtain ⟨c3, hc3⟩ : ∃ c, c = cpP s sThread := ⟨_, rfl⟩
              rw [← hc3] at HC3 hcz3 hgo
              obtain ⟨t3, b3⟩ := c3
              clear hc3 hdr hkl
              cases b3 with
              | true =>
                rw [if_pos rfl] at hgo
                dsimp only at hgo
                have HC4 := Lib.hid (rdNum t3 hcz3 wr HG6.out)
                obtain ⟨c4, hc4⟩ : ∃ c, c = rnumP t3 := ⟨_, rfl⟩
                rw [← hc4] at HC4 hgo
                obtain ⟨n, b4⟩ := c4
                clear hc4
                cases b4 with
                | false =>
                  rw [if_neg Bool.false_ne_true] at hgo
                  have HRD := Lib.hid hgo.symm
                  clear hgo hP
                  go_wp2_with (first | (go_at_call 126; refine HC3.out.mono ?_; rintro e w7 ⟨rfl, rfl⟩) | (have hqq := HC3; go_at_call 127; refine HC4.out.mono ?_; rintro e w8 ⟨rfl, hq8⟩; have HP8 := Lib.hid (HP6.out.quiet hq8); have y0 := HP8.out.y.cell 0; have y1 := HP8.out.y.cell 1; have y2 := HP8.out.y.cell 2; have r0 := HP8.out.r.cell 0; have r1 := HP8.out.r.cell 1; have r2 := HP8.out.r.cell 2; have f0 := HP8.out.r.free 0; have f1 := HP8.out.r.free 1; have f2 := HP8.out.r.free 2; simp at y0 y1 y2 r0 r1 r2; clear hq8 hqq))
                  obtain ⟨q1, q2, q3, q4⟩ := HP8.out.ret hRY hRR
                  refine bodyPost_ret (results_ct rfl _ _ w.heap.size 25 #[.int .i64 T, .slice Ad dd.length cd, .slice An nn.length cn] (0, 0) _ rfl q1 Tryd.underlying25 rfl (by kernel_rfl)) rfl ?_
                  rw [HRD.out]
                  exact ⟨_, _, rfl, q2, q3, q4⟩
                | true =>
                  rw [if_pos rfl] at hgo
                  have HGO := Lib.hid hgo
                  clear hgo hP
                  go_wp2_with (first | (go_at_call 126; refine HC3.out.mono ?_; rintro e w7 ⟨rfl, rfl⟩) | (have hqq := HC3; go_at_call 127; refine HC4.out.mono ?_; rintro e w8 ⟨rfl, hq8⟩; have HP8 := Lib.hid (HP6.out.quiet hq8); clear hq8 hqq))
                  obtain ⟨de, hde⟩ : ∃ z, z = dd ++ [n] := ⟨_, rfl⟩
                  have HDE := Lib.hid hde
                  have H7 : Hid (∀ W, Blk W (w.heap.size + 1) #[.int .i64 T, .slice Ad dd.length cd, .slice An nn.length cn] 25 → W.cell? ⟨w.heap.size + 1, 1, none⟩ = some (.slice Ad dd.length cd) ∧ W.cell? ⟨w.heap.size + 1, 2, none⟩ = some (.slice An nn.length cn)) := Lib.hid (fun W hy => ⟨by simpa using hy.cell 1, by simpa using hy.cell 2⟩)
                  have HPc := Lib.hid (HP8.out.quiet (Fr.drew (Fr.refl _ w8)))
                  have HJ := Lib.hid (H7.out _ HPc.out.y)
                  have hdl : (dd.length + 1) * 8 ≤ 140737488355328 := by omega
                  have hnl : (nn.length + 1) * 32 ≤ 140737488355328 := by omega
                  clear hde HP8
                  go_wp2_with fail
                  refine start_ (n := 14) (S := fun w' => w'.cell? ⟨w.heap.size + 1, 1, none⟩ = some (.slice Ad dd.length cd) ∧ w'.cell? ⟨w.heap.size + 1, 2, none⟩ = some (.slice An nn.length cn)) (ds := [11, 13]) #[false, false, false, false, false, false, false, false, false, false, false, false, false, false] (by kernel_rfl) rfl rfl ⟨HJ.out.1, HJ.out.2⟩ (fun hHeld => ?_)
                  generalize w8.drew = wA at HPc HJ hHeld ⊢
                  refine pure_ (i := 0) (N := some 85) (v := ?_) (a' := ?_) #[true, false, false, false, false, false, false, false, false, false, false, false, false, false] rfl rfl (by kernel_rfl) (fun _ _ _ h => h) (Or.inl ⟨by rfl, ?_⟩) ?_ ?_
                  rotate_left
                  · intro w'
                    go_simp
                    with_reducible rfl
                  rotate_left
                  · simp only [Act.put, List.setIfInBounds_toArray, List.set_cons_zero, List.set_cons_succ, i64_w, i32_w]
                    rfl
                  refine pure_ (i := 2) (N := some 87) (v := ?_) (a' := ?_) #[true, false, true, false, false, false, false, false, false, false, false, false, false, false] rfl rfl (by kernel_rfl) (fun _ _ _ h => h) (Or.inl ⟨by rfl, ?_⟩) ?_ ?_
                  rotate_left
                  · intro w'
                    go_simp
                    with_reducible rfl
                  rotate_left
                  · simp only [Act.put, List.setIfInBounds_toArray, List.set_cons_zero, List.set_cons_succ, i64_w, i32_w]
                    rfl
                  refine pure_ (i := 5) (N := some 90) (v := ?_) (a' := ?_) #[true, false, true, false, false, true, false, false, false, false, false, false, false, false] rfl rfl (by kernel_rfl) (fun _ _ _ h => h) (Or.inl ⟨by rfl, ?_⟩) ?_ ?_
                  rotate_left
                  · intro w'
                    go_simp
                    with_reducible rfl
                  rotate_left
                  · simp only [Act.put, List.setIfInBounds_toArray, List.set_cons_zero, List.set_cons_succ, i64_w, i32_w]
                    rfl
                  refine pure_ (i := 7) (N := some 92) (v := ?_) (a' := ?_) #[true, false, true, false, false, true, false, true, false, false, false, false, false, false] rfl rfl (by kernel_rfl) (fun _ _ _ h => h) (Or.inl ⟨by rfl, ?_⟩) ?_ ?_
                  rotate_left
                  · intro w'
                    go_simp
                    with_reducible rfl
                  rotate_left
                  · simp only [Act.put, List.setIfInBounds_toArray, List.set_cons_zero, List.set_cons_succ, i64_w, i32_w]
                    rfl
                  refine take_ (i := 1) (N := some 86) (v := ?_) (a' := ?_) #[true, true, true, false, false, true, false, true, false, false, false, false, false, false] rfl rfl (by kernel_rfl) (fun _ _ _ h => h) (Or.inl ⟨by rfl, ?_⟩) hHeld ?_ ?_
                  rotate_left
                  · rintro w' ⟨s0, s1⟩
                    go_simp
                    with_reducible rfl
                  rotate_left
                  · simp only [Act.put, List.setIfInBounds_toArray, List.set_cons_zero, List.set_cons_succ, i64_w, i32_w]
                    rfl
                  refine take_ (i := 6) (N := some 91) (v := ?_) (a' := ?_) #[true, true, true, false, false, true, true, true, false, false, false, false, false, false] rfl rfl (by kernel_rfl) (fun _ _ _ h => h) (Or.inl ⟨by rfl, ?_⟩) hHeld ?_ ?_
                  rotate_left
                  · rintro w' ⟨s0, s1⟩
                    go_simp
                    with_reducible rfl
                  rotate_left
                  · simp only [Act.put, List.setIfInBounds_toArray, List.set_cons_zero, List.set_cons_succ, i64_w, i32_w]
                    rfl
                  refine join_ (σ := Value × Value × Value) 4 #[true, true, true, true, true, true, true, true, true, false, true, false, false, false] (fun s => [(88, s.1), (89, s.2.1), (93, s.2.2), (95, .pointer (some ⟨w.heap.size + 1, 1, none⟩))]) (fun s w' => RdFork w w.heap.size (w.heap.size + 1) T (.slice Ad dd.length cd) (.slice An nn.length cn) de nn s.2.1 s.2.2 w') ?_ ?_
                  rotate_left
                  · intro hCont
                    refine two_ (i := 3) (j := 8) (Ni := some 88) (Nj := some 93) #[true, true, true, true, false, true, true, true, false, false, false, false, false, false] #[true, true, true, false, false, true, true, true, true, false, false, false, false, false] rfl rfl rfl rfl (by kernel_rfl) (by decide) (by decide) (fun K hK => ?_) (fun K hK => ?_)
                    · skip
                      refine value_ (w1 := ?_) (v := ?_) (by rfl) rfl ?_ ?_
                      rotate_left 2
                      · go_simp
                        constructor
                        · rfl
                        · rfl
                      have HBn : Hid (Blk (wA.alloc (.cells #[.int .i64 n] 3)) (wA.heap.size) #[.int .i64 n] 3) := Lib.hid (by simpa using Blk.new wA #[.int .i64 n] 3)
                      have HPn := Lib.hid (HPc.out.quiet (Fr.alloc (Fr.refl _ wA) (.cells #[.int .i64 n] 3)))
                      clear HPc HJ
                      have HPc := HPn
                      have HB3 := HBn
                      clear HPn HBn
                      have HJ := Lib.hid (H7.out _ HPc.out.y)
                      refine hK.out _ _ ⟨HJ.out.1, HJ.out.2⟩ (fun hHeld => ?_)
                      clear hK K
                      refine norm_ (a' := ?_) ?_ ?_
                      rotate_left
                      · show Act.put _ (some 88) _ = _
                        simp only [Act.put, List.setIfInBounds_toArray, List.set_cons_zero, List.set_cons_succ, i64_w, i32_w]
                        rfl
                      refine two_ (i := 4) (j := 8) (Ni := some 89) (Nj := some 93) #[true, true, true, true, true, true, true, true, false, false, false, false, false, false] #[true, true, true, true, false, true, true, true, true, false, false, false, false, false] rfl rfl rfl rfl (by kernel_rfl) (by decide) (by decide) (fun K hK => ?_) (fun K hK => ?_)
                      · skip
                        refine rAppAt (Kd.int .i64) (w0 := w) w.heap.size (by rfl) (.tmp 86) (.tmp 88) 22 3 (.int .i64 0) 8 (by rfl) Tryd.underlying22 infoInt rfl (by decide) (by decide) (.slice Ad dd.length cd) dd n [.int .i64 n] _ (by rfl) (by rfl) HB3.out rfl rfl (by intro q hq; simp [Kd.int, Kd.scalar] at hq) HPc.out.od HPc.out.b HPc.out.b.size hdl ?_
                        intro v1 w9 ho _ hg _
                        rw [← HDE.out] at ho
                        obtain ⟨Ae, ce, hve⟩ := Kd.R_slice ho
                        subst hve
                        have HPn := Lib.hid (RdAt.growD HPc.out hg ho)
                        clear HPc HJ HB3 ho hg
                        have HPc := HPn
                        clear HPn
                        have HJ := Lib.hid (H7.out _ HPc.out.y)
                        refine hK.out _ _ ⟨HJ.out.1, HJ.out.2⟩ (fun hHeld => ?_)
                        clear hK K
                        refine norm_ (a' := ?_) ?_ ?_
                        rotate_left
                        · show Act.put _ (some 89) _ = _
                          simp only [Act.put, List.setIfInBounds_toArray, List.set_cons_zero, List.set_cons_succ, i64_w, i32_w]
                          rfl
                        refine pure_ (i := 10) (N := some 95) (v := ?_) (a' := ?_) #[true, true, true, true, true, true, true, true, false, false, true, false, false, false] rfl rfl (by kernel_rfl) (fun _ _ _ h => h) (Or.inl ⟨by rfl, ?_⟩) ?_ ?_
                        rotate_left
                        · intro w'
                          go_simp
                          with_reducible rfl
                        rotate_left
                        · simp only [Act.put, List.setIfInBounds_toArray, List.set_cons_zero, List.set_cons_succ, i64_w, i32_w]
                          rfl
                        refine one_ (i := 8) (N := some 93) #[true, true, true, true, true, true, true, true, true, false, true, false, false, false] rfl rfl (by kernel_rfl) (by decide) (fun K hK => ?_)
                        refine value_ (w1 := ?_) (v := ?_) (by rfl) rfl ?_ ?_
                        rotate_left 2
                        · go_simp
                          constructor
                          · rfl
                          · rfl
                        have HBn : Hid (Blk (w9.alloc (.cells #[.bool true, .slice none 0 0] 92)) (w9.heap.size) #[.bool true, .slice none 0 0] 92) := Lib.hid (by simpa using Blk.new w9 #[.bool true, .slice none 0 0] 92)
                        have HPn := Lib.hid (HPc.out.quiet (Fr.alloc (Fr.refl _ w9) (.cells #[.bool true, .slice none 0 0] 92)))
                        clear HPc HJ
                        have HPc := HPn
                        have HB8 := HBn
                        clear HPn HBn
                        have HJ := Lib.hid (H7.out _ HPc.out.y)
                        refine hK.out _ _ ⟨HJ.out.1, HJ.out.2⟩ (fun hHeld => ?_)
                        clear hK K
                        refine norm_ (a' := ?_) ?_ ?_
                        rotate_left
                        · show Act.put _ (some 93) _ = _
                          simp only [Act.put, List.setIfInBounds_toArray, List.set_cons_zero, List.set_cons_succ, i64_w, i32_w]
                          rfl
                        exact norm_ (by simp only [putAll, Act.put, List.setIfInBounds_toArray, List.set_cons_zero, List.set_cons_succ]) (hCont (.slice (some ⟨wA.heap.size, 0, none⟩) 1 1, .slice Ae de.length ce, .slice (some ⟨w9.heap.size, 0, none⟩) 1 1) _ ⟨_, Ae, ce, rfl, rfl, HB8.out, HPc.out⟩)
                      · skip
                        refine value_ (w1 := ?_) (v := ?_) (by rfl) rfl ?_ ?_
                        rotate_left 2
                        · go_simp
                          constructor
                          · rfl
                          · rfl
                        have HBn : Hid (Blk ((wA.alloc (.cells #[.int .i64 n] 3)).alloc (.cells #[.bool true, .slice none 0 0] 92)) (wA.heap.size + 1) #[.bool true, .slice none 0 0] 92) := Lib.hid (by simpa using Blk.new (wA.alloc (.cells #[.int .i64 n] 3)) #[.bool true, .slice none 0 0] 92)
                        have HPn := Lib.hid (HPc.out.quiet (Fr.alloc (Fr.refl _ (wA.alloc (.cells #[.int .i64 n] 3))) (.cells #[.bool true, .slice none 0 0] 92)))
                        have HB3n := Lib.hid (HB3.out.alloc (.cells #[.bool true, .slice none 0 0] 92))
                        clear HB3
                        have HB3 := HB3n
                        clear HB3n
                        clear HPc HJ
                        have HPc := HPn
                        have HB8 := HBn
                        clear HPn HBn
                        have HJ := Lib.hid (H7.out _ HPc.out.y)
                        refine hK.out _ _ ⟨HJ.out.1, HJ.out.2⟩ (fun hHeld => ?_)
                        clear hK K
                        refine norm_ (a' := ?_) ?_ ?_
                        rotate_left
                        · show Act.put _ (some 93) _ = _
                          simp only [Act.put, List.setIfInBounds_toArray, List.set_cons_zero, List.set_cons_succ, i64_w, i32_w]
                          rfl
                        refine one_ (i := 4) (N := some 89) #[true, true, true, true, true, true, true, true, true, false, false, false, false, false] rfl rfl (by kernel_rfl) (by decide) (fun K hK => ?_)
                        refine rAppAt (Kd.int .i64) (w0 := w) w.heap.size (by rfl) (.tmp 86) (.tmp 88) 22 3 (.int .i64 0) 8 (by rfl) Tryd.underlying22 infoInt rfl (by decide) (by decide) (.slice Ad dd.length cd) dd n [.int .i64 n] _ (by rfl) (by rfl) HB3.out rfl rfl (by intro q hq; simp [Kd.int, Kd.scalar] at hq) HPc.out.od HPc.out.b HPc.out.b.size hdl ?_
                        intro v1 w9 ho _ hg _
                        rw [← HDE.out] at ho
                        obtain ⟨Ae, ce, hve⟩ := Kd.R_slice ho
                        subst hve
                        have HPn := Lib.hid (RdAt.growD HPc.out hg ho)
                        have HB8n := Lib.hid (grown_blk hg HB8.out (own_not_blk HB8.out (Kd.R_own HPc.out.od).choose_spec (by decide)))
                        clear HB8
                        have HB8 := HB8n
                        clear HB8n
                        clear HPc HJ HB3 ho hg
                        have HPc := HPn
                        clear HPn
                        have HJ := Lib.hid (H7.out _ HPc.out.y)
                        refine hK.out _ _ ⟨HJ.out.1, HJ.out.2⟩ (fun hHeld => ?_)
                        clear hK K
                        refine norm_ (a' := ?_) ?_ ?_
                        rotate_left
                        · show Act.put _ (some 89) _ = _
                          simp only [Act.put, List.setIfInBounds_toArray, List.set_cons_zero, List.set_cons_succ, i64_w, i32_w]
                          rfl
                        refine pure_ (i := 10) (N := some 95) (v := ?_) (a' := ?_) #[true, true, true, true, true, true, true, true, true, false, true, false, false, false] rfl rfl (by kernel_rfl) (fun _ _ _ h => h) (Or.inl ⟨by rfl, ?_⟩) ?_ ?_
                        rotate_left
                        · intro w'
                          go_simp
                          with_reducible rfl
                        rotate_left
                        · simp only [Act.put, List.setIfInBounds_toArray, List.set_cons_zero, List.set_cons_succ, i64_w, i32_w]
                          rfl
                        exact norm_ (by simp only [putAll, Act.put, List.setIfInBounds_toArray, List.set_cons_zero, List.set_cons_succ]) (hCont (.slice (some ⟨wA.heap.size, 0, none⟩) 1 1, .slice Ae de.length ce, .slice (some ⟨wA.heap.size + 1, 0, none⟩) 1 1) _ ⟨_, Ae, ce, rfl, rfl, HB8.out, HPc.out⟩)
                    · skip
                      refine value_ (w1 := ?_) (v := ?_) (by rfl) rfl ?_ ?_
                      rotate_left 2
                      · go_simp
                        constructor
                        · rfl
                        · rfl
                      have HBn : Hid (Blk (wA.alloc (.cells #[.bool true, .slice none 0 0] 92)) (wA.heap.size) #[.bool true, .slice none 0 0] 92) := Lib.hid (by simpa using Blk.new wA #[.bool true, .slice none 0 0] 92)
                      have HPn := Lib.hid (HPc.out.quiet (Fr.alloc (Fr.refl _ wA) (.cells #[.bool true, .slice none 0 0] 92)))
                      clear HPc HJ
                      have HPc := HPn
                      have HB8 := HBn
                      clear HPn HBn
                      have HJ := Lib.hid (H7.out _ HPc.out.y)
                      refine hK.out _ _ ⟨HJ.out.1, HJ.out.2⟩ (fun hHeld => ?_)
                      clear hK K
                      refine norm_ (a' := ?_) ?_ ?_
                      rotate_left
                      · show Act.put _ (some 93) _ = _
                        simp only [Act.put, List.setIfInBounds_toArray, List.set_cons_zero, List.set_cons_succ, i64_w, i32_w]
                        rfl
                      refine one_ (i := 3) (N := some 88) #[true, true, true, true, false, true, true, true, true, false, false, false, false, false] rfl rfl (by kernel_rfl) (by decide) (fun K hK => ?_)
                      refine value_ (w1 := ?_) (v := ?_) (by rfl) rfl ?_ ?_
                      rotate_left 2
                      · go_simp
                        constructor
                        · rfl
                        · rfl
                      have HBn : Hid (Blk ((wA.alloc (.cells #[.bool true, .slice none 0 0] 92)).alloc (.cells #[.int .i64 n] 3)) (wA.heap.size + 1) #[.int .i64 n] 3) := Lib.hid (by simpa using Blk.new (wA.alloc (.cells #[.bool true, .slice none 0 0] 92)) #[.int .i64 n] 3)
                      have HPn := Lib.hid (HPc.out.quiet (Fr.alloc (Fr.refl _ (wA.alloc (.cells #[.bool true, .slice none 0 0] 92))) (.cells #[.int .i64 n] 3)))
                      have HB8n := Lib.hid (HB8.out.alloc (.cells #[.int .i64 n] 3))
                      clear HB8
                      have HB8 := HB8n
                      clear HB8n
                      clear HPc HJ
                      have HPc := HPn
                      have HB3 := HBn
                      clear HPn HBn
                      have HJ := Lib.hid (H7.out _ HPc.out.y)
                      refine hK.out _ _ ⟨HJ.out.1, HJ.out.2⟩ (fun hHeld => ?_)
                      clear hK K
                      refine norm_ (a' := ?_) ?_ ?_
                      rotate_left
                      · show Act.put _ (some 88) _ = _
                        simp only [Act.put, List.setIfInBounds_toArray, List.set_cons_zero, List.set_cons_succ, i64_w, i32_w]
                        rfl
                      refine one_ (i := 4) (N := some 89) #[true, true, true, true, true, true, true, true, true, false, false, false, false, false] rfl rfl (by kernel_rfl) (by decide) (fun K hK => ?_)
                      refine rAppAt (Kd.int .i64) (w0 := w) w.heap.size (by rfl) (.tmp 86) (.tmp 88) 22 3 (.int .i64 0) 8 (by rfl) Tryd.underlying22 infoInt rfl (by decide) (by decide) (.slice Ad dd.length cd) dd n [.int .i64 n] _ (by rfl) (by rfl) HB3.out rfl rfl (by intro q hq; simp [Kd.int, Kd.scalar] at hq) HPc.out.od HPc.out.b HPc.out.b.size hdl ?_
                      intro v1 w9 ho _ hg _
                      rw [← HDE.out] at ho
                      obtain ⟨Ae, ce, hve⟩ := Kd.R_slice ho
                      subst hve
                      have HPn := Lib.hid (RdAt.growD HPc.out hg ho)
                      have HB8n := Lib.hid (grown_blk hg HB8.out (own_not_blk HB8.out (Kd.R_own HPc.out.od).choose_spec (by decide)))
                      clear HB8
                      have HB8 := HB8n
                      clear HB8n
                      clear HPc HJ HB3 ho hg
                      have HPc := HPn
                      clear HPn
                      have HJ := Lib.hid (H7.out _ HPc.out.y)
                      refine hK.out _ _ ⟨HJ.out.1, HJ.out.2⟩ (fun hHeld => ?_)
                      clear hK K
                      refine norm_ (a' := ?_) ?_ ?_
                      rotate_left
                      · show Act.put _ (some 89) _ = _
                        simp only [Act.put, List.setIfInBounds_toArray, List.set_cons_zero, List.set_cons_succ, i64_w, i32_w]
                        rfl
                      refine pure_ (i := 10) (N := some 95) (v := ?_) (a' := ?_) #[true, true, true, true, true, true, true, true, true, false, true, false, false, false] rfl rfl (by kernel_rfl) (fun _ _ _ h => h) (Or.inl ⟨by rfl, ?_⟩) ?_ ?_
                      rotate_left
                      · intro w'
                        go_simp
                        with_reducible rfl
                      rotate_left
                      · simp only [Act.put, List.setIfInBounds_toArray, List.set_cons_zero, List.set_cons_succ, i64_w, i32_w]
                        rfl
                      exact norm_ (by simp only [putAll, Act.put, List.setIfInBounds_toArray, List.set_cons_zero, List.set_cons_succ]) (hCont (.slice (some ⟨wA.heap.size + 1, 0, none⟩) 1 1, .slice Ae de.length ce, .slice (some ⟨wA.heap.size, 0, none⟩) 1 1) _ ⟨_, Ae, ce, rfl, rfl, HB8.out, HPc.out⟩)
                  rintro ⟨v88, v89, v93⟩ w10 ⟨g93, Ae, ce, e1, e2, hB8, hPM⟩
                  dsimp only at e1 e2
                  subst e1 e2
                  have HB8 := Lib.hid hB8
                  have HPc := Lib.hid hPM
                  clear hB8 hPM HJ
                  have HJ := Lib.hid (H7.out _ HPc.out.y)
                  have hHeld := HJ.out
                  refine norm_ (a' := ?_) ?_ ?_
                  rotate_left
                  · simp only [putAll, Act.put, List.setIfInBounds_toArray, List.set_cons_zero, List.set_cons_succ]
                    rfl
                  refine one_ (i := 9) (N := some 94) #[true, true, true, true, true, true, true, true, true, true, true, false, false, false] rfl rfl (by kernel_rfl) (by decide) (fun K hK => ?_)
                  refine sAppAt k92 (w0 := w) w.heap.size (by rfl) (.tmp 91) (.tmp 93) 23 92 _ 32 (by rfl) Tryd.underlying23 infoNode rfl (by decide) (by decide) (.slice An nn.length cn) nn ⟨true, []⟩ [.bool true, .slice none 0 0] g93 (by rfl) (by rfl) HB8.out rfl (fun ok => k92_mkM _ _ _ _ (Kd.R_nil _ _ _ _ _)) (by decide) HPc.out.on HPc.out.b HPc.out.b.size hnl ?_
                  intro v9 w11 ho9 _ hg9 hat9
                  obtain ⟨ne, hne⟩ : ∃ z, z = nn ++ [(⟨true, []⟩ : NNode)] := ⟨_, rfl⟩
                  rw [← hne] at ho9
                  obtain ⟨A9, c9, hv9⟩ := Kd.R_slice (Kd.S_R ho9)
                  subst hv9
                  have HNE := Lib.hid hne
                  have HP9 := Lib.hid (RdMid.growN HPc.out hRY hYY hg9 ho9)
                  have q2 := grown_blk hg9 HPc.out.y (own_not_blk HPc.out.y (Kd.S_own HPc.out.on).choose_spec (by decide))
                  clear HJ
                  have HJ := Lib.hid (H7.out _ q2)
                  have Q2 := Lib.hid q2
                  clear hne ho9 hg9 hat9 q2
                  refine hK.out _ _ ⟨HJ.out.1, HJ.out.2⟩ (fun hHeld => ?_)
                  clear hK K
                  refine norm_ (a' := ?_) ?_ ?_
                  rotate_left
                  · show Act.put _ (some 94) _ = _
                    simp only [Act.put, List.setIfInBounds_toArray, List.set_cons_zero, List.set_cons_succ, i64_w, i32_w]
                    rfl
                  refine last_ (i := 11) (N := none) #[true, true, true, true, true, true, true, true, true, true, true, true, false, false] rfl rfl (by kernel_rfl) (by decide) (fun K hK => ?_)
                  have qc1 := Q2.out.cell 1
                  have qf1 := Q2.out.free 1
                  simp at qc1
                  refine skip_ (w1 := ?_) (by rfl) rfl ?_ ?_
                  rotate_left
                  · go_simp
                    rfl
                  refine hK.out _ _ ?_
                  clear hK K
                  refine pure_ (i := 12) (N := some 96) (v := ?_) (a' := ?_) #[true, true, true, true, true, true, true, true, true, true, true, true, true, false] rfl rfl (by kernel_rfl) (fun _ _ _ h => h) (Or.inl ⟨by rfl, ?_⟩) ?_ ?_
                  rotate_left
                  · intro w'
                    go_simp
                    with_reducible rfl
                  rotate_left
                  · simp only [Act.put, List.setIfInBounds_toArray, List.set_cons_zero, List.set_cons_succ, i64_w, i32_w]
                    rfl
                  refine last_ (i := 13) (N := none) #[true, true, true, true, true, true, true, true, true, true, true, true, true, true] rfl rfl (by kernel_rfl) (by decide) (fun K hK => ?_)
                  have qc2 := Q2.out.cell 2
                  have qf2 := Q2.out.free 2
                  simp at qc2
                  refine skip_ (w1 := ?_) (by rfl) rfl ?_ ?_
                  rotate_left
                  · go_simp
                    rfl
                  refine hK.out _ _ ?_
                  clear hK K
                  refine done_ (by kernel_rfl) ?_
                  all_goals
                    go_wp2_with fail
                    go_roundw
                    case rel =>
                      refine ⟨k + 1, .slice Ae de.length ce, .slice A9 ne.length c9, de, ne, by rw [HLL.out]; omega, by go_num, HP9.out, ?_, ?_, ?_, ?_⟩
                      · rw [HDE.out]; simp; omega
                      · rw [HNE.out]; simp; omega
                      · rw [HNE.out]
                        intro x hx
                        rcases List.mem_append.1 hx with hx | hx
                        · exact Nat.le_succ_of_le (hxk x hx)
                        · rw [List.mem_singleton] at hx; rw [hx]; exact Nat.zero_le _
                      · rw [HDE.out, HNE.out]; exact HGO.out
                    case measure => simp [intOf]; omega
              | false =>
                rw [if_neg Bool.false_ne_true] at hgo
                have HC4 := Lib.hid (rdAlt s hsz wr HG6.out)
                obtain ⟨c4, hc4⟩ : ∃ c, c = altP s := ⟨_, rfl⟩
                rw [← hc4] at HC4 hgo
                obtain ⟨way, b4⟩ := c4
                dsimp only at hgo
                clear hc4
                cases b4 with
                | false =>
                  rw [if_neg (fun q => Bool.false_ne_true q.1)] at hgo
                  have HRD := Lib.hid hgo.symm
                  clear hgo hP
                  go_wp2_with (first | (go_at_call 126; refine HC3.out.mono ?_; rintro e w7 ⟨rfl, rfl⟩) | (have hqq := HC3; go_at_call 128; refine HC4.out.mono ?_; rintro e w8 ⟨v8, rfl, hr8, hq8⟩; have HP8 := Lib.hid (HP6.out.quiet hq8); have y0 := HP8.out.y.cell 0; have y1 := HP8.out.y.cell 1; have y2 := HP8.out.y.cell 2; have r0 := HP8.out.r.cell 0; have r1 := HP8.out.r.cell 1; have r2 := HP8.out.r.cell 2; have f0 := HP8.out.r.free 0; have f1 := HP8.out.r.free 1; have f2 := HP8.out.r.free 2; simp at y0 y1 y2 r0 r1 r2; clear hq8 hqq hr8))
                  obtain ⟨q1, q2, q3, q4⟩ := HP8.out.ret hRY hRR
                  refine bodyPost_ret (results_ct rfl _ _ w.heap.size 25 #[.int .i64 T, .slice Ad dd.length cd, .slice An nn.length cn] (0, 0) _ rfl q1 Tryd.underlying25 rfl (by kernel_rfl)) rfl ?_
                  rw [HRD.out]
                  exact ⟨_, _, rfl, q2, q3, q4⟩
                | true =>
                  by_cases hnn : nn = []
                  · rw [if_neg (fun q => q.2 hnn)] at hgo
                    have HRD := Lib.hid hgo.symm
                    have hn00 : ((nn.length : Int) == 0) = true := by rw [hnn]; rfl
                    have HNN := Lib.hid hnn
                    clear hgo hP hnn
                    go_wp2_with (first | (go_at_call 126; refine HC3.out.mono ?_; rintro e w7 ⟨rfl, rfl⟩) | (have hqq := HC3; go_at_call 128; refine HC4.out.mono ?_; rintro e w8 ⟨v8, rfl, hr8, hq8⟩; have HP8 := Lib.hid (HP6.out.quiet hq8); have y0 := HP8.out.y.cell 0; have y1 := HP8.out.y.cell 1; have y2 := HP8.out.y.cell 2; have r0 := HP8.out.r.cell 0; have r1 := HP8.out.r.cell 1; have r2 := HP8.out.r.cell 2; have f0 := HP8.out.r.free 0; have f1 := HP8.out.r.free 1; have f2 := HP8.out.r.free 2; simp at y0 y1 y2 r0 r1 r2; clear hq8 hqq hr8))
                    obtain ⟨q1, q2, q3, q4⟩ := HP8.out.ret hRY hRR
                    refine bodyPost_ret (results_ct rfl _ _ w.heap.size 25 #[.int .i64 T, .slice Ad dd.length cd, .slice An nn.length cn] (0, 0) _ rfl q1 Tryd.underlying25 rfl (by kernel_rfl)) rfl ?_
                    rw [HRD.out]
                    exact ⟨_, _, rfl, q2, q3, q4⟩
                  · rw [if_pos ⟨rfl, hnn⟩] at hgo
                    have hpos : 0 < nn.length := List.length_pos_iff.2 hnn
                    obtain ⟨g, cn', hvn, _⟩ := Kd.R_form (Kd.S_R hP.on) hpos
                    injection hvn with hA2 _ hc2
                    subst hA2 hc2
                    obtain ⟨j, hj⟩ : ∃ j, nn.length = j + 1 := ⟨nn.length - 1, by omega⟩
                    have HS6 : Kd.S k92 92 wr w.heap.size (fun k => k < wr.heap.size) (.slice (some ⟨g, 0, none⟩) nn.length cn) nn := Kd.S_mono (Kd.S_bound hP.on) (fun k hk => hk.2.2.1)
                    obtain ⟨oki, c, hcl, hM, hcc, hoki, hH⟩ := lend HS6 z92 (j : Int) (by omega) (by omega)
                    simp only [Int.toNat_natCast] at hM hcc
                    have hxm : nn.getD j z92 ∈ nn := by rw [List.getD_eq_getElem?_getD, List.getElem?_eq_getElem (by omega)]; exact List.getElem_mem _
                    have hxl := hxk _ hxm
                    have HPL : Hid (putLast nn way = nn.set j ⟨(nn.getD j z92).f0, (nn.getD j z92).f1 ++ [way]⟩) := Lib.hid (by unfold putLast; rw [show nn.length - 1 = j by omega])
                    generalize nn.getD j z92 = x at *
                    obtain ⟨v1, hce, hR1⟩ := k92_openM hM
                    subst hce
                    obtain ⟨A1, c1, hv1⟩ := Kd.R_slice hR1
                    subst hv1
                    have u1 := hcc 1 _ rfl
                    have u1' : wr.cell? ⟨g, j * 2 + 1, none⟩ = some (.slice A1 x.f1.length c1) := u1
                    have hwj : IntKind.i64.wrap ((nn.length : Int) - 1) = (j : Int) := by rw [IntKind.wrap_i64]; omega
                    have hjn : (j : Int) < (nn.length : Int) := by omega
                    have hj0 : (0 : Int) ≤ (j : Int) := by omega
                    have hn00 : ((nn.length : Int) == 0) = false := beq_eq_false_iff_ne.2 (by omega)
                    have hal : (x.f1.length + 1) * 24 ≤ 140737488355328 := by omega
                    have HGO := Lib.hid hgo; have HJ := Lib.hid hj; have HH := Lib.hid hH; have HR1 := Lib.hid hR1; have HOK := Lib.hid hoki; have HXM := Lib.hid hxm
                    have hbr : w.heap.size ≤ wr.heap.size := hP.b.size
                    have u1w : Hid (∀ wz, Quiet wr wz → wz.cell? ⟨g, j * 2 + 1, none⟩ = some (.slice A1 x.f1.length c1)) := Lib.hid (fun wz q => q.cell u1' (fun h => h))
                    have HOKP : Hid (∀ k, wr.heap.size ≤ k → (oki k ∨ wr.heap.size ≤ k) ∧ some k ≠ (Value.slice A1 x.f1.length c1).ownBlock) := Lib.hid (fun k hk => ⟨.inr hk, fun e => by have := (HOK.out k (HR1.out.1 k e.symm)).1; omega⟩)
                    clear hgo hP hnn hj hH hR1 hoki hM hcc hcl HS6 hxm u1 u1'
                    go_wp2_with (first | (go_at_call 126; refine HC3.out.mono ?_; rintro e w7 ⟨rfl, hw7⟩; subst w7) | (have hqq := HC3; go_at_call 128; refine HC4.out.mono ?_; rintro e w8 ⟨v8, rfl, hr8, hq8⟩; have HP8 := Lib.hid (HP6.out.quiet hq8); have HR8 := Lib.hid hr8; have HQ8 := Lib.hid hq8; obtain ⟨A8, c8, hv8⟩ := Kd.R_slice hr8; subst hv8; have y0 := HP8.out.y.cell 0; have y1 := HP8.out.y.cell 1; have y2 := HP8.out.y.cell 2; have u1 := u1w.out w8 hq8; simp at y0 y1 y2; have HM8 : Hid (kWay.M w8 w.heap.size (fun k => wr.heap.size ≤ k) way [.slice A8 way.length c8]) := Lib.hid (Kd.M_row (Kd.R_lower (Kd.R_mono (Kd.R_bound hr8) (fun k hk => hk.2.1)) hbr)); have HFR : Hid (∀ k, w8.heap.size ≤ k → oki k ∨ wr.heap.size ≤ k) := Lib.hid (fun k hk => .inr (Nat.le_trans hq8.size hk)); have HO8 : Hid (kWay.R 93 w8 w.heap.size (fun k => oki k ∨ wr.heap.size ≤ k) (.slice A1 x.f1.length c1) x.f1) := Lib.hid (Kd.R_mono (Kd.R_below HR1.out (Quiet.bel hq8)) (fun _ h => .inl h)); clear hq8 hqq hr8) | (have hqa := HO8; at_builtin; refine Kd.R_append kWay (w0 := w) w.heap.size rfl _ _ 90 93 (.slice none 0 0) 24 rfl Tryd.underlying90 infoWay rfl (by decide) (by decide) (.slice A1 x.f1.length c1) x.f1 way [.slice A8 way.length c8] (fun k => oki k ∨ wr.heap.size ≤ k) (fun k => wr.heap.size ≤ k) rfl rfl HM8.out HOKP.out HFR.out HO8.out HP8.out.b HP8.out.b.size hal ?_; intro v9 w9 ho9 hb9 hg9 hat9; obtain ⟨fn, hfn⟩ : ∃ z, z = x.f1 ++ [way] := ⟨_, rfl⟩; rw [← hfn] at ho9; obtain ⟨A9, c9, hv9⟩ := Kd.R_slice ho9; subst hv9; have HFN := Lib.hid hfn; have HO9 := Lib.hid ho9; have HG9 := Lib.hid hg9; have HH9 := Lib.hid (Kd.H_grown (Kd.H_below HH.out (Quiet.bel HQ8.out)) hg9 (fun k hk => .inl (HR1.out.1 k hk))); obtain ⟨hc9, hf9⟩ := Kd.H_at HH9.out hj0 hjn; have u9 : w9.cell? ⟨g, j * 2 + 1, none⟩ = some (.slice A1 x.f1.length c1) := hc9 1 _ rfl; have f9 : w9.frozen? ⟨g, j * 2 + 1, none⟩ = false := hf9 1; clear hqa hfn ho9 hb9 hg9 hat9 hc9 hf9 HO8 u1))
                    go_roundw
                    case rel =>
                      obtain ⟨hS, hg2⟩ := Kd.S_seg0 HH9.out hj0 hjn (seg := [.slice A9 fn.length c9]) (j := 1) (show 1 + 1 ≤ 2 from by decide) (x' := (⟨x.f0, fn⟩ : NNode)) (okp := fun k => oki k ∨ wr.heap.size ≤ k) (k92_mkM _ _ _ (⟨x.f0, fn⟩ : NNode) HO9.out) (fun _ h => h)
                      obtain ⟨inner, own⟩ := Kd.R_own (Kd.R_below HR1.out (Quiet.bel HQ8.out))
                      refine ⟨k + 1, .slice Ad dd.length cd, .slice (some ⟨g, 0, none⟩) nn.length cn, dd, nn.set j ⟨x.f0, fn⟩, by rw [HLL.out]; omega, by go_num, ?_, by omega, by simp; omega, ?_, ?_⟩
                      · exact RdAt.inner HP8.out own (Nat.le_refl _) HG9.out (by simp [Value.ownBlock]) hg2 hS
                      · intro y hy
                        rcases List.mem_or_eq_of_mem_set hy with hy | hy
                        · exact Nat.le_succ_of_le (hxk y hy)
                        · rw [hy, HFN.out]; simp; omega
                      · rw [HFN.out, ← HPL.out]; exact HGO.out
                    case measure => simp [intOf]; omega
            · have hkm : L.drop k = [] := List.drop_of_length_le (by rw [HLL.out]; omega)
              rw [hkm] at hgo
              have HRD : Hid (rdP l0 = (T, dd, nn, true)) := Lib.hid hgo.symm
              clear hgo hkm
              have y0 := hP.y.cell 0; have y1 := hP.y.cell 1; have y2 := hP.y.cell 2
              have r0 := hP.r.cell 0; have r1 := hP.r.cell 1; have r2 := hP.r.cell 2
              have f0 := hP.r.free 0; have f1 := hP.r.free 1; have f2 := hP.r.free 2
              simp at y0 y1 y2 r0 r1 r2
              clear hP
              go_wp2
              obtain ⟨q1, q2, q3, q4⟩ := HP6.out.ret hRY hRR
              refine bodyPost_ret (results_ct rfl _ _ w.heap.size 25 #[.int .i64 T, .slice Ad dd.length cd, .slice An nn.length cn] (0, 0) _ rfl q1 Tryd.underlying25 rfl (by kernel_rfl)) rfl ?_
              rw [HRD.out]
              exact ⟨_, _, rfl, q2, q3, q4⟩
end Go.Proofs.YtadepdeckapgcaaDoor.Rp
namespace Go.Proofs.YtadepdeckapgcaaDoor.Orc
open Go.RowKit Go.Proofs.YtadepdeckapgcaaDoorW.PrintWords Go.Proofs.YtadepdeckapgcaaDoorW.PrintLast Go.Proofs.YtadepdeckapgcaaDoorW.PrintMore Go.Proofs.YtadepdeckapgcaaDoor.PRp Go.Proofs.YtadepdeckapgcaaDoor.Rp
def o_rread.f (l0 : List ByteArray) : Option (Int × List Int × List S92 × Bool) := if l0.length ≤ 1000001 ∧ (l0.all fun s => decide (s.size ≤ 1000000)) = true then some (rdP l0) else none
theorem o_rread.calls (A0 : Option Addr) (c0 : Nat) (l0 : List ByteArray) (r1 : Int) (r2 : List Int) (r3 : List S92) (r4 : Bool) (w : World) (hr0 : Kd.C Kd.string w A0 l0.length l0) (hc0 : l0.length ≤ c0) (h : o_rread.f l0 = some (r1, r2, r3, r4)) (hG : Gl w) :
    Calls Tryd.prog 88 #[.slice A0 l0.length c0] w fun e w' => ∃ v1 v2 : Value, e = .returned (.tuple #[.agg #[.int .i64 r1, v1, v2], .bool r4]) ∧ Kd.R (Kd.int .i64) 3 w' w.heap.size (fun _ => True) v1 r2 ∧ Kd.R k92 92 w' w.heap.size (fun _ => True) v2 r3 ∧ Below w.heap.size w w' := by
  unfold o_rread.f at h
  split at h
  · rename_i hb
    injection h with h
    have q := wRead w A0 c0 l0 hr0 hc0 (fun s hs => by have := List.all_eq_true.1 hb.2 s hs; simpa using this) hb.1 hG
    rw [h] at q
    exact q
  · cases h
end Go.Proofs.YtadepdeckapgcaaDoor.Orc
end

section
namespace Go.Proofs.YtadepdeckapgcaaDoor.PRp
open Go.RowKit Go.Proofs.YtadepdeckapgcaaDoor.Orc Go.Proofs.YtadepdeckapgcaaDoorW.PrintWords Go.Proofs.YtadepdeckapgcaaDoorW.PrintLast Go.Proofs.YtadepdeckapgcaaDoorW.PrintMore
attribute [local go_sem] max2_int min2_int max_two min_two max_three min_three max_four min_four
set_option linter.unusedVariables false
set_option linter.unusedSimpArgs false
def report_Parse.f (k : Nat) (a0 : ByteArray) : Option (Int × List Int × (List (S92)) × Int) := if (a0.size : Int) > 60000 then (some (0, ([] : List Int), ([] : List (S92)), 4)) else ((o_Split.f a0 (⟨#[10]⟩ : ByteArray)).bind fun t276 => ((o_rread.f t276).bind fun bt279 => (if bt279.2.2.2 = true then ((report_Check.f k bt279.1 bt279.2.1 bt279.2.2.1).bind fun t288 => (if t288 = 0 then (some (bt279.1, bt279.2.1, bt279.2.2.1, 0)) else (some (0, ([] : List Int), ([] : List (S92)), t288)))) else (if 2 = 0 then (some (bt279.1, bt279.2.1, bt279.2.2.1, 0)) else (some (0, ([] : List Int), ([] : List (S92)), 2))))))
set_option maxHeartbeats 8000000 in
set_option maxRecDepth 100000 in
theorem report_Parse.calls (k : Nat) (a0 : ByteArray) (r1 : Int) (r2 : List Int) (r3 : List (S92)) (r4 : Int) (w : World) (h : report_Parse.f k a0 = some (r1, r2, r3, r4)) (hG : Gl w) :
  Calls Tryd.prog 43 #[.string a0] w fun e w' => ∃ v1_ v2_ : Value, e = .returned (.tuple #[.agg #[.int .i64 r1, v1_, v2_], .int .i64 r4]) ∧ Kd.R (Kd.int .i64) 3 w' w.heap.size (fun _ => True) v1_ r2 ∧ Kd.R k92 92 w' w.heap.size (fun _ => True) v2_ r3 ∧ Below w.heap.size w w' := by
 have HG := Aside0.mk hG
 clear hG
 have hu25 := Tryd.underlying25
 have HB := Aside0.mk (Below.refl w.heap.size w)
 have H : (if (a0.size : Int) > 60000 then (some (0, ([] : List Int), ([] : List (S92)), 4)) else ((o_Split.f a0 (⟨#[10]⟩ : ByteArray)).bind fun t276 => ((o_rread.f t276).bind fun bt279 => (if bt279.2.2.2 = true then ((report_Check.f k bt279.1 bt279.2.1 bt279.2.2.1).bind fun t288 => (if t288 = 0 then (some (bt279.1, bt279.2.1, bt279.2.2.1, 0)) else (some (0, ([] : List Int), ([] : List (S92)), t288)))) else (if 2 = 0 then (some (bt279.1, bt279.2.1, bt279.2.2.1, 0)) else (some (0, ([] : List Int), ([] : List (S92)), 2))))))) = some (r1, r2, r3, r4) := h
 clear h
 by_cases c2 : (a0.size : Int) > 60000
 ·rw [if_pos c2] at H
  have c2b0 : decide (60000 < (a0.size : Int)) = true := decide_eq_true c2
  have c2b1 : decide (60000 < a0.size) = true := decide_eq_true (by omega)
  clear c2
  simp only [Option.some.injEq, Prod.mk.injEq] at H
  obtain ⟨rfl, rfl, rfl, rfl⟩ := H
  go_enter Tryd.func43, Tryd.ntmps43
  go_wp2_with (first | ((with_reducible refine gate_dst (N := 2) rfl ?_); refine box_event ?hg (N := 2) ?hd (cs := #[.int .i64 0, .slice none 0 0, .slice none 0 0]) (t := 25) ?hr ?_; (case hd => rfl); (case hg => rfl); (case hr => first | (go_simp; done) | (go_simp; rfl)); intro gb275 hg w3 hbox hb; have n0_ := Aside0.mk (below_step (by repeat (first | (with_reducible first | exact HB.out | apply below_alloc | apply pw_below_drewN | apply below_drew1) | exact HB.out)) hb); have n1_ := Aside0.mk (hbox); have n2_ := Aside0.mk ((by rw [hg]; exact (below_size (by repeat (first | (with_reducible first | exact HB.out | apply below_alloc | apply pw_below_drewN | apply below_drew1) | exact HB.out))) : w.heap.size ≤ gb275)); have n3_ := Aside0.mk ((by rw [hg]; exact (below_size (by repeat (first | (with_reducible first | exact HB.out | apply below_alloc | apply pw_below_drewN | apply below_drew1) | exact HB.out))) : w.heap.size ≤ gb275)); clear HB; have HB := n0_; have BK275 := n1_; have GW275 := n2_; have GE275 := n3_; clear n0_ n1_ n2_ n3_; clear hb hbox hg; have hcz4_0 : w3.cell? ⟨gb275, 0, none⟩ = some (.int .i64 0) := (blk_cell BK275.out 0).trans rfl; have hcz4_1 : w3.cell? ⟨gb275, 1, none⟩ = some (.slice none 0 0) := (blk_cell BK275.out 1).trans rfl; have hcz4_2 : w3.cell? ⟨gb275, 2, none⟩ = some (.slice none 0 0) := (blk_cell BK275.out 2).trans rfl; have hfz4_0 := blk_frozen BK275.out 0; have hfz4_1 := blk_frozen BK275.out 1; have hfz4_2 := blk_frozen BK275.out 2))
  refine bodyPost_ret (results_ct rfl _ _ gb275 25 #[.int .i64 0, .slice none 0 0, .slice none 0 0] (0, 0) _ rfl (by (with_reducible repeat (first | refine blk_drewN ?_ _ | refine blk_drew ?_ | refine blk_alloc ?_ _)); refine blk_put (cs := #[.int .i64 0, .slice none 0 0, .slice none 0 0]) ?_ 2 _ rfl; (with_reducible repeat (first | refine blk_drewN ?_ _ | refine blk_drew ?_ | refine blk_alloc ?_ _)); refine blk_put (cs := #[.int .i64 0, .slice none 0 0, .slice none 0 0]) ?_ 1 _ rfl; (with_reducible repeat (first | refine blk_drewN ?_ _ | refine blk_drew ?_ | refine blk_alloc ?_ _)); refine blk_put (cs := #[.int .i64 0, .slice none 0 0, .slice none 0 0]) ?_ 0 _ rfl; (with_reducible repeat (first | refine blk_drewN ?_ _ | refine blk_drew ?_ | refine blk_alloc ?_ _)); exact BK275.out) Tryd.underlying25 rfl (by kernel_rfl)) rfl ?_
  exact ⟨_, _, by first | rfl | (simp [errW_none, errW_some] <;> rfl) | (simp [*, errW_none, errW_some] <;> rfl), by first | exact Kd.R_nil _ _ _ _ _ | exact Kd.N_nil _ _ _ _ _ | exact Kd.V_nil _ _ _ _ _ | exact Kd.Q_nil _ _ _ _ _ | exact Kd.S_nil _ _ _ _ _, by first | exact Kd.R_nil _ _ _ _ _ | exact Kd.N_nil _ _ _ _ _ | exact Kd.V_nil _ _ _ _ _ | exact Kd.Q_nil _ _ _ _ _ | exact Kd.S_nil _ _ _ _ _, by repeat (first | (with_reducible first | exact HB.out | apply below_alloc | apply pw_below_drewN | apply below_drew1 | refine below_set ?_ GE275.out) | exact HB.out)⟩
 ·rw [if_neg c2] at H
  have c2b0 : decide (60000 < (a0.size : Int)) = false := decide_eq_false c2
  have c2b1 : decide (60000 < a0.size) = false := decide_eq_false (by omega)
  clear c2
  replace H := Option.bind_eq_some_iff.mp H
  obtain ⟨t276, A50, H⟩ := H
  replace H : ((o_rread.f t276).bind fun bt279 => (if bt279.2.2.2 = true then ((report_Check.f k bt279.1 bt279.2.1 bt279.2.2.1).bind fun t288 => (if t288 = 0 then (some (bt279.1, bt279.2.1, bt279.2.2.1, 0)) else (some (0, ([] : List Int), ([] : List (S92)), t288)))) else (if 2 = 0 then (some (bt279.1, bt279.2.1, bt279.2.2.1, 0)) else (some (0, ([] : List Int), ([] : List (S92)), 2))))) = some (r1, r2, r3, r4) := H
  have A5 := Aside0.mk A50
  clear A50
  replace H := Option.bind_eq_some_iff.mp H
  obtain ⟨⟨t279, t280, t283, t286⟩, A60, H⟩ := H
  replace H : (if t286 = true then ((report_Check.f k t279 t280 t283).bind fun t288 => (if t288 = 0 then (some (t279, t280, t283, 0)) else (some (0, ([] : List Int), ([] : List (S92)), t288)))) else (if 2 = 0 then (some (t279, t280, t283, 0)) else (some (0, ([] : List Int), ([] : List (S92)), 2)))) = some (r1, r2, r3, r4) := H
  have A6 := Aside0.mk A60
  clear A60
  by_cases c7 : t286 = true
  ·subst c7
   have H1 : ((report_Check.f k t279 t280 t283).bind fun t288 => (if t288 = 0 then (some (t279, t280, t283, 0)) else (some (0, ([] : List Int), ([] : List (S92)), t288)))) = some (r1, r2, r3, r4) := by rw [if_pos rfl] at H; exact H
   clear H
   have H := H1
   clear H1
   replace H := Option.bind_eq_some_iff.mp H
   obtain ⟨t288, A80, H⟩ := H
   replace H : (if t288 = 0 then (some (t279, t280, t283, 0)) else (some (0, ([] : List Int), ([] : List (S92)), t288))) = some (r1, r2, r3, r4) := H
   have A8 := Aside0.mk A80
   clear A80
   by_cases c9 : t288 = 0
   ·rw [if_pos c9] at H
    have c9b0 : (t288 == 0) = true := beq_iff_eq.mpr c9
    have c9b1 : (t288 != 0) = false := bne_eq_false_iff_eq.mpr c9
    clear c9
    simp only [Option.some.injEq, Prod.mk.injEq] at H
    obtain ⟨rfl, rfl, rfl, rfl⟩ := H
    go_enter Tryd.func43, Tryd.ntmps43
    go_wp2_with (first | ((with_reducible refine gate_dst (N := 2) rfl ?_); refine box_event ?hg (N := 2) ?hd (cs := #[.int .i64 0, .slice none 0 0, .slice none 0 0]) (t := 25) ?hr ?_; (case hd => rfl); (case hg => rfl); (case hr => first | (go_simp; done) | (go_simp; rfl)); intro gb275 hg w10 hbox hb; have n0_ := Aside0.mk (below_step (by repeat (first | (with_reducible first | exact HB.out | apply below_alloc | apply pw_below_drewN | apply below_drew1) | exact HB.out)) hb); have n1_ := Aside0.mk (hbox); have n2_ := Aside0.mk ((by rw [hg]; exact (below_size (by repeat (first | (with_reducible first | exact HB.out | apply below_alloc | apply pw_below_drewN | apply below_drew1) | exact HB.out))) : w.heap.size ≤ gb275)); have n3_ := Aside0.mk ((by rw [hg]; exact (below_size (by repeat (first | (with_reducible first | exact HB.out | apply below_alloc | apply pw_below_drewN | apply below_drew1) | exact HB.out))) : w.heap.size ≤ gb275)); clear HB; have HB := n0_; have BK275 := n1_; have GW275 := n2_; have GE275 := n3_; clear n0_ n1_ n2_ n3_; clear hb hbox hg) | ((with_reducible refine gate_callee (f := 89) rfl ?_); refine goesL_ (some 13) rfl rfl Tryd.func89 (by kernel_rfl) rfl #[.string a0, .string (⟨#[10]⟩ : ByteArray)] rfl (by (try simp only [List.map_toArray, List.map_cons, List.map_nil]); first | done | rfl | (simp only [List.length_drop, List.length_take]; rfl)) ?_; (with_reducible refine (o_Split.calls a0 (⟨#[10]⟩ : ByteArray) t276 _ A5.out ?side1).mono ?_); (case side1 => exact Gl.below HG.out (by repeat (first | (with_reducible first | exact HB.out | apply below_alloc | apply pw_below_drewN | apply below_drew1 | refine below_set ?_ GE275.out) | exact HB.out))); rintro e w11 ⟨v277, rfl, ho0, hb⟩; refine ⟨_, rfl, ?_⟩; have n0_ := Aside0.mk (Kd.R_lower ho0 (below_size (by repeat (first | (with_reducible first | exact HB.out | apply below_alloc | apply pw_below_drewN | apply below_drew1 | refine below_set ?_ GE275.out) | exact HB.out)))); have n1_ := Aside0.mk (blk_below (g := gb275) (o := .cells #[.int .i64 0, .slice none 0 0, .slice none 0 0] 25 (0, 0)) (by (with_reducible repeat (first | refine blk_drewN ?_ _ | refine blk_drew ?_ | refine blk_alloc ?_ _)); exact BK275.out) hb); have n2_ := Aside0.mk (below_step (by repeat (first | (with_reducible first | exact HB.out | apply below_alloc | apply pw_below_drewN | apply below_drew1 | refine below_set ?_ GE275.out) | exact HB.out)) hb); clear BK275; clear HB; have HO278 := n0_; have BK275 := n1_; have HB := n2_; clear n0_ n1_ n2_; (try clear hb); (try clear hb2); (try clear hk); (try clear hi); (try clear ho0); obtain ⟨Ao12, co12, eo12⟩ := Kd.R_slice HO278.out; subst eo12) | ((with_reducible refine gate_callee (f := 88) rfl ?_); refine goesL_ (some 14) rfl rfl Tryd.func88 (by kernel_rfl) rfl #[.slice Ao12 t276.length co12] rfl (by (try simp only [List.map_toArray, List.map_cons, List.map_nil]); first | done | rfl | (simp only [List.length_drop, List.length_take]; rfl)) ?_; (with_reducible refine (o_rread.calls _ _ t276 t279 t280 t283 true _ ?side1 ?side2 A6.out ?side3).mono ?_); (case side1 => repeat (first | exact (Kd.R_reads' HO278.out).2.2 | (with_reducible refine Kd.C_alloc ?_ _) | (with_reducible refine Kd.C_drewN ?_ _) | (with_reducible refine Kd.C_drew ?_))); (case side2 => exact (Kd.R_reads' HO278.out).2.1); (case side3 => exact Gl.below HG.out (by repeat (first | (with_reducible first | exact HB.out | apply below_alloc | apply pw_below_drewN | apply below_drew1 | refine below_set ?_ GE275.out) | exact HB.out))); rintro e w13 ⟨v281, v284, rfl, ho0, ho1, hb⟩; refine ⟨_, rfl, ?_⟩; have n0_ := Aside0.mk (Kd.R_below (by (with_reducible repeat (first | apply Kd.R_alloc | apply Kd.R_drewN | apply Kd.R_drew)); exact HO278.out) hb); have n1_ := Aside0.mk (Kd.R_lower ho0 (below_size (by repeat (first | (with_reducible first | exact HB.out | apply below_alloc | apply pw_below_drewN | apply below_drew1 | refine below_set ?_ GE275.out) | exact HB.out)))); have n2_ := Aside0.mk (Kd.R_lower ho1 (below_size (by repeat (first | (with_reducible first | exact HB.out | apply below_alloc | apply pw_below_drewN | apply below_drew1 | refine below_set ?_ GE275.out) | exact HB.out)))); have n3_ := Aside0.mk (blk_below (g := gb275) (o := .cells #[.int .i64 0, .slice none 0 0, .slice none 0 0] 25 (0, 0)) (by (with_reducible repeat (first | refine blk_drewN ?_ _ | refine blk_drew ?_ | refine blk_alloc ?_ _)); exact BK275.out) hb); have n4_ := Aside0.mk (below_step (by repeat (first | (with_reducible first | exact HB.out | apply below_alloc | apply pw_below_drewN | apply below_drew1 | refine below_set ?_ GE275.out) | exact HB.out)) hb); clear HO278; clear BK275; clear HB; have HO278 := n0_; have HO282 := n1_; have HO285 := n2_; have BK275 := n3_; have HB := n4_; clear n0_ n1_ n2_ n3_ n4_; (try clear hb); (try clear hb2); (try clear hk); (try clear hi); (try clear ho0); (try clear ho1)) | ((with_reducible refine gate_dst (N := 4) rfl ?_); refine box_event ?hg (N := 4) ?hd (cs := #[.int .i64 0, .slice none 0 0, .slice none 0 0]) (t := 25) ?hr ?_; (case hd => rfl); (case hg => rfl); (case hr => first | (go_simp; done) | (go_simp; rfl)); intro gb287 hg w14 hbox hb; have n0_ := Aside0.mk (Kd.R_below (by (with_reducible repeat (first | apply Kd.R_alloc | apply Kd.R_drewN | apply Kd.R_drew)); exact HO278.out) hb); have n1_ := Aside0.mk (Kd.R_below (by (with_reducible repeat (first | apply Kd.R_alloc | apply Kd.R_drewN | apply Kd.R_drew)); exact HO282.out) hb); have n2_ := Aside0.mk (Kd.R_below (by (with_reducible repeat (first | apply Kd.R_alloc | apply Kd.R_drewN | apply Kd.R_drew)); exact HO285.out) hb); have n3_ := Aside0.mk (blk_below (g := gb275) (o := .cells #[.int .i64 0, .slice none 0 0, .slice none 0 0] 25 (0, 0)) (by (with_reducible repeat (first | refine blk_drewN ?_ _ | refine blk_drew ?_ | refine blk_alloc ?_ _)); exact BK275.out) hb); have n4_ := Aside0.mk (below_step (by repeat (first | (with_reducible first | exact HB.out | apply below_alloc | apply pw_below_drewN | apply below_drew1 | refine below_set ?_ GE275.out) | exact HB.out)) hb); have n5_ := Aside0.mk (hbox); have n6_ := Aside0.mk ((by rw [hg]; exact (below_size (by repeat (first | (with_reducible first | exact HB.out | apply below_alloc | apply pw_below_drewN | apply below_drew1 | refine below_set ?_ GE275.out) | exact HB.out))) : w.heap.size ≤ gb287)); have n7_ := Aside0.mk ((by rw [hg]; exact (below_size (by repeat (first | (with_reducible first | exact HB.out | apply below_alloc | apply pw_below_drewN | apply below_drew1 | refine below_set ?_ GE275.out) | exact HB.out))) : w.heap.size ≤ gb287)); have n8_ := Aside0.mk ((by rw [hg]; exact Nat.ne_of_lt (blk_lt (g := gb275) (o := .cells #[.int .i64 0, .slice none 0 0, .slice none 0 0] 25 (0, 0)) (by (with_reducible repeat (first | refine blk_drewN ?_ _ | refine blk_drew ?_ | refine blk_alloc ?_ _)); exact BK275.out)) : gb275 ≠ gb287)); have n9_ := Aside0.mk ((by rw [hg]; exact Nat.ne_of_gt (blk_lt (g := gb275) (o := .cells #[.int .i64 0, .slice none 0 0, .slice none 0 0] 25 (0, 0)) (by (with_reducible repeat (first | refine blk_drewN ?_ _ | refine blk_drew ?_ | refine blk_alloc ?_ _)); exact BK275.out)) : gb287 ≠ gb275)); clear HO278; clear HO282; clear HO285; clear BK275; clear HB; have HO278 := n0_; have HO282 := n1_; have HO285 := n2_; have BK275 := n3_; have HB := n4_; have BK287 := n5_; have GW287 := n6_; have GE287 := n7_; have NB275_287 := n8_; have NB287_275 := n9_; clear n0_ n1_ n2_ n3_ n4_ n5_ n6_ n7_ n8_ n9_; clear hb hbox hg; have hnb15 := NB287_275.out; have hnc15 := NB275_287.out; have hcz16_0 : w14.cell? ⟨gb287, 0, none⟩ = some (.int .i64 0) := (blk_cell BK287.out 0).trans rfl; have hcz16_1 : w14.cell? ⟨gb287, 1, none⟩ = some (.slice none 0 0) := (blk_cell BK287.out 1).trans rfl; have hcz16_2 : w14.cell? ⟨gb287, 2, none⟩ = some (.slice none 0 0) := (blk_cell BK287.out 2).trans rfl; have hfz16_0 := blk_frozen BK287.out 0; have hfz16_1 := blk_frozen BK287.out 1; have hfz16_2 := blk_frozen BK287.out 2; obtain ⟨Ao17, co17, eo17⟩ := Kd.R_slice HO282.out; subst eo17; obtain ⟨Ao18, co18, eo18⟩ := Kd.R_slice HO285.out; subst eo18) | ((with_reducible refine gate_callee (f := 40) rfl ?_); refine goesL_ (some 19) rfl rfl Tryd.func40 (by kernel_rfl) rfl #[.agg #[.int .i64 t279, .slice Ao17 t280.length co17, .slice Ao18 t283.length co18]] rfl (by (try simp only [List.map_toArray, List.map_cons, List.map_nil]); first | done | rfl | (simp only [List.length_drop, List.length_take]; rfl)) ?_; (with_reducible refine (report_Check.calls k t279 _ _ t280 _ _ t283 t288 _ ?side1 ?side2 ?side3 ?side4 A8.out).mono ?_); (case side1 => refine (Kd.R_reads' (e := 3) (base := w.heap.size) (ok := fun k_ => True) (n := t280.length) (c := co17) ?_).2.2; exact (by (with_reducible repeat (first | apply Kd.R_alloc | apply Kd.R_drewN | apply Kd.R_drew)); exact (Kd.R_mono (Kd.R_far (p := ⟨gb287, 2, none⟩) (Kd.R_far (p := ⟨gb287, 1, none⟩) (Kd.R_far (p := ⟨gb287, 0, none⟩) (Kd.R_types HO282.out BK287.out (by decide)) (fun _ hk => hk.2) (.int .i64 t279)) (fun _ hk => hk.2) (.slice Ao17 t280.length co17)) (fun _ hk => hk.2) (.slice Ao18 t283.length co18)) (fun _ h_ => h_.1)))); (case side2 => exact (Kd.R_reads' HO282.out).2.1); (case side3 => refine (Kd.R_reads' (e := 92) (base := w.heap.size) (ok := fun k_ => True) (n := t283.length) (c := co18) ?_).2.2; exact (by (with_reducible repeat (first | apply Kd.R_alloc | apply Kd.R_drewN | apply Kd.R_drew)); exact (Kd.R_mono (Kd.R_far (p := ⟨gb287, 2, none⟩) (Kd.R_far (p := ⟨gb287, 1, none⟩) (Kd.R_far (p := ⟨gb287, 0, none⟩) (Kd.R_types HO285.out BK287.out (by decide)) (fun _ hk => hk.2) (.int .i64 t279)) (fun _ hk => hk.2) (.slice Ao17 t280.length co17)) (fun _ hk => hk.2) (.slice Ao18 t283.length co18)) (fun _ h_ => h_.1)))); (case side4 => exact (Kd.R_reads' HO285.out).2.1); rintro e w19 ⟨rfl, hb⟩; refine ⟨_, rfl, ?_⟩; have n0_ := Aside0.mk (Kd.R_below (by (with_reducible repeat (first | apply Kd.R_alloc | apply Kd.R_drewN | apply Kd.R_drew)); exact (Kd.R_mono (Kd.R_far (p := ⟨gb287, 2, none⟩) (Kd.R_far (p := ⟨gb287, 1, none⟩) (Kd.R_far (p := ⟨gb287, 0, none⟩) (Kd.R_types HO278.out BK287.out (by decide)) (fun _ hk => hk.2) (.int .i64 t279)) (fun _ hk => hk.2) (.slice Ao17 t280.length co17)) (fun _ hk => hk.2) (.slice Ao18 t283.length co18)) (fun _ h_ => h_.1))) hb); have n1_ := Aside0.mk (Kd.R_below (by (with_reducible repeat (first | apply Kd.R_alloc | apply Kd.R_drewN | apply Kd.R_drew)); exact (Kd.R_mono (Kd.R_far (p := ⟨gb287, 2, none⟩) (Kd.R_far (p := ⟨gb287, 1, none⟩) (Kd.R_far (p := ⟨gb287, 0, none⟩) (Kd.R_types HO282.out BK287.out (by decide)) (fun _ hk => hk.2) (.int .i64 t279)) (fun _ hk => hk.2) (.slice Ao17 t280.length co17)) (fun _ hk => hk.2) (.slice Ao18 t283.length co18)) (fun _ h_ => h_.1))) hb); have n2_ := Aside0.mk (Kd.R_below (by (with_reducible repeat (first | apply Kd.R_alloc | apply Kd.R_drewN | apply Kd.R_drew)); exact (Kd.R_mono (Kd.R_far (p := ⟨gb287, 2, none⟩) (Kd.R_far (p := ⟨gb287, 1, none⟩) (Kd.R_far (p := ⟨gb287, 0, none⟩) (Kd.R_types HO285.out BK287.out (by decide)) (fun _ hk => hk.2) (.int .i64 t279)) (fun _ hk => hk.2) (.slice Ao17 t280.length co17)) (fun _ hk => hk.2) (.slice Ao18 t283.length co18)) (fun _ h_ => h_.1))) hb); have n3_ := Aside0.mk (blk_below (g := gb275) (o := .cells #[.int .i64 0, .slice none 0 0, .slice none 0 0] 25 (0, 0)) (by (with_reducible repeat (first | refine blk_drewN ?_ _ | refine blk_drew ?_ | refine blk_alloc ?_ _)); refine blk_far ?_ NB275_287.out _; (with_reducible repeat (first | refine blk_drewN ?_ _ | refine blk_drew ?_ | refine blk_alloc ?_ _)); refine blk_far ?_ NB275_287.out _; (with_reducible repeat (first | refine blk_drewN ?_ _ | refine blk_drew ?_ | refine blk_alloc ?_ _)); refine blk_far ?_ NB275_287.out _; (with_reducible repeat (first | refine blk_drewN ?_ _ | refine blk_drew ?_ | refine blk_alloc ?_ _)); exact BK275.out) hb); have n4_ := Aside0.mk (blk_below (g := gb287) (o := .cells #[.int .i64 t279, .slice Ao17 t280.length co17, .slice Ao18 t283.length co18] 25 (0, 0)) (by (with_reducible repeat (first | refine blk_drewN ?_ _ | refine blk_drew ?_ | refine blk_alloc ?_ _)); refine blk_put (cs := #[.int .i64 t279, .slice Ao17 t280.length co17, .slice none 0 0]) ?_ 2 _ rfl; (with_reducible repeat (first | refine blk_drewN ?_ _ | refine blk_drew ?_ | refine blk_alloc ?_ _)); refine blk_put (cs := #[.int .i64 t279, .slice none 0 0, .slice none 0 0]) ?_ 1 _ rfl; (with_reducible repeat (first | refine blk_drewN ?_ _ | refine blk_drew ?_ | refine blk_alloc ?_ _)); refine blk_put (cs := #[.int .i64 0, .slice none 0 0, .slice none 0 0]) ?_ 0 _ rfl; (with_reducible repeat (first | refine blk_drewN ?_ _ | refine blk_drew ?_ | refine blk_alloc ?_ _)); exact BK287.out) hb); have n5_ := Aside0.mk (below_step (by repeat (first | (with_reducible first | exact HB.out | apply below_alloc | apply pw_below_drewN | apply below_drew1 | refine below_set ?_ GE275.out | refine below_set ?_ GE287.out) | exact HB.out)) hb); clear HO278; clear HO282; clear HO285; clear BK275; clear BK287; clear HB; have HO278 := n0_; have HO282 := n1_; have HO285 := n2_; have BK275 := n3_; have BK287 := n4_; have HB := n5_; clear n0_ n1_ n2_ n3_ n4_ n5_; (try clear hb); (try clear hb2); (try clear hk); (try clear hi); have hcz20_0 : w19.cell? ⟨gb287, 0, none⟩ = some (.int .i64 t279) := (blk_cell BK287.out 0).trans rfl; have hcz20_1 : w19.cell? ⟨gb287, 1, none⟩ = some (.slice Ao17 t280.length co17) := (blk_cell BK287.out 1).trans rfl; have hcz20_2 : w19.cell? ⟨gb287, 2, none⟩ = some (.slice Ao18 t283.length co18) := (blk_cell BK287.out 2).trans rfl; have hfz20_0 := blk_frozen BK287.out 0; have hfz20_1 := blk_frozen BK287.out 1; have hfz20_2 := blk_frozen BK287.out 2; have hcz21_0 : w19.cell? ⟨gb275, 0, none⟩ = some (.int .i64 0) := (blk_cell BK275.out 0).trans rfl; have hcz21_1 : w19.cell? ⟨gb275, 1, none⟩ = some (.slice none 0 0) := (blk_cell BK275.out 1).trans rfl; have hcz21_2 : w19.cell? ⟨gb275, 2, none⟩ = some (.slice none 0 0) := (blk_cell BK275.out 2).trans rfl; have hfz21_0 := blk_frozen BK275.out 0; have hfz21_1 := blk_frozen BK275.out 1; have hfz21_2 := blk_frozen BK275.out 2))
    refine bodyPost_ret (results_ct rfl _ _ gb275 25 #[.int .i64 t279, .slice Ao17 t280.length co17, .slice Ao18 t283.length co18] (0, 0) _ rfl (by (with_reducible repeat (first | refine blk_drewN ?_ _ | refine blk_drew ?_ | refine blk_alloc ?_ _)); refine blk_put (cs := #[.int .i64 t279, .slice Ao17 t280.length co17, .slice none 0 0]) ?_ 2 _ rfl; (with_reducible repeat (first | refine blk_drewN ?_ _ | refine blk_drew ?_ | refine blk_alloc ?_ _)); refine blk_put (cs := #[.int .i64 t279, .slice none 0 0, .slice none 0 0]) ?_ 1 _ rfl; (with_reducible repeat (first | refine blk_drewN ?_ _ | refine blk_drew ?_ | refine blk_alloc ?_ _)); refine blk_put (cs := #[.int .i64 0, .slice none 0 0, .slice none 0 0]) ?_ 0 _ rfl; (with_reducible repeat (first | refine blk_drewN ?_ _ | refine blk_drew ?_ | refine blk_alloc ?_ _)); exact BK275.out) Tryd.underlying25 rfl (by kernel_rfl)) rfl ?_
    exact ⟨_, _, by first | rfl | (simp [errW_none, errW_some] <;> rfl) | (simp [*, errW_none, errW_some] <;> rfl), by (with_reducible repeat (first | apply Kd.R_alloc | apply Kd.R_drewN | apply Kd.R_drew)); exact Kd.R_mono (Kd.R_far (p := ⟨gb275, 2, none⟩) (Kd.R_far (p := ⟨gb275, 1, none⟩) (Kd.R_far (p := ⟨gb275, 0, none⟩) (Kd.R_types HO282.out BK275.out (by decide)) (fun _ hk => hk.2) (.int .i64 t279)) (fun _ hk => hk.2) (.slice Ao17 t280.length co17)) (fun _ hk => hk.2) (.slice Ao18 t283.length co18)) (fun _ hk => trivial), by (with_reducible repeat (first | apply Kd.R_alloc | apply Kd.R_drewN | apply Kd.R_drew)); exact Kd.R_mono (Kd.R_far (p := ⟨gb275, 2, none⟩) (Kd.R_far (p := ⟨gb275, 1, none⟩) (Kd.R_far (p := ⟨gb275, 0, none⟩) (Kd.R_types HO285.out BK275.out (by decide)) (fun _ hk => hk.2) (.int .i64 t279)) (fun _ hk => hk.2) (.slice Ao17 t280.length co17)) (fun _ hk => hk.2) (.slice Ao18 t283.length co18)) (fun _ hk => trivial), by repeat (first | (with_reducible first | exact HB.out | apply below_alloc | apply pw_below_drewN | apply below_drew1 | refine below_set ?_ GE275.out | refine below_set ?_ GE287.out) | exact HB.out)⟩
   ·rw [if_neg c9] at H
    have c9b0 : (t288 == 0) = false := beq_eq_false_iff_ne.mpr c9
    have c9b1 : (t288 != 0) = true := bne_iff_ne.mpr c9
    simp only [Option.some.injEq, Prod.mk.injEq] at H
    obtain ⟨rfl, rfl, rfl, rfl⟩ := H
    go_enter Tryd.func43, Tryd.ntmps43
    go_wp2_with (first | ((with_reducible refine gate_dst (N := 2) rfl ?_); refine box_event ?hg (N := 2) ?hd (cs := #[.int .i64 0, .slice none 0 0, .slice none 0 0]) (t := 25) ?hr ?_; (case hd => rfl); (case hg => rfl); (case hr => first | (go_simp; done) | (go_simp; rfl)); intro gb275 hg w22 hbox hb; have n0_ := Aside0.mk (below_step (by repeat (first | (with_reducible first | exact HB.out | apply below_alloc | apply pw_below_drewN | apply below_drew1) | exact HB.out)) hb); have n1_ := Aside0.mk (hbox); have n2_ := Aside0.mk ((by rw [hg]; exact (below_size (by repeat (first | (with_reducible first | exact HB.out | apply below_alloc | apply pw_below_drewN | apply below_drew1) | exact HB.out))) : w.heap.size ≤ gb275)); have n3_ := Aside0.mk ((by rw [hg]; exact (below_size (by repeat (first | (with_reducible first | exact HB.out | apply below_alloc | apply pw_below_drewN | apply below_drew1) | exact HB.out))) : w.heap.size ≤ gb275)); clear HB; have HB := n0_; have BK275 := n1_; have GW275 := n2_; have GE275 := n3_; clear n0_ n1_ n2_ n3_; clear hb hbox hg) | ((with_reducible refine gate_callee (f := 89) rfl ?_); refine goesL_ (some 13) rfl rfl Tryd.func89 (by kernel_rfl) rfl #[.string a0, .string (⟨#[10]⟩ : ByteArray)] rfl (by (try simp only [List.map_toArray, List.map_cons, List.map_nil]); first | done | rfl | (simp only [List.length_drop, List.length_take]; rfl)) ?_; (with_reducible refine (o_Split.calls a0 (⟨#[10]⟩ : ByteArray) t276 _ A5.out ?side1).mono ?_); (case side1 => exact Gl.below HG.out (by repeat (first | (with_reducible first | exact HB.out | apply below_alloc | apply pw_below_drewN | apply below_drew1 | refine below_set ?_ GE275.out) | exact HB.out))); rintro e w23 ⟨v277, rfl, ho0, hb⟩; refine ⟨_, rfl, ?_⟩; have n0_ := Aside0.mk (Kd.R_lower ho0 (below_size (by repeat (first | (with_reducible first | exact HB.out | apply below_alloc | apply pw_below_drewN | apply below_drew1 | refine below_set ?_ GE275.out) | exact HB.out)))); have n1_ := Aside0.mk (blk_below (g := gb275) (o := .cells #[.int .i64 0, .slice none 0 0, .slice none 0 0] 25 (0, 0)) (by (with_reducible repeat (first | refine blk_drewN ?_ _ | refine blk_drew ?_ | refine blk_alloc ?_ _)); exact BK275.out) hb); have n2_ := Aside0.mk (below_step (by repeat (first | (with_reducible first | exact HB.out | apply below_alloc | apply pw_below_drewN | apply below_drew1 | refine below_set ?_ GE275.out) | exact HB.out)) hb); clear BK275; clear HB; have HO278 := n0_; have BK275 := n1_; have HB := n2_; clear n0_ n1_ n2_; (try clear hb); (try clear hb2); (try clear hk); (try clear hi); (try clear ho0); obtain ⟨Ao24, co24, eo24⟩ := Kd.R_slice HO278.out; subst eo24) | ((with_reducible refine gate_callee (f := 88) rfl ?_); refine goesL_ (some 14) rfl rfl Tryd.func88 (by kernel_rfl) rfl #[.slice Ao24 t276.length co24] rfl (by (try simp only [List.map_toArray, List.map_cons, List.map_nil]); first | done | rfl | (simp only [List.length_drop, List.length_take]; rfl)) ?_; (with_reducible refine (o_rread.calls _ _ t276 t279 t280 t283 true _ ?side1 ?side2 A6.out ?side3).mono ?_); (case side1 => repeat (first | exact (Kd.R_reads' HO278.out).2.2 | (with_reducible refine Kd.C_alloc ?_ _) | (with_reducible refine Kd.C_drewN ?_ _) | (with_reducible refine Kd.C_drew ?_))); (case side2 => exact (Kd.R_reads' HO278.out).2.1); (case side3 => exact Gl.below HG.out (by repeat (first | (with_reducible first | exact HB.out | apply below_alloc | apply pw_below_drewN | apply below_drew1 | refine below_set ?_ GE275.out) | exact HB.out))); rintro e w25 ⟨v281, v284, rfl, ho0, ho1, hb⟩; refine ⟨_, rfl, ?_⟩; have n0_ := Aside0.mk (Kd.R_below (by (with_reducible repeat (first | apply Kd.R_alloc | apply Kd.R_drewN | apply Kd.R_drew)); exact HO278.out) hb); have n1_ := Aside0.mk (Kd.R_lower ho0 (below_size (by repeat (first | (with_reducible first | exact HB.out | apply below_alloc | apply pw_below_drewN | apply below_drew1 | refine below_set ?_ GE275.out) | exact HB.out)))); have n2_ := Aside0.mk (Kd.R_lower ho1 (below_size (by repeat (first | (with_reducible first | exact HB.out | apply below_alloc | apply pw_below_drewN | apply below_drew1 | refine below_set ?_ GE275.out) | exact HB.out)))); have n3_ := Aside0.mk (blk_below (g := gb275) (o := .cells #[.int .i64 0, .slice none 0 0, .slice none 0 0] 25 (0, 0)) (by (with_reducible repeat (first | refine blk_drewN ?_ _ | refine blk_drew ?_ | refine blk_alloc ?_ _)); exact BK275.out) hb); have n4_ := Aside0.mk (below_step (by repeat (first | (with_reducible first | exact HB.out | apply below_alloc | apply pw_below_drewN | apply below_drew1 | refine below_set ?_ GE275.out) | exact HB.out)) hb); clear HO278; clear BK275; clear HB; have HO278 := n0_; have HO282 := n1_; have HO285 := n2_; have BK275 := n3_; have HB := n4_; clear n0_ n1_ n2_ n3_ n4_; (try clear hb); (try clear hb2); (try clear hk); (try clear hi); (try clear ho0); (try clear ho1)) | ((with_reducible refine gate_dst (N := 4) rfl ?_); refine box_event ?hg (N := 4) ?hd (cs := #[.int .i64 0, .slice none 0 0, .slice none 0 0]) (t := 25) ?hr ?_; (case hd => rfl); (case hg => rfl); (case hr => first | (go_simp; done) | (go_simp; rfl)); intro gb287 hg w26 hbox hb; have n0_ := Aside0.mk (Kd.R_below (by (with_reducible repeat (first | apply Kd.R_alloc | apply Kd.R_drewN | apply Kd.R_drew)); exact HO278.out) hb); have n1_ := Aside0.mk (Kd.R_below (by (with_reducible repeat (first | apply Kd.R_alloc | apply Kd.R_drewN | apply Kd.R_drew)); exact HO282.out) hb); have n2_ := Aside0.mk (Kd.R_below (by (with_reducible repeat (first | apply Kd.R_alloc | apply Kd.R_drewN | apply Kd.R_drew)); exact HO285.out) hb); have n3_ := Aside0.mk (blk_below (g := gb275) (o := .cells #[.int .i64 0, .slice none 0 0, .slice none 0 0] 25 (0, 0)) (by (with_reducible repeat (first | refine blk_drewN ?_ _ | refine blk_drew ?_ | refine blk_alloc ?_ _)); exact BK275.out) hb); have n4_ := Aside0.mk (below_step (by repeat (first | (with_reducible first | exact HB.out | apply below_alloc | apply pw_below_drewN | apply below_drew1 | refine below_set ?_ GE275.out) | exact HB.out)) hb); have n5_ := Aside0.mk (hbox); have n6_ := Aside0.mk ((by rw [hg]; exact (below_size (by repeat (first | (with_reducible first | exact HB.out | apply below_alloc | apply pw_below_drewN | apply below_drew1 | refine below_set ?_ GE275.out) | exact HB.out))) : w.heap.size ≤ gb287)); have n7_ := Aside0.mk ((by rw [hg]; exact (below_size (by repeat (first | (with_reducible first | exact HB.out | apply below_alloc | apply pw_below_drewN | apply below_drew1 | refine below_set ?_ GE275.out) | exact HB.out))) : w.heap.size ≤ gb287)); have n8_ := Aside0.mk ((by rw [hg]; exact Nat.ne_of_lt (blk_lt (g := gb275) (o := .cells #[.int .i64 0, .slice none 0 0, .slice none 0 0] 25 (0, 0)) (by (with_reducible repeat (first | refine blk_drewN ?_ _ | refine blk_drew ?_ | refine blk_alloc ?_ _)); exact BK275.out)) : gb275 ≠ gb287)); have n9_ := Aside0.mk ((by rw [hg]; exact Nat.ne_of_gt (blk_lt (g := gb275) (o := .cells #[.int .i64 0, .slice none 0 0, .slice none 0 0] 25 (0, 0)) (by (with_reducible repeat (first | refine blk_drewN ?_ _ | refine blk_drew ?_ | refine blk_alloc ?_ _)); exact BK275.out)) : gb287 ≠ gb275)); clear HO278; clear HO282; clear HO285; clear BK275; clear HB; have HO278 := n0_; have HO282 := n1_; have HO285 := n2_; have BK275 := n3_; have HB := n4_; have BK287 := n5_; have GW287 := n6_; have GE287 := n7_; have NB275_287 := n8_; have NB287_275 := n9_; clear n0_ n1_ n2_ n3_ n4_ n5_ n6_ n7_ n8_ n9_; clear hb hbox hg; have hnb27 := NB287_275.out; have hnc27 := NB275_287.out; have hcz28_0 : w26.cell? ⟨gb287, 0, none⟩ = some (.int .i64 0) := (blk_cell BK287.out 0).trans rfl; have hcz28_1 : w26.cell? ⟨gb287, 1, none⟩ = some (.slice none 0 0) := (blk_cell BK287.out 1).trans rfl; have hcz28_2 : w26.cell? ⟨gb287, 2, none⟩ = some (.slice none 0 0) := (blk_cell BK287.out 2).trans rfl; have hfz28_0 := blk_frozen BK287.out 0; have hfz28_1 := blk_frozen BK287.out 1; have hfz28_2 := blk_frozen BK287.out 2; obtain ⟨Ao29, co29, eo29⟩ := Kd.R_slice HO282.out; subst eo29; obtain ⟨Ao30, co30, eo30⟩ := Kd.R_slice HO285.out; subst eo30) | ((with_reducible refine gate_callee (f := 40) rfl ?_); refine goesL_ (some 19) rfl rfl Tryd.func40 (by kernel_rfl) rfl #[.agg #[.int .i64 t279, .slice Ao29 t280.length co29, .slice Ao30 t283.length co30]] rfl (by (try simp only [List.map_toArray, List.map_cons, List.map_nil]); first | done | rfl | (simp only [List.length_drop, List.length_take]; rfl)) ?_; (with_reducible refine (report_Check.calls k t279 _ _ t280 _ _ t283 t288 _ ?side1 ?side2 ?side3 ?side4 A8.out).mono ?_); (case side1 => refine (Kd.R_reads' (e := 3) (base := w.heap.size) (ok := fun k_ => True) (n := t280.length) (c := co29) ?_).2.2; exact (by (with_reducible repeat (first | apply Kd.R_alloc | apply Kd.R_drewN | apply Kd.R_drew)); exact (Kd.R_mono (Kd.R_far (p := ⟨gb287, 2, none⟩) (Kd.R_far (p := ⟨gb287, 1, none⟩) (Kd.R_far (p := ⟨gb287, 0, none⟩) (Kd.R_types HO282.out BK287.out (by decide)) (fun _ hk => hk.2) (.int .i64 t279)) (fun _ hk => hk.2) (.slice Ao29 t280.length co29)) (fun _ hk => hk.2) (.slice Ao30 t283.length co30)) (fun _ h_ => h_.1)))); (case side2 => exact (Kd.R_reads' HO282.out).2.1); (case side3 => refine (Kd.R_reads' (e := 92) (base := w.heap.size) (ok := fun k_ => True) (n := t283.length) (c := co30) ?_).2.2; exact (by (with_reducible repeat (first | apply Kd.R_alloc | apply Kd.R_drewN | apply Kd.R_drew)); exact (Kd.R_mono (Kd.R_far (p := ⟨gb287, 2, none⟩) (Kd.R_far (p := ⟨gb287, 1, none⟩) (Kd.R_far (p := ⟨gb287, 0, none⟩) (Kd.R_types HO285.out BK287.out (by decide)) (fun _ hk => hk.2) (.int .i64 t279)) (fun _ hk => hk.2) (.slice Ao29 t280.length co29)) (fun _ hk => hk.2) (.slice Ao30 t283.length co30)) (fun _ h_ => h_.1)))); (case side4 => exact (Kd.R_reads' HO285.out).2.1); rintro e w31 ⟨rfl, hb⟩; refine ⟨_, rfl, ?_⟩; have n0_ := Aside0.mk (Kd.R_below (by (with_reducible repeat (first | apply Kd.R_alloc | apply Kd.R_drewN | apply Kd.R_drew)); exact (Kd.R_mono (Kd.R_far (p := ⟨gb287, 2, none⟩) (Kd.R_far (p := ⟨gb287, 1, none⟩) (Kd.R_far (p := ⟨gb287, 0, none⟩) (Kd.R_types HO278.out BK287.out (by decide)) (fun _ hk => hk.2) (.int .i64 t279)) (fun _ hk => hk.2) (.slice Ao29 t280.length co29)) (fun _ hk => hk.2) (.slice Ao30 t283.length co30)) (fun _ h_ => h_.1))) hb); have n1_ := Aside0.mk (Kd.R_below (by (with_reducible repeat (first | apply Kd.R_alloc | apply Kd.R_drewN | apply Kd.R_drew)); exact (Kd.R_mono (Kd.R_far (p := ⟨gb287, 2, none⟩) (Kd.R_far (p := ⟨gb287, 1, none⟩) (Kd.R_far (p := ⟨gb287, 0, none⟩) (Kd.R_types HO282.out BK287.out (by decide)) (fun _ hk => hk.2) (.int .i64 t279)) (fun _ hk => hk.2) (.slice Ao29 t280.length co29)) (fun _ hk => hk.2) (.slice Ao30 t283.length co30)) (fun _ h_ => h_.1))) hb); have n2_ := Aside0.mk (Kd.R_below (by (with_reducible repeat (first | apply Kd.R_alloc | apply Kd.R_drewN | apply Kd.R_drew)); exact (Kd.R_mono (Kd.R_far (p := ⟨gb287, 2, none⟩) (Kd.R_far (p := ⟨gb287, 1, none⟩) (Kd.R_far (p := ⟨gb287, 0, none⟩) (Kd.R_types HO285.out BK287.out (by decide)) (fun _ hk => hk.2) (.int .i64 t279)) (fun _ hk => hk.2) (.slice Ao29 t280.length co29)) (fun _ hk => hk.2) (.slice Ao30 t283.length co30)) (fun _ h_ => h_.1))) hb); have n3_ := Aside0.mk (blk_below (g := gb275) (o := .cells #[.int .i64 0, .slice none 0 0, .slice none 0 0] 25 (0, 0)) (by (with_reducible repeat (first | refine blk_drewN ?_ _ | refine blk_drew ?_ | refine blk_alloc ?_ _)); refine blk_far ?_ NB275_287.out _; (with_reducible repeat (first | refine blk_drewN ?_ _ | refine blk_drew ?_ | refine blk_alloc ?_ _)); refine blk_far ?_ NB275_287.out _; (with_reducible repeat (first | refine blk_drewN ?_ _ | refine blk_drew ?_ | refine blk_alloc ?_ _)); refine blk_far ?_ NB275_287.out _; (with_reducible repeat (first | refine blk_drewN ?_ _ | refine blk_drew ?_ | refine blk_alloc ?_ _)); exact BK275.out) hb); have n4_ := Aside0.mk (blk_below (g := gb287) (o := .cells #[.int .i64 t279, .slice Ao29 t280.length co29, .slice Ao30 t283.length co30] 25 (0, 0)) (by (with_reducible repeat (first | refine blk_drewN ?_ _ | refine blk_drew ?_ | refine blk_alloc ?_ _)); refine blk_put (cs := #[.int .i64 t279, .slice Ao29 t280.length co29, .slice none 0 0]) ?_ 2 _ rfl; (with_reducible repeat (first | refine blk_drewN ?_ _ | refine blk_drew ?_ | refine blk_alloc ?_ _)); refine blk_put (cs := #[.int .i64 t279, .slice none 0 0, .slice none 0 0]) ?_ 1 _ rfl; (with_reducible repeat (first | refine blk_drewN ?_ _ | refine blk_drew ?_ | refine blk_alloc ?_ _)); refine blk_put (cs := #[.int .i64 0, .slice none 0 0, .slice none 0 0]) ?_ 0 _ rfl; (with_reducible repeat (first | refine blk_drewN ?_ _ | refine blk_drew ?_ | refine blk_alloc ?_ _)); exact BK287.out) hb); have n5_ := Aside0.mk (below_step (by repeat (first | (with_reducible first | exact HB.out | apply below_alloc | apply pw_below_drewN | apply below_drew1 | refine below_set ?_ GE275.out | refine below_set ?_ GE287.out) | exact HB.out)) hb); clear HO278; clear HO282; clear HO285; clear BK275; clear BK287; clear HB; have HO278 := n0_; have HO282 := n1_; have HO285 := n2_; have BK275 := n3_; have BK287 := n4_; have HB := n5_; clear n0_ n1_ n2_ n3_ n4_ n5_; (try clear hb); (try clear hb2); (try clear hk); (try clear hi); have hcz32_0 : w31.cell? ⟨gb275, 0, none⟩ = some (.int .i64 0) := (blk_cell BK275.out 0).trans rfl; have hcz32_1 : w31.cell? ⟨gb275, 1, none⟩ = some (.slice none 0 0) := (blk_cell BK275.out 1).trans rfl; have hcz32_2 : w31.cell? ⟨gb275, 2, none⟩ = some (.slice none 0 0) := (blk_cell BK275.out 2).trans rfl; have hfz32_0 := blk_frozen BK275.out 0; have hfz32_1 := blk_frozen BK275.out 1; have hfz32_2 := blk_frozen BK275.out 2))
    refine bodyPost_ret (results_ct rfl _ _ gb275 25 #[.int .i64 0, .slice none 0 0, .slice none 0 0] (0, 0) _ rfl (by (with_reducible repeat (first | refine blk_drewN ?_ _ | refine blk_drew ?_ | refine blk_alloc ?_ _)); refine blk_put (cs := #[.int .i64 0, .slice none 0 0, .slice none 0 0]) ?_ 2 _ rfl; (with_reducible repeat (first | refine blk_drewN ?_ _ | refine blk_drew ?_ | refine blk_alloc ?_ _)); refine blk_put (cs := #[.int .i64 0, .slice none 0 0, .slice none 0 0]) ?_ 1 _ rfl; (with_reducible repeat (first | refine blk_drewN ?_ _ | refine blk_drew ?_ | refine blk_alloc ?_ _)); refine blk_put (cs := #[.int .i64 0, .slice none 0 0, .slice none 0 0]) ?_ 0 _ rfl; (with_reducible repeat (first | refine blk_drewN ?_ _ | refine blk_drew ?_ | refine blk_alloc ?_ _)); exact BK275.out) Tryd.underlying25 rfl (by kernel_rfl)) rfl ?_
    exact ⟨_, _, by first | rfl | (simp [errW_none, errW_some] <;> rfl) | (simp [*, errW_none, errW_some] <;> rfl), by first | exact Kd.R_nil _ _ _ _ _ | exact Kd.N_nil _ _ _ _ _ | exact Kd.V_nil _ _ _ _ _ | exact Kd.Q_nil _ _ _ _ _ | exact Kd.S_nil _ _ _ _ _, by first | exact Kd.R_nil _ _ _ _ _ | exact Kd.N_nil _ _ _ _ _ | exact Kd.V_nil _ _ _ _ _ | exact Kd.Q_nil _ _ _ _ _ | exact Kd.S_nil _ _ _ _ _, by repeat (first | (with_reducible first | exact HB.out | apply below_alloc | apply pw_below_drewN | apply below_drew1 | refine below_set ?_ GE275.out | refine below_set ?_ GE287.out) | exact HB.out)⟩
  ·replace c7 := Bool.eq_false_iff.mpr c7
   subst c7
   have H1 : (if 2 = 0 then (some (t279, t280, t283, 0)) else (some (0, ([] : List Int), ([] : List (S92)), 2))) = some (r1, r2, r3, r4) := by rw [if_neg (show ¬ (false = true) by decide)] at H; exact H
   clear H
   have H := H1
   clear H1
   by_cases c33 : 2 = 0
   ·exact absurd c33 (by decide)
   ·rw [if_neg c33] at H
    have c33b0 : (2 == 0) = false := beq_eq_false_iff_ne.mpr c33
    have c33b1 : (2 != 0) = true := bne_iff_ne.mpr c33
    simp only [Option.some.injEq, Prod.mk.injEq] at H
    obtain ⟨rfl, rfl, rfl, rfl⟩ := H
    go_enter Tryd.func43, Tryd.ntmps43
    go_wp2_with (first | ((with_reducible refine gate_dst (N := 2) rfl ?_); refine box_event ?hg (N := 2) ?hd (cs := #[.int .i64 0, .slice none 0 0, .slice none 0 0]) (t := 25) ?hr ?_; (case hd => rfl); (case hg => rfl); (case hr => first | (go_simp; done) | (go_simp; rfl)); intro gb275 hg w44 hbox hb; have n0_ := Aside0.mk (below_step (by repeat (first | (with_reducible first | exact HB.out | apply below_alloc | apply pw_below_drewN | apply below_drew1) | exact HB.out)) hb); have n1_ := Aside0.mk (hbox); have n2_ := Aside0.mk ((by rw [hg]; exact (below_size (by repeat (first | (with_reducible first | exact HB.out | apply below_alloc | apply pw_below_drewN | apply below_drew1) | exact HB.out))) : w.heap.size ≤ gb275)); have n3_ := Aside0.mk ((by rw [hg]; exact (below_size (by repeat (first | (with_reducible first | exact HB.out | apply below_alloc | apply pw_below_drewN | apply below_drew1) | exact HB.out))) : w.heap.size ≤ gb275)); clear HB; have HB := n0_; have BK275 := n1_; have GW275 := n2_; have GE275 := n3_; clear n0_ n1_ n2_ n3_; clear hb hbox hg) | ((with_reducible refine gate_callee (f := 89) rfl ?_); refine goesL_ (some 13) rfl rfl Tryd.func89 (by kernel_rfl) rfl #[.string a0, .string (⟨#[10]⟩ : ByteArray)] rfl (by (try simp only [List.map_toArray, List.map_cons, List.map_nil]); first | done | rfl | (simp only [List.length_drop, List.length_take]; rfl)) ?_; (with_reducible refine (o_Split.calls a0 (⟨#[10]⟩ : ByteArray) t276 _ A5.out ?side1).mono ?_); (case side1 => exact Gl.below HG.out (by repeat (first | (with_reducible first | exact HB.out | apply below_alloc | apply pw_below_drewN | apply below_drew1 | refine below_set ?_ GE275.out) | exact HB.out))); rintro e w45 ⟨v277, rfl, ho0, hb⟩; refine ⟨_, rfl, ?_⟩; have n0_ := Aside0.mk (Kd.R_lower ho0 (below_size (by repeat (first | (with_reducible first | exact HB.out | apply below_alloc | apply pw_below_drewN | apply below_drew1 | refine below_set ?_ GE275.out) | exact HB.out)))); have n1_ := Aside0.mk (blk_below (g := gb275) (o := .cells #[.int .i64 0, .slice none 0 0, .slice none 0 0] 25 (0, 0)) (by (with_reducible repeat (first | refine blk_drewN ?_ _ | refine blk_drew ?_ | refine blk_alloc ?_ _)); exact BK275.out) hb); have n2_ := Aside0.mk (below_step (by repeat (first | (with_reducible first | exact HB.out | apply below_alloc | apply pw_below_drewN | apply below_drew1 | refine below_set ?_ GE275.out) | exact HB.out)) hb); clear BK275; clear HB; have HO278 := n0_; have BK275 := n1_; have HB := n2_; clear n0_ n1_ n2_; (try clear hb); (try clear hb2); (try clear hk); (try clear hi); (try clear ho0); obtain ⟨Ao46, co46, eo46⟩ := Kd.R_slice HO278.out; subst eo46) | ((with_reducible refine gate_callee (f := 88) rfl ?_); refine goesL_ (some 14) rfl rfl Tryd.func88 (by kernel_rfl) rfl #[.slice Ao46 t276.length co46] rfl (by (try simp only [List.map_toArray, List.map_cons, List.map_nil]); first | done | rfl | (simp only [List.length_drop, List.length_take]; rfl)) ?_; (with_reducible refine (o_rread.calls _ _ t276 t279 t280 t283 false _ ?side1 ?side2 A6.out ?side3).mono ?_); (case side1 => repeat (first | exact (Kd.R_reads' HO278.out).2.2 | (with_reducible refine Kd.C_alloc ?_ _) | (with_reducible refine Kd.C_drewN ?_ _) | (with_reducible refine Kd.C_drew ?_))); (case side2 => exact (Kd.R_reads' HO278.out).2.1); (case side3 => exact Gl.below HG.out (by repeat (first | (with_reducible first | exact HB.out | apply below_alloc | apply pw_below_drewN | apply below_drew1 | refine below_set ?_ GE275.out) | exact HB.out))); rintro e w47 ⟨v281, v284, rfl, ho0, ho1, hb⟩; refine ⟨_, rfl, ?_⟩; have n0_ := Aside0.mk (Kd.R_below (by (with_reducible repeat (first | apply Kd.R_alloc | apply Kd.R_drewN | apply Kd.R_drew)); exact HO278.out) hb); have n1_ := Aside0.mk (Kd.R_lower ho0 (below_size (by repeat (first | (with_reducible first | exact HB.out | apply below_alloc | apply pw_below_drewN | apply below_drew1 | refine below_set ?_ GE275.out) | exact HB.out)))); have n2_ := Aside0.mk (Kd.R_lower ho1 (below_size (by repeat (first | (with_reducible first | exact HB.out | apply below_alloc | apply pw_below_drewN | apply below_drew1 | refine below_set ?_ GE275.out) | exact HB.out)))); have n3_ := Aside0.mk (blk_below (g := gb275) (o := .cells #[.int .i64 0, .slice none 0 0, .slice none 0 0] 25 (0, 0)) (by (with_reducible repeat (first | refine blk_drewN ?_ _ | refine blk_drew ?_ | refine blk_alloc ?_ _)); exact BK275.out) hb); have n4_ := Aside0.mk (below_step (by repeat (first | (with_reducible first | exact HB.out | apply below_alloc | apply pw_below_drewN | apply below_drew1 | refine below_set ?_ GE275.out) | exact HB.out)) hb); clear HO278; clear BK275; clear HB; have HO278 := n0_; have HO282 := n1_; have HO285 := n2_; have BK275 := n3_; have HB := n4_; clear n0_ n1_ n2_ n3_ n4_; (try clear hb); (try clear hb2); (try clear hk); (try clear hi); (try clear ho0); (try clear ho1)) | ((with_reducible refine gate_dst (N := 4) rfl ?_); refine box_event ?hg (N := 4) ?hd (cs := #[.int .i64 0, .slice none 0 0, .slice none 0 0]) (t := 25) ?hr ?_; (case hd => rfl); (case hg => rfl); (case hr => first | (go_simp; done) | (go_simp; rfl)); intro gb287 hg w48 hbox hb; have n0_ := Aside0.mk (Kd.R_below (by (with_reducible repeat (first | apply Kd.R_alloc | apply Kd.R_drewN | apply Kd.R_drew)); exact HO278.out) hb); have n1_ := Aside0.mk (Kd.R_below (by (with_reducible repeat (first | apply Kd.R_alloc | apply Kd.R_drewN | apply Kd.R_drew)); exact HO282.out) hb); have n2_ := Aside0.mk (Kd.R_below (by (with_reducible repeat (first | apply Kd.R_alloc | apply Kd.R_drewN | apply Kd.R_drew)); exact HO285.out) hb); have n3_ := Aside0.mk (blk_below (g := gb275) (o := .cells #[.int .i64 0, .slice none 0 0, .slice none 0 0] 25 (0, 0)) (by (with_reducible repeat (first | refine blk_drewN ?_ _ | refine blk_drew ?_ | refine blk_alloc ?_ _)); exact BK275.out) hb); have n4_ := Aside0.mk (below_step (by repeat (first | (with_reducible first | exact HB.out | apply below_alloc | apply pw_below_drewN | apply below_drew1 | refine below_set ?_ GE275.out) | exact HB.out)) hb); have n5_ := Aside0.mk (hbox); have n6_ := Aside0.mk ((by rw [hg]; exact (below_size (by repeat (first | (with_reducible first | exact HB.out | apply below_alloc | apply pw_below_drewN | apply below_drew1 | refine below_set ?_ GE275.out) | exact HB.out))) : w.heap.size ≤ gb287)); have n7_ := Aside0.mk ((by rw [hg]; exact (below_size (by repeat (first | (with_reducible first | exact HB.out | apply below_alloc | apply pw_below_drewN | apply below_drew1 | refine below_set ?_ GE275.out) | exact HB.out))) : w.heap.size ≤ gb287)); have n8_ := Aside0.mk ((by rw [hg]; exact Nat.ne_of_lt (blk_lt (g := gb275) (o := .cells #[.int .i64 0, .slice none 0 0, .slice none 0 0] 25 (0, 0)) (by (with_reducible repeat (first | refine blk_drewN ?_ _ | refine blk_drew ?_ | refine blk_alloc ?_ _)); exact BK275.out)) : gb275 ≠ gb287)); have n9_ := Aside0.mk ((by rw [hg]; exact Nat.ne_of_gt (blk_lt (g := gb275) (o := .cells #[.int .i64 0, .slice none 0 0, .slice none 0 0] 25 (0, 0)) (by (with_reducible repeat (first | refine blk_drewN ?_ _ | refine blk_drew ?_ | refine blk_alloc ?_ _)); exact BK275.out)) : gb287 ≠ gb275)); clear HO278; clear HO282; clear HO285; clear BK275; clear HB; have HO278 := n0_; have HO282 := n1_; have HO285 := n2_; have BK275 := n3_; have HB := n4_; have BK287 := n5_; have GW287 := n6_; have GE287 := n7_; have NB275_287 := n8_; have NB287_275 := n9_; clear n0_ n1_ n2_ n3_ n4_ n5_ n6_ n7_ n8_ n9_; clear hb hbox hg; have hnb49 := NB287_275.out; have hnc49 := NB275_287.out; have hcz50_0 : w48.cell? ⟨gb287, 0, none⟩ = some (.int .i64 0) := (blk_cell BK287.out 0).trans rfl; have hcz50_1 : w48.cell? ⟨gb287, 1, none⟩ = some (.slice none 0 0) := (blk_cell BK287.out 1).trans rfl; have hcz50_2 : w48.cell? ⟨gb287, 2, none⟩ = some (.slice none 0 0) := (blk_cell BK287.out 2).trans rfl; have hfz50_0 := blk_frozen BK287.out 0; have hfz50_1 := blk_frozen BK287.out 1; have hfz50_2 := blk_frozen BK287.out 2; obtain ⟨Ao51, co51, eo51⟩ := Kd.R_slice HO282.out; subst eo51; obtain ⟨Ao52, co52, eo52⟩ := Kd.R_slice HO285.out; subst eo52; have hcz53_0 : w48.cell? ⟨gb275, 0, none⟩ = some (.int .i64 0) := (blk_cell BK275.out 0).trans rfl; have hcz53_1 : w48.cell? ⟨gb275, 1, none⟩ = some (.slice none 0 0) := (blk_cell BK275.out 1).trans rfl; have hcz53_2 : w48.cell? ⟨gb275, 2, none⟩ = some (.slice none 0 0) := (blk_cell BK275.out 2).trans rfl; have hfz53_0 := blk_frozen BK275.out 0; have hfz53_1 := blk_frozen BK275.out 1; have hfz53_2 := blk_frozen BK275.out 2))
    refine bodyPost_ret (results_ct rfl _ _ gb275 25 #[.int .i64 0, .slice none 0 0, .slice none 0 0] (0, 0) _ rfl (by (with_reducible repeat (first | refine blk_drewN ?_ _ | refine blk_drew ?_ | refine blk_alloc ?_ _)); refine blk_put (cs := #[.int .i64 0, .slice none 0 0, .slice none 0 0]) ?_ 2 _ rfl; (with_reducible repeat (first | refine blk_drewN ?_ _ | refine blk_drew ?_ | refine blk_alloc ?_ _)); refine blk_put (cs := #[.int .i64 0, .slice none 0 0, .slice none 0 0]) ?_ 1 _ rfl; (with_reducible repeat (first | refine blk_drewN ?_ _ | refine blk_drew ?_ | refine blk_alloc ?_ _)); refine blk_put (cs := #[.int .i64 0, .slice none 0 0, .slice none 0 0]) ?_ 0 _ rfl; (with_reducible repeat (first | refine blk_drewN ?_ _ | refine blk_drew ?_ | refine blk_alloc ?_ _)); refine blk_far ?_ NB275_287.out _; (with_reducible repeat (first | refine blk_drewN ?_ _ | refine blk_drew ?_ | refine blk_alloc ?_ _)); refine blk_far ?_ NB275_287.out _; (with_reducible repeat (first | refine blk_drewN ?_ _ | refine blk_drew ?_ | refine blk_alloc ?_ _)); refine blk_far ?_ NB275_287.out _; (with_reducible repeat (first | refine blk_drewN ?_ _ | refine blk_drew ?_ | refine blk_alloc ?_ _)); exact BK275.out) Tryd.underlying25 rfl (by kernel_rfl)) rfl ?_
    exact ⟨_, _, by first | rfl | (simp [errW_none, errW_some] <;> rfl) | (simp [*, errW_none, errW_some] <;> rfl), by first | exact Kd.R_nil _ _ _ _ _ | exact Kd.N_nil _ _ _ _ _ | exact Kd.V_nil _ _ _ _ _ | exact Kd.Q_nil _ _ _ _ _ | exact Kd.S_nil _ _ _ _ _, by first | exact Kd.R_nil _ _ _ _ _ | exact Kd.N_nil _ _ _ _ _ | exact Kd.V_nil _ _ _ _ _ | exact Kd.Q_nil _ _ _ _ _ | exact Kd.S_nil _ _ _ _ _, by repeat (first | (with_reducible first | exact HB.out | apply below_alloc | apply pw_below_drewN | apply below_drew1 | refine below_set ?_ GE275.out | refine below_set ?_ GE287.out) | exact HB.out)⟩
def logjamlaw36_lives.f (k : Nat)  : Option (Bool) := (report_Parse.f k (⟨#[114, 101, 112, 111, 114, 116, 32, 51, 10, 116, 104, 114, 101, 97, 100, 32, 48, 10, 32, 32, 119, 97, 121, 32, 49, 32, 111, 102, 32, 49, 58, 49, 32, 43, 32, 50, 32, 111, 102, 32, 48, 58, 49, 44, 52, 58, 50, 10, 32, 32, 119, 97, 121, 10, 116, 104, 114, 101, 97, 100, 32, 52, 10, 101, 110, 100, 10]⟩ : ByteArray)).bind fun bt289 => ((o_RText.f bt289.1 bt289.2.1 bt289.2.2.1).bind fun bt298 => (if bt289.2.2.2 = 0 then (if bt298.2 = 0 then (if ([114, 101, 112, 111, 114, 116, 32, 51, 10, 116, 104, 114, 101, 97, 100, 32, 48, 10, 32, 32, 119, 97, 121, 32, 49, 32, 111, 102, 32, 49, 58, 49, 32, 43, 32, 50, 32, 111, 102, 32, 48, 58, 49, 44, 52, 58, 50, 10, 32, 32, 119, 97, 121, 10, 116, 104, 114, 101, 97, 100, 32, 52, 10, 101, 110, 100, 10] : List UInt8) = bt298.1.toList then (if bt289.1 = 3 then (if (bt289.2.1.length : Int) = 2 then (if 0 < (bt289.2.2.1.length : Int) then (if (((rd_T92 bt289.2.2.1 0).f1).length : Int) = 2 then (if 0 < (((rd_T92 bt289.2.2.1 0).f1).length : Int) then (if 1 < ((rd_L7 ((rd_T92 bt289.2.2.1 0).f1) 0).length : Int) then (some (((rd_T96 (rd_L7 ((rd_T92 bt289.2.2.1 0).f1) 0) 1).f0) == 2)) else (none)) else (none)) else (none)) else (none)) else (none)) else (none)) else (none)) else (none)) else (none)))
set_option maxHeartbeats 8000000 in
set_option maxRecDepth 100000 in
theorem logjamlaw36_lives.calls (k : Nat)  (r : Bool) (w : World) (h : logjamlaw36_lives.f k  = some r) (hG : Gl w) :
  Calls Tryd.prog 42 #[] w fun e w' => e = .returned (.bool r) ∧ Below w.heap.size w w' := by
 have HG := Aside0.mk hG
 clear hG
 have hu25 := Tryd.underlying25
 have HB := Aside0.mk (Below.refl w.heap.size w)
 have H : ((report_Parse.f k (⟨#[114, 101, 112, 111, 114, 116, 32, 51, 10, 116, 104, 114, 101, 97, 100, 32, 48, 10, 32, 32, 119, 97, 121, 32, 49, 32, 111, 102, 32, 49, 58, 49, 32, 43, 32, 50, 32, 111, 102, 32, 48, 58, 49, 44, 52, 58, 50, 10, 32, 32, 119, 97, 121, 10, 116, 104, 114, 101, 97, 100, 32, 52, 10, 101, 110, 100, 10]⟩ : ByteArray)).bind fun bt289 => ((o_RText.f bt289.1 bt289.2.1 bt289.2.2.1).bind fun bt298 => (if bt289.2.2.2 = 0 then (if bt298.2 = 0 then (if ([114, 101, 112, 111, 114, 116, 32, 51, 10, 116, 104, 114, 101, 97, 100, 32, 48, 10, 32, 32, 119, 97, 121, 32, 49, 32, 111, 102, 32, 49, 58, 49, 32, 43, 32, 50, 32, 111, 102, 32, 48, 58, 49, 44, 52, 58, 50, 10, 32, 32, 119, 97, 121, 10, 116, 104, 114, 101, 97, 100, 32, 52, 10, 101, 110, 100, 10] : List UInt8) = bt298.1.toList then (if bt289.1 = 3 then (if (bt289.2.1.length : Int) = 2 then (if 0 < (bt289.2.2.1.length : Int) then (if (((rd_T92 bt289.2.2.1 0).f1).length : Int) = 2 then (if 0 < (((rd_T92 bt289.2.2.1 0).f1).length : Int) then (if 1 < ((rd_L7 ((rd_T92 bt289.2.2.1 0).f1) 0).length : Int) then (some (((rd_T96 (rd_L7 ((rd_T92 bt289.2.2.1 0).f1) 0) 1).f0) == 2)) else (none)) else (none)) else (none)) else (none)) else (none)) else (none)) else (none)) else (none)) else (none)))) = some r := h
 clear h
 replace H := Option.bind_eq_some_iff.mp H
 obtain ⟨⟨t289, t290, t293, t296⟩, A10, H⟩ := H
 replace H : ((o_RText.f t289 t290 t293).bind fun bt298 => (if t296 = 0 then (if bt298.2 = 0 then (if ([114, 101, 112, 111, 114, 116, 32, 51, 10, 116, 104, 114, 101, 97, 100, 32, 48, 10, 32, 32, 119, 97, 121, 32, 49, 32, 111, 102, 32, 49, 58, 49, 32, 43, 32, 50, 32, 111, 102, 32, 48, 58, 49, 44, 52, 58, 50, 10, 32, 32, 119, 97, 121, 10, 116, 104, 114, 101, 97, 100, 32, 52, 10, 101, 110, 100, 10] : List UInt8) = bt298.1.toList then (if t289 = 3 then (if (t290.length : Int) = 2 then (if 0 < (t293.length : Int) then (if (((rd_T92 t293 0).f1).length : Int) = 2 then (if 0 < (((rd_T92 t293 0).f1).length : Int) then (if 1 < ((rd_L7 ((rd_T92 t293 0).f1) 0).length : Int) then (some (((rd_T96 (rd_L7 ((rd_T92 t293 0).f1) 0) 1).f0) == 2)) else (none)) else (none)) else (none)) else (none)) else (none)) else (none)) else (none)) else (none)) else (none))) = some r := H
 have A1 := Aside0.mk A10
 clear A10
 replace H := Option.bind_eq_some_iff.mp H
 obtain ⟨⟨t298, t299⟩, A20, H⟩ := H
 replace H : (if t296 = 0 then (if t299 = 0 then (if ([114, 101, 112, 111, 114, 116, 32, 51, 10, 116, 104, 114, 101, 97, 100, 32, 48, 10, 32, 32, 119, 97, 121, 32, 49, 32, 111, 102, 32, 49, 58, 49, 32, 43, 32, 50, 32, 111, 102, 32, 48, 58, 49, 44, 52, 58, 50, 10, 32, 32, 119, 97, 121, 10, 116, 104, 114, 101, 97, 100, 32, 52, 10, 101, 110, 100, 10] : List UInt8) = t298.toList then (if t289 = 3 then (if (t290.length : Int) = 2 then (if 0 < (t293.length : Int) then (if (((rd_T92 t293 0).f1).length : Int) = 2 then (if 0 < (((rd_T92 t293 0).f1).length : Int) then (if 1 < ((rd_L7 ((rd_T92 t293 0).f1) 0).length : Int) then (some (((rd_T96 (rd_L7 ((rd_T92 t293 0).f1) 0) 1).f0) == 2)) else (none)) else (none)) else (none)) else (none)) else (none)) else (none)) else (none)) else (none)) else (none)) = some r := H
 have A2 := Aside0.mk A20
 clear A20
 by_cases c3 : t296 = 0
 ·rw [if_pos c3] at H
  have c3b0 : (t296 == 0) = true := beq_iff_eq.mpr c3
  have c3b1 : (t296 != 0) = false := bne_eq_false_iff_eq.mpr c3
  clear c3
  by_cases c4 : t299 = 0
  ·rw [if_pos c4] at H
   have c4b0 : (t299 == 0) = true := beq_iff_eq.mpr c4
   have c4b1 : (t299 != 0) = false := bne_eq_false_iff_eq.mpr c4
   clear c4
   by_cases c5 : ([114, 101, 112, 111, 114, 116, 32, 51, 10, 116, 104, 114, 101, 97, 100, 32, 48, 10, 32, 32, 119, 97, 121, 32, 49, 32, 111, 102, 32, 49, 58, 49, 32, 43, 32, 50, 32, 111, 102, 32, 48, 58, 49, 44, 52, 58, 50, 10, 32, 32, 119, 97, 121, 10, 116, 104, 114, 101, 97, 100, 32, 52, 10, 101, 110, 100, 10] : List UInt8) = t298.toList
   ·rw [if_pos c5] at H
    have c5b0 : (([114, 101, 112, 111, 114, 116, 32, 51, 10, 116, 104, 114, 101, 97, 100, 32, 48, 10, 32, 32, 119, 97, 121, 32, 49, 32, 111, 102, 32, 49, 58, 49, 32, 43, 32, 50, 32, 111, 102, 32, 48, 58, 49, 44, 52, 58, 50, 10, 32, 32, 119, 97, 121, 10, 116, 104, 114, 101, 97, 100, 32, 52, 10, 101, 110, 100, 10] : List UInt8) == t298.toList) = true := beq_iff_eq.mpr c5
    have c5b1 : (([114, 101, 112, 111, 114, 116, 32, 51, 10, 116, 104, 114, 101, 97, 100, 32, 48, 10, 32, 32, 119, 97, 121, 32, 49, 32, 111, 102, 32, 49, 58, 49, 32, 43, 32, 50, 32, 111, 102, 32, 48, 58, 49, 44, 52, 58, 50, 10, 32, 32, 119, 97, 121, 10, 116, 104, 114, 101, 97, 100, 32, 52, 10, 101, 110, 100, 10] : List UInt8) != t298.toList) = false := bne_eq_false_iff_eq.mpr c5
    clear c5
    by_cases c6 : t289 = 3
    ·rw [if_pos c6] at H
     have c6b0 : (t289 == 3) = true := beq_iff_eq.mpr c6
     have c6b1 : (t289 != 3) = false := bne_eq_false_iff_eq.mpr c6
     clear c6
     by_cases c7 : (t290.length : Int) = 2
     ·rw [if_pos c7] at H
      have c7b0 : ((t290.length : Int) == 2) = true := beq_iff_eq.mpr c7
      have c7b1 : ((t290.length : Int) != 2) = false := bne_eq_false_iff_eq.mpr c7
      clear c7
      by_cases c8 : 0 < (t293.length : Int)
      ·rw [if_pos c8] at H
       have c8b0 : decide (0 < (t293.length : Int)) = true := decide_eq_true c8
       have c8b1 : decide (0 < t293.length) = true := decide_eq_true (by omega)
       clear c8
       by_cases c9 : (((rd_T92 t293 0).f1).length : Int) = 2
       ·rw [if_pos c9] at H
        have c9b0 : ((((rd_T92 t293 0).f1).length : Int) == 2) = true := beq_iff_eq.mpr c9
        have c9b1 : ((((rd_T92 t293 0).f1).length : Int) != 2) = false := bne_eq_false_iff_eq.mpr c9
        clear c9
        by_cases c10 : 0 < (((rd_T92 t293 0).f1).length : Int)
        ·rw [if_pos c10] at H
         have c10b0 : decide (0 < (((rd_T92 t293 0).f1).length : Int)) = true := decide_eq_true c10
         have c10b1 : decide (0 < ((rd_T92 t293 0).f1).length) = true := decide_eq_true (by omega)
         clear c10
         by_cases c11 : 1 < ((rd_L7 ((rd_T92 t293 0).f1) 0).length : Int)
         ·rw [if_pos c11] at H
          have c11b0 : decide (1 < ((rd_L7 ((rd_T92 t293 0).f1) 0).length : Int)) = true := decide_eq_true c11
          have c11b1 : decide (1 < (rd_L7 ((rd_T92 t293 0).f1) 0).length) = true := decide_eq_true (by omega)
          clear c11
          obtain rfl := Option.some.inj H
          go_enter Tryd.func42, Tryd.ntmps42
          go_wp2_with (first | ((with_reducible refine gate_callee (f := 43) rfl ?_); refine goesL_ (some 8) rfl rfl Tryd.func43 (by kernel_rfl) rfl #[.string (⟨#[114, 101, 112, 111, 114, 116, 32, 51, 10, 116, 104, 114, 101, 97, 100, 32, 48, 10, 32, 32, 119, 97, 121, 32, 49, 32, 111, 102, 32, 49, 58, 49, 32, 43, 32, 50, 32, 111, 102, 32, 48, 58, 49, 44, 52, 58, 50, 10, 32, 32, 119, 97, 121, 10, 116, 104, 114, 101, 97, 100, 32, 52, 10, 101, 110, 100, 10]⟩ : ByteArray)] rfl (by (try simp only [List.map_toArray, List.map_cons, List.map_nil]); first | done | rfl | (simp only [List.length_drop, List.length_take]; rfl)) ?_; (with_reducible refine (report_Parse.calls k (⟨#[114, 101, 112, 111, 114, 116, 32, 51, 10, 116, 104, 114, 101, 97, 100, 32, 48, 10, 32, 32, 119, 97, 121, 32, 49, 32, 111, 102, 32, 49, 58, 49, 32, 43, 32, 50, 32, 111, 102, 32, 48, 58, 49, 44, 52, 58, 50, 10, 32, 32, 119, 97, 121, 10, 116, 104, 114, 101, 97, 100, 32, 52, 10, 101, 110, 100, 10]⟩ : ByteArray) t289 t290 t293 t296 _ A1.out ?side1).mono ?_); (case side1 => exact Gl.below HG.out (by repeat (first | (with_reducible first | exact HB.out | apply below_alloc | apply pw_below_drewN | apply below_drew1) | exact HB.out))); rintro e w12 ⟨v291, v294, rfl, ho0, ho1, hb⟩; refine ⟨_, rfl, ?_⟩; have n0_ := Aside0.mk (Kd.R_lower ho0 (below_size (by repeat (first | (with_reducible first | exact HB.out | apply below_alloc | apply pw_below_drewN | apply below_drew1) | exact HB.out)))); have n1_ := Aside0.mk (Kd.R_lower ho1 (below_size (by repeat (first | (with_reducible first | exact HB.out | apply below_alloc | apply pw_below_drewN | apply below_drew1) | exact HB.out)))); have n2_ := Aside0.mk (below_step (by repeat (first | (with_reducible first | exact HB.out | apply below_alloc | apply pw_below_drewN | apply below_drew1) | exact HB.out)) hb); clear HB; have HO292 := n0_; have HO295 := n1_; have HB := n2_; clear n0_ n1_ n2_; (try clear hb); (try clear hb2); (try clear hk); (try clear hi); (try clear ho0); (try clear ho1)) | ((with_reducible refine gate_dst (N := 2) rfl ?_); (try (refine gate_guard (by rfl) ?_; dsimp only)); refine box_event ?hg (N := 2) ?hd (cs := #[.int .i64 0, .slice none 0 0, .slice none 0 0]) (t := 25) ?hr ?_; (case hd => rfl); (case hg => rfl); (case hr => first | (go_simp; done) | (go_simp; rfl)); intro gb297 hg w13 hbox hb; have n0_ := Aside0.mk (Kd.R_below (by (with_reducible repeat (first | apply Kd.R_alloc | apply Kd.R_drewN | apply Kd.R_drew)); exact HO292.out) hb); have n1_ := Aside0.mk (Kd.R_below (by (with_reducible repeat (first | apply Kd.R_alloc | apply Kd.R_drewN | apply Kd.R_drew)); exact HO295.out) hb); have n2_ := Aside0.mk (below_step (by repeat (first | (with_reducible first | exact HB.out | apply below_alloc | apply pw_below_drewN | apply below_drew1) | exact HB.out)) hb); have n3_ := Aside0.mk (hbox); have n4_ := Aside0.mk ((by rw [hg]; exact (below_size (by repeat (first | (with_reducible first | exact HB.out | apply below_alloc | apply pw_below_drewN | apply below_drew1) | exact HB.out))) : w.heap.size ≤ gb297)); have n5_ := Aside0.mk ((by rw [hg]; exact (below_size (by repeat (first | (with_reducible first | exact HB.out | apply below_alloc | apply pw_below_drewN | apply below_drew1) | exact HB.out))) : w.heap.size ≤ gb297)); clear HO292; clear HO295; clear HB; have HO292 := n0_; have HO295 := n1_; have HB := n2_; have BK297 := n3_; have GW297 := n4_; have GE297 := n5_; clear n0_ n1_ n2_ n3_ n4_ n5_; clear hb hbox hg; have hcz14_0 : w13.cell? ⟨gb297, 0, none⟩ = some (.int .i64 0) := (blk_cell BK297.out 0).trans rfl; have hcz14_1 : w13.cell? ⟨gb297, 1, none⟩ = some (.slice none 0 0) := (blk_cell BK297.out 1).trans rfl; have hcz14_2 : w13.cell? ⟨gb297, 2, none⟩ = some (.slice none 0 0) := (blk_cell BK297.out 2).trans rfl; have hfz14_0 := blk_frozen BK297.out 0; have hfz14_1 := blk_frozen BK297.out 1; have hfz14_2 := blk_frozen BK297.out 2; obtain ⟨Ao15, co15, eo15⟩ := Kd.R_slice HO292.out; subst eo15; obtain ⟨Ao16, co16, eo16⟩ := Kd.R_slice HO295.out; subst eo16) | ((with_reducible refine gate_callee (f := 39) rfl ?_); refine goesL_ (some 13) rfl rfl Tryd.func39 (by kernel_rfl) rfl #[.agg #[.int .i64 t289, .slice Ao15 t290.length co15, .slice Ao16 t293.length co16]] rfl (by (try simp only [List.map_toArray, List.map_cons, List.map_nil]); first | done | rfl | (simp only [List.length_drop, List.length_take]; rfl)) ?_; (with_reducible refine (o_RText.calls t289 _ _ t290 _ _ t293 t298 t299 _ ?side1 ?side2 ?side3 ?side4 A2.out ?side5).mono ?_); (case side1 => refine (Kd.R_reads' (e := 3) (base := w.heap.size) (ok := fun k_ => True) (n := t290.length) (c := co15) ?_).2.2; exact (by (with_reducible repeat (first | apply Kd.R_alloc | apply Kd.R_drewN | apply Kd.R_drew)); exact (Kd.R_mono (Kd.R_far (p := ⟨gb297, 2, none⟩) (Kd.R_far (p := ⟨gb297, 1, none⟩) (Kd.R_far (p := ⟨gb297, 0, none⟩) (Kd.R_types HO292.out BK297.out (by decide)) (fun _ hk => hk.2) (.int .i64 t289)) (fun _ hk => hk.2) (.slice Ao15 t290.length co15)) (fun _ hk => hk.2) (.slice Ao16 t293.length co16)) (fun _ h_ => h_.1)))); (case side2 => exact (Kd.R_reads' HO292.out).2.1); (case side3 => refine (Kd.R_reads' (e := 92) (base := w.heap.size) (ok := fun k_ => True) (n := t293.length) (c := co16) ?_).2.2; exact (by (with_reducible repeat (first | apply Kd.R_alloc | apply Kd.R_drewN | apply Kd.R_drew)); exact (Kd.R_mono (Kd.R_far (p := ⟨gb297, 2, none⟩) (Kd.R_far (p := ⟨gb297, 1, none⟩) (Kd.R_far (p := ⟨gb297, 0, none⟩) (Kd.R_types HO295.out BK297.out (by decide)) (fun _ hk => hk.2) (.int .i64 t289)) (fun _ hk => hk.2) (.slice Ao15 t290.length co15)) (fun _ hk => hk.2) (.slice Ao16 t293.length co16)) (fun _ h_ => h_.1)))); (case side4 => exact (Kd.R_reads' HO295.out).2.1); (case side5 => exact Gl.below HG.out (by repeat (first | (with_reducible first | exact HB.out | apply below_alloc | apply pw_below_drewN | apply below_drew1 | refine below_set ?_ GE297.out) | exact HB.out))); rintro e w17 ⟨rfl, hb⟩; refine ⟨_, rfl, ?_⟩; have n0_ := Aside0.mk (Kd.R_below (by (with_reducible repeat (first | apply Kd.R_alloc | apply Kd.R_drewN | apply Kd.R_drew)); exact (Kd.R_mono (Kd.R_far (p := ⟨gb297, 2, none⟩) (Kd.R_far (p := ⟨gb297, 1, none⟩) (Kd.R_far (p := ⟨gb297, 0, none⟩) (Kd.R_types HO292.out BK297.out (by decide)) (fun _ hk => hk.2) (.int .i64 t289)) (fun _ hk => hk.2) (.slice Ao15 t290.length co15)) (fun _ hk => hk.2) (.slice Ao16 t293.length co16)) (fun _ h_ => h_.1))) hb); have n1_ := Aside0.mk (Kd.R_below (by (with_reducible repeat (first | apply Kd.R_alloc | apply Kd.R_drewN | apply Kd.R_drew)); exact (Kd.R_mono (Kd.R_far (p := ⟨gb297, 2, none⟩) (Kd.R_far (p := ⟨gb297, 1, none⟩) (Kd.R_far (p := ⟨gb297, 0, none⟩) (Kd.R_types HO295.out BK297.out (by decide)) (fun _ hk => hk.2) (.int .i64 t289)) (fun _ hk => hk.2) (.slice Ao15 t290.length co15)) (fun _ hk => hk.2) (.slice Ao16 t293.length co16)) (fun _ h_ => h_.1))) hb); have n2_ := Aside0.mk (blk_below (g := gb297) (o := .cells #[.int .i64 t289, .slice Ao15 t290.length co15, .slice Ao16 t293.length co16] 25 (0, 0)) (by (with_reducible repeat (first | refine blk_drewN ?_ _ | refine blk_drew ?_ | refine blk_alloc ?_ _)); refine blk_put (cs := #[.int .i64 t289, .slice Ao15 t290.length co15, .slice none 0 0]) ?_ 2 _ rfl; (with_reducible repeat (first | refine blk_drewN ?_ _ | refine blk_drew ?_ | refine blk_alloc ?_ _)); refine blk_put (cs := #[.int .i64 t289, .slice none 0 0, .slice none 0 0]) ?_ 1 _ rfl; (with_reducible repeat (first | refine blk_drewN ?_ _ | refine blk_drew ?_ | refine blk_alloc ?_ _)); refine blk_put (cs := #[.int .i64 0, .slice none 0 0, .slice none 0 0]) ?_ 0 _ rfl; (with_reducible repeat (first | refine blk_drewN ?_ _ | refine blk_drew ?_ | refine blk_alloc ?_ _)); exact BK297.out) hb); have n3_ := Aside0.mk (below_step (by repeat (first | (with_reducible first | exact HB.out | apply below_alloc | apply pw_below_drewN | apply below_drew1 | refine below_set ?_ GE297.out) | exact HB.out)) hb); clear HO292; clear HO295; clear BK297; clear HB; have HO292 := n0_; have HO295 := n1_; have BK297 := n2_; have HB := n3_; clear n0_ n1_ n2_ n3_; (try clear hb); (try clear hb2); (try clear hk); (try clear hi); have hcz18_0 : w17.cell? ⟨gb297, 0, none⟩ = some (.int .i64 t289) := (blk_cell BK297.out 0).trans rfl; have hcz18_1 : w17.cell? ⟨gb297, 1, none⟩ = some (.slice Ao15 t290.length co15) := (blk_cell BK297.out 1).trans rfl; have hcz18_2 : w17.cell? ⟨gb297, 2, none⟩ = some (.slice Ao16 t293.length co16) := (blk_cell BK297.out 2).trans rfl; have hfz18_0 := blk_frozen BK297.out 0; have hfz18_1 := blk_frozen BK297.out 1; have hfz18_2 := blk_frozen BK297.out 2; have p300 : 0 ≤ (0 : Int) := (by omega); have q300 : 0 < (t293.length : Int) := of_decide_eq_true (by first | (with_reducible assumption) | assumption); obtain ⟨ad300, A300_1, c300_1, e300, hx300_0, hx300_1, hl300_1, hi300_1⟩ := at_T92 (Kd.R_reads' HO295.out).2.2 0 p300 q300; cases e300; obtain ⟨ce300, hce300, hMe300, hcc300⟩ := Kd.R_get HO295.out z92 0 p300 (by first | exact q300 | exact of_decide_eq_true (by first | (with_reducible assumption) | assumption) | (have e_ := (Kd.R_reads' HO295.out).1; omega)); obtain ⟨ve300_1, rfl, ge300_1⟩ := k92_openM hMe300; have hv300_1 := hcc300 1 _ rfl; rw [add_field _ _ 1 (by omega)] at hv300_1; replace hv300_1 := Option.some.inj (hv300_1.symm.trans hx300_1); rw [hv300_1] at ge300_1; have HL300_1 := Aside0.mk (show Kd.R (Kd.slice 96 k96) 93 _ _ _ _ ((rd_T92 t293 0).f1) from ge300_1); clear hv300_1 ge300_1; clear hcc300 hce300; have qi300 : (0 < t293.length) = True := eq_true (by omega); (try rw [show ((0 : Int)).toNat = 0 from rfl] at hx300_0); (try rw [show 0 * 2 = 0 from rfl] at hx300_0); (try rw [Addr.add_zero'] at hx300_0); (try rw [show ((0 : Int)).toNat = 0 from rfl] at hx300_1); (try rw [show 0 * 2 = 0 from rfl] at hx300_1); (try rw [Addr.add_zero'] at hx300_1); have HR300_1 := Aside0.mk hi300_1; have HC300_1 := Aside0.mk hl300_1; clear hi300_1 hl300_1; replace p300 := eq_true p300; replace q300 := eq_true q300; have p301 : 0 ≤ (0 : Int) := (by omega); have q301 : 0 < (t293.length : Int) := of_decide_eq_true (by first | (with_reducible assumption) | assumption); obtain ⟨ad301, A301_1, c301_1, e301, hx301_0, hx301_1, hl301_1, hi301_1⟩ := at_T92 (Kd.R_reads' HO295.out).2.2 0 p301 q301; obtain rfl : ad300 = ad301 := (by injection e301); obtain ⟨ce301, hce301, hMe301, hcc301⟩ := Kd.R_get HO295.out z92 0 p301 (by first | exact q301 | exact of_decide_eq_true (by first | (with_reducible assumption) | assumption) | (have e_ := (Kd.R_reads' HO295.out).1; omega)); obtain ⟨ve301_1, rfl, ge301_1⟩ := k92_openM hMe301; have hv301_1 := hcc301 1 _ rfl; rw [add_field _ _ 1 (by omega)] at hv301_1; replace hv301_1 := Option.some.inj (hv301_1.symm.trans hx301_1); rw [hv301_1] at ge301_1; have HL301_1 := Aside0.mk (show Kd.R (Kd.slice 96 k96) 93 _ _ _ _ ((rd_T92 t293 0).f1) from ge301_1); clear hv301_1 ge301_1; clear hcc301 hce301; have qi301 : (0 < t293.length) = True := eq_true (by omega); (try rw [show ((0 : Int)).toNat = 0 from rfl] at hx301_0); (try rw [show 0 * 2 = 0 from rfl] at hx301_0); (try rw [Addr.add_zero'] at hx301_0); (try rw [show ((0 : Int)).toNat = 0 from rfl] at hx301_1); (try rw [show 0 * 2 = 0 from rfl] at hx301_1); (try rw [Addr.add_zero'] at hx301_1); have HR301_1 := Aside0.mk hi301_1; have HC301_1 := Aside0.mk hl301_1; clear hi301_1 hl301_1; replace p301 := eq_true p301; replace q301 := eq_true q301; have ea_ := Option.some.inj (hx300_1.symm.trans hx301_1); injection ea_ with ea_ en_ ec_; subst ea_; subst ec_; clear en_; have p302 : 0 ≤ (0 : Int) := (by omega); have q302 : 0 < (((rd_T92 t293 0).f1).length : Int) := of_decide_eq_true (by first | (with_reducible assumption) | assumption); obtain ⟨ad302, A302_0, c302_0, e302, hx302_0, hl302_0, hi302_0⟩ := at_L7 (by repeat (first | (with_reducible exact HR301_1.out) | (with_reducible refine Kd.C_alloc ?_ _) | (with_reducible refine Kd.C_drewN ?_ _) | (with_reducible refine Kd.C_drew ?_) | exact HR301_1.out)) 0 p302 q302; cases e302; obtain ⟨ce302, hce302, hMe302, hcc302⟩ := Kd.R_get HL301_1.out [] 0 p302 (by first | exact q302 | exact of_decide_eq_true (by first | (with_reducible assumption) | assumption) | (have e_ := (Kd.R_reads' HL301_1.out).1; omega)); obtain ⟨ve302_0, rfl, ge302_0⟩ := hMe302; have hv302_0 := hcc302 0 _ rfl; rw [Nat.add_zero, show ((Kd.slice 96 k96)).sz = 1 from rfl, Nat.mul_one] at hv302_0; replace hv302_0 := Option.some.inj (hv302_0.symm.trans hx302_0); rw [hv302_0] at ge302_0; have HL302_0 := Aside0.mk (show Kd.R k96 96 _ _ _ _ (rd_L7 ((rd_T92 t293 0).f1) 0) from ge302_0); clear hv302_0 ge302_0; clear hcc302 hce302; have qi302 : (0 < ((rd_T92 t293 0).f1).length) = True := eq_true (by omega); (try rw [show ((0 : Int)).toNat = 0 from rfl] at hx302_0); (try rw [Addr.add_zero'] at hx302_0); have HR302_0 := Aside0.mk hi302_0; have HC302_0 := Aside0.mk hl302_0; clear hi302_0 hl302_0; replace p302 := eq_true p302; replace q302 := eq_true q302; have p303 : 0 ≤ (1 : Int) := (by omega); have q303 : 1 < ((rd_L7 ((rd_T92 t293 0).f1) 0).length : Int) := of_decide_eq_true (by first | (with_reducible assumption) | assumption); obtain ⟨ad303, A303_1, c303_1, e303, hx303_0, hx303_1, hl303_1, hi303_1⟩ := at_T96 (by repeat (first | (with_reducible exact HR302_0.out) | (with_reducible refine Kd.C_alloc ?_ _) | (with_reducible refine Kd.C_drewN ?_ _) | (with_reducible refine Kd.C_drew ?_) | exact HR302_0.out)) 1 p303 q303; cases e303; obtain ⟨ce303, hce303, hMe303, hcc303⟩ := Kd.R_get HL302_0.out z96 1 p303 (by first | exact q303 | exact of_decide_eq_true (by first | (with_reducible assumption) | assumption) | (have e_ := (Kd.R_reads' HL302_0.out).1; omega)); obtain ⟨ve303_1, rfl, ge303_1⟩ := k96_openM hMe303; have hv303_1 := hcc303 1 _ rfl; rw [add_field _ _ 1 (by omega)] at hv303_1; replace hv303_1 := Option.some.inj (hv303_1.symm.trans hx303_1); rw [hv303_1] at ge303_1; have HL303_1 := Aside0.mk (show Kd.R k108 108 _ _ _ _ ((rd_T96 (rd_L7 ((rd_T92 t293 0).f1) 0) 1).f1) from ge303_1); clear hv303_1 ge303_1; clear hcc303 hce303; (try simp only [show (1 : Int).toNat = 1 from rfl, Nat.reduceMul, Nat.reduceEqDiff, Go.Addr.add, ↓reduceIte] at hx303_0); (try simp only [show (1 : Int).toNat = 1 from rfl, Nat.reduceMul, Nat.reduceEqDiff, Go.Addr.add, ↓reduceIte] at hx303_1); have qi303 : (1 < (rd_L7 ((rd_T92 t293 0).f1) 0).length) = True := eq_true (by omega); (try rw [show ((1 : Int)).toNat = 1 from rfl] at hx303_0); (try rw [show 1 * 2 = 2 from rfl] at hx303_0); (try rw [show ((1 : Int)).toNat = 1 from rfl] at hx303_1); (try rw [show 1 * 2 = 2 from rfl] at hx303_1); have HR303_1 := Aside0.mk hi303_1; have HC303_1 := Aside0.mk hl303_1; clear hi303_1 hl303_1; replace p303 := eq_true p303; replace q303 := eq_true q303))
          go_ret
          exact ⟨by first | rfl | (simp [errW_none, errW_some] <;> rfl) | (simp [*, errW_none, errW_some] <;> rfl), by repeat (first | (with_reducible first | exact HB.out | apply below_alloc | apply pw_below_drewN | apply below_drew1 | refine below_set ?_ GE297.out) | exact HB.out)⟩
         ·rw [if_neg c11] at H
          exact absurd H (by simp)
        ·rw [if_neg c10] at H
         exact absurd H (by simp)
       ·rw [if_neg c9] at H
        exact absurd H (by simp)
      ·rw [if_neg c8] at H
       exact absurd H (by simp)
     ·rw [if_neg c7] at H
      exact absurd H (by simp)
    ·rw [if_neg c6] at H
     exact absurd H (by simp)
   ·rw [if_neg c5] at H
    exact absurd H (by simp)
  ·rw [if_neg c4] at H
   exact absurd H (by simp)
 ·rw [if_neg c3] at H
  exact absurd H (by simp)
end Go.Proofs.YtadepdeckapgcaaDoor.PRp
end
