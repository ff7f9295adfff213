/- LawWitnessTells, part 3: what the proof stands on (merged by wip/shake.py out of the session's texts and of what the print wrote for this claim). -/
import Derived.Deep.DeepCutAuto
import Derived.Deep.RegionLaw
import Derived.Laws.EntriesVeiled
import Derived.Lib.SliceRun
import Derived.Test.YtadepdeckapgcaaDoorZtB

section
namespace Go.Proofs.YtadepdeckapgcaaDoor.PWitnessTells
open Go.RowKit Go.Proofs.YtadepdeckapgcaaDoorW.PrintWords Go.Proofs.YtadepdeckapgcaaDoorW.PrintLast Go.Proofs.YtadepdeckapgcaaDoorW.PrintMore
attribute [local go_sem] max2_int min2_int max_two min_two max_three min_three max_four min_four
set_option linter.unusedVariables false
set_option linter.unusedSimpArgs false
mutual
def logjamref36_Check.j0 : Nat → Bool → Int → List Int → List (S92) → Option (Int)
 | 0, _, _, _, _ => none
 | k + 1, x16, x206000, x206001, x206002 => if x16 = true then (some 1) else (if (x206001.length : Int) = (x206002.length : Int) then (logjamref36_Check.l0 k 0 x206000 x206001 x206002) else (some 2))
def logjamref36_Check.l0 : Nat → Int → Int → List Int → List (S92) → Option (Int)
 | 0, _, _, _, _ => none
 | k + 1, x3, x206000, x206001, x206002 => if x3 < (x206001.length : Int) then (if 0 ≤ x3 then (if (rd x206001 x3) < 0 then (some 2) else (if (rd x206001 x3) > 63 then (some 2) else (if x3 > 0 then (if 0 ≤ (wrap64 (x3 - 1)) then (if (wrap64 (x3 - 1)) < (x206001.length : Int) then (if (rd x206001 x3) ≤ (rd x206001 (wrap64 (x3 - 1))) then (some 2) else (logjamref36_Check.l0 k (wrap64 (x3 + 1)) x206000 x206001 x206002)) else (none)) else (none)) else (logjamref36_Check.l0 k (wrap64 (x3 + 1)) x206000 x206001 x206002)))) else (none)) else (logjamref36_Check.l1 k 0 x206000 x206001 x206002)
def logjamref36_Check.l1 : Nat → Int → Int → List Int → List (S92) → Option (Int)
 | 0, _, _, _, _ => none
 | k + 1, x4, x206000, x206001, x206002 => if x4 < (x206002.length : Int) then (if 0 ≤ x4 then (if ((rd_T92 x206002 x4).f0 = true) then (if (((rd_T92 x206002 x4).f1).length : Int) > 4 then (some 4) else (logjamref36_Check.l2 k x4 0 x206000 x206001 x206002 ((rd_T92 x206002 x4).f0) ((rd_T92 x206002 x4).f1))) else (some 2)) else (none)) else (some 0)
def logjamref36_Check.l2 : Nat → Int → Int → Int → List Int → List (S92) → Bool → List (List (S96)) → Option (Int)
 | 0, _, _, _, _, _, _, _ => none
 | k + 1, x4, x6, x206000, x206001, x206002, x212000, x212001 => if x6 < (x212001.length : Int) then (if 0 ≤ x6 then (if ((rd_L5 x212001 x6).length : Int) > 256 then (some 4) else (logjamref36_Check.l3 k x4 x6 0 x206000 x206001 x206002 x212000 x212001)) else (none)) else (logjamref36_Check.l1 k (wrap64 (x4 + 1)) x206000 x206001 x206002)
def logjamref36_Check.l3 : Nat → Int → Int → Int → Int → List Int → List (S92) → Bool → List (List (S96)) → Option (Int)
 | 0, _, _, _, _, _, _, _, _ => none
 | k + 1, x4, x6, x7, x206000, x206001, x206002, x212000, x212001 => if 0 ≤ x6 then (if x6 < (x212001.length : Int) then (if x7 < ((rd_L5 x212001 x6).length : Int) then (if 0 ≤ x7 then ((logjamref36_term.f k ((rd_T96 (rd_L5 x212001 x6) x7).f0) ((rd_T96 (rd_L5 x212001 x6) x7).f1)).bind fun t216 => (if t216 = 0 then (logjamref36_Check.l3 k x4 x6 (wrap64 (x7 + 1)) x206000 x206001 x206002 x212000 x212001) else (some t216))) else (none)) else (logjamref36_Check.l2 k x4 (wrap64 (x6 + 1)) x206000 x206001 x206002 x212000 x212001)) else (none)) else (none)
end
def logjamref36_Check.f (k : Nat) (a0_0 : Int) (l0_1 : List Int) (l0_2 : List (S92)) : Option (Int) := if a0_0 < 0 then (logjamref36_Check.j0 k true a0_0 l0_1 l0_2) else (logjamref36_Check.j0 k (decide (a0_0 > 1073741824)) a0_0 l0_1 l0_2)
set_option maxHeartbeats 8000000 in
set_option maxRecDepth 100000 in
theorem logjamref36_Check.calls (k : Nat) (a0_0 : Int) (A0_1 : Option Addr) (c0_1 : Nat) (l0_1 : List Int) (A0_2 : Option Addr) (c0_2 : Nat) (l0_2 : List (S92)) (r : Int) (w : World) (hr0_1 : Kd.C (Kd.int .i64) w A0_1 l0_1.length l0_1) (hc0_1 : l0_1.length ≤ c0_1) (hr0_2 : Kd.C k92 w A0_2 l0_2.length l0_2) (hc0_2 : l0_2.length ≤ c0_2) (h : logjamref36_Check.f k a0_0 l0_1 l0_2 = some r) :
  Calls Tryd.prog 38 #[.agg #[.int .i64 a0_0, .slice A0_1 l0_1.length c0_1, .slice A0_2 l0_2.length c0_2]] w fun e w' => e = .returned (.int .i64 r) ∧ Below w.heap.size w w' := by
 have hu25 := Tryd.underlying25
 have hu92 := Tryd.underlying92
 have hu96 := Tryd.underlying96
 have HR0_1 := Aside0.mk hr0_1
 have HC0_1 := Aside0.mk hc0_1
 clear hr0_1 hc0_1
 have HR0_2 := Aside0.mk hr0_2
 have HC0_2 := Aside0.mk hc0_2
 clear hr0_2 hc0_2
 have HB := Aside0.mk (Below.refl w.heap.size w)
 have H : (if a0_0 < 0 then (logjamref36_Check.j0 k true a0_0 l0_1 l0_2) else (logjamref36_Check.j0 k (decide (a0_0 > 1073741824)) a0_0 l0_1 l0_2)) = some r := h
 clear h
 have HC2 := Aside0.mk H
 clear H
 go_enter Tryd.func38, Tryd.ntmps38
 go_upto_region 1 with (first | ((with_reducible refine gate_dst (N := 1) rfl ?_); refine box_event ?hg (N := 1) ?hd (cs := #[.int .i64 a0_0, .slice A0_1 l0_1.length c0_1, .slice A0_2 l0_2.length c0_2]) (t := 25) ?hr ?_; (case hd => rfl); (case hg => rfl); (case hr => first | (go_simp; done) | (go_simp; rfl)); intro gb205 hg w3 hbox hb; have n0_ := Aside0.mk (below_step (by repeat (first | (with_reducible first | exact HB.out | apply below_alloc | apply pw_below_drewN | apply below_drew1) | exact HB.out)) hb); have n1_ := Aside0.mk (hbox); have n2_ := Aside0.mk ((by rw [hg]; exact (below_size (by repeat (first | (with_reducible first | exact HB.out | apply below_alloc | apply pw_below_drewN | apply below_drew1) | exact HB.out))) : w.heap.size ≤ gb205)); have n3_ := Aside0.mk ((by rw [hg]; exact (below_size (by repeat (first | (with_reducible first | exact HB.out | apply below_alloc | apply pw_below_drewN | apply below_drew1) | exact HB.out))) : w.heap.size ≤ gb205)); clear HB; have HB := n0_; have BK205 := n1_; have GW205 := n2_; have GE205 := n3_; clear n0_ n1_ n2_ n3_; clear hb hbox hg))
 repeat (go_quiet (first | ((with_reducible refine gate_dst (N := 1) rfl ?_); refine box_event ?hg (N := 1) ?hd (cs := #[.int .i64 a0_0, .slice A0_1 l0_1.length c0_1, .slice A0_2 l0_2.length c0_2]) (t := 25) ?hr ?_; (case hd => rfl); (case hg => rfl); (case hr => first | (go_simp; done) | (go_simp; rfl)); intro gb205 hg w3 hbox hb; have n0_ := Aside0.mk (below_step (by repeat (first | (with_reducible first | exact HB.out | apply below_alloc | apply pw_below_drewN | apply below_drew1) | exact HB.out)) hb); have n1_ := Aside0.mk (hbox); have n2_ := Aside0.mk ((by rw [hg]; exact (below_size (by repeat (first | (with_reducible first | exact HB.out | apply below_alloc | apply pw_below_drewN | apply below_drew1) | exact HB.out))) : w.heap.size ≤ gb205)); have n3_ := Aside0.mk ((by rw [hg]; exact (below_size (by repeat (first | (with_reducible first | exact HB.out | apply below_alloc | apply pw_below_drewN | apply below_drew1) | exact HB.out))) : w.heap.size ≤ gb205)); clear HB; have HB := n0_; have BK205 := n1_; have GW205 := n2_; have GE205 := n3_; clear n0_ n1_ n2_ n3_; clear hb hbox hg)); go_upto_region 1 with (first | ((with_reducible refine gate_dst (N := 1) rfl ?_); refine box_event ?hg (N := 1) ?hd (cs := #[.int .i64 a0_0, .slice A0_1 l0_1.length c0_1, .slice A0_2 l0_2.length c0_2]) (t := 25) ?hr ?_; (case hd => rfl); (case hg => rfl); (case hr => first | (go_simp; done) | (go_simp; rfl)); intro gb205 hg w3 hbox hb; have n0_ := Aside0.mk (below_step (by repeat (first | (with_reducible first | exact HB.out | apply below_alloc | apply pw_below_drewN | apply below_drew1) | exact HB.out)) hb); have n1_ := Aside0.mk (hbox); have n2_ := Aside0.mk ((by rw [hg]; exact (below_size (by repeat (first | (with_reducible first | exact HB.out | apply below_alloc | apply pw_below_drewN | apply below_drew1) | exact HB.out))) : w.heap.size ≤ gb205)); have n3_ := Aside0.mk ((by rw [hg]; exact (below_size (by repeat (first | (with_reducible first | exact HB.out | apply below_alloc | apply pw_below_drewN | apply below_drew1) | exact HB.out))) : w.heap.size ≤ gb205)); clear HB; have HB := n0_; have BK205 := n1_; have GW205 := n2_; have GE205 := n3_; clear n0_ n1_ n2_ n3_; clear hb hbox hg)))
 (try simp only [Act.put, List.setIfInBounds_toArray, List.set_cons_zero, List.set_cons_succ])
 go_cut [16] (fun v16 wc => ∃ (kq : Nat) (x16_1 : Bool), v16 = .bool x16_1 ∧ Aside0 (logjamref36_Check.j0 kq x16_1 a0_0 l0_1 l0_2 = some r) ∧ Aside0 (kq ≤ k) ∧ Aside0 (wc.heap[gb205]? = some (.cells #[.int .i64 a0_0, (.slice A0_1 l0_1.length c0_1), (.slice A0_2 l0_2.length c0_2)] 25 (0, 0))) ∧ Aside0 (Below w.heap.size w wc))
 case first =>
  have H := HC2.out
  clear HC2
  by_cases c4 : a0_0 < 0
  ·rw [if_pos c4] at H
   have c4b0 : decide (a0_0 < 0) = true := decide_eq_true c4
   clear c4
   (first | rw [c4b0] | (simp only [i64_w, i32_w]; rw [c4b0]) | skip)
   have H' := Aside0.mk H
   clear H
   have hcz5_0 : w3.cell? ⟨gb205, 0, none⟩ = some (.int .i64 a0_0) := (blk_cell BK205.out 0).trans rfl
   have hcz5_1 : w3.cell? ⟨gb205, 1, none⟩ = some (.slice A0_1 l0_1.length c0_1) := (blk_cell BK205.out 1).trans rfl
   have hcz5_2 : w3.cell? ⟨gb205, 2, none⟩ = some (.slice A0_2 l0_2.length c0_2) := (blk_cell BK205.out 2).trans rfl
   have hfz5_0 := blk_frozen BK205.out 0
   have hfz5_1 := blk_frozen BK205.out 1
   have hfz5_2 := blk_frozen BK205.out 2
   go_wp2
   repeat (go_quiet (fail); try go_wp2)
   go_meet
   case rel => exact ⟨_, (true), (by first | rfl | (simp; done) | (simp [*]; done)), H', ⟨by first | omega | exact Nat.le_refl _⟩, ⟨by (with_reducible repeat (first | refine blk_drewN ?_ _ | refine blk_drew ?_ | refine blk_alloc ?_ _)); exact BK205.out⟩, ⟨by repeat (first | (with_reducible first | exact HB.out | apply below_alloc | apply pw_below_drewN | apply below_drew1 | refine below_set ?_ GE205.out) | exact HB.out)⟩⟩
  ·rw [if_neg c4] at H
   have c4b0 : decide (a0_0 < 0) = false := decide_eq_false c4
   clear c4
   (first | rw [c4b0] | (simp only [i64_w, i32_w]; rw [c4b0]) | skip)
   have H' := Aside0.mk H
   clear H
   have hcz6_0 : w3.cell? ⟨gb205, 0, none⟩ = some (.int .i64 a0_0) := (blk_cell BK205.out 0).trans rfl
   have hcz6_1 : w3.cell? ⟨gb205, 1, none⟩ = some (.slice A0_1 l0_1.length c0_1) := (blk_cell BK205.out 1).trans rfl
   have hcz6_2 : w3.cell? ⟨gb205, 2, none⟩ = some (.slice A0_2 l0_2.length c0_2) := (blk_cell BK205.out 2).trans rfl
   have hfz6_0 := blk_frozen BK205.out 0
   have hfz6_1 := blk_frozen BK205.out 1
   have hfz6_2 := blk_frozen BK205.out 2
   go_wp2
   repeat (go_quiet (fail); try go_wp2)
   go_meet
   case rel => exact ⟨_, (decide (a0_0 > 1073741824)), (by first | rfl | (simp; done) | (simp [*]; done)), H', ⟨by first | omega | exact Nat.le_refl _⟩, ⟨by (with_reducible repeat (first | refine blk_drewN ?_ _ | refine blk_drew ?_ | refine blk_alloc ?_ _)); exact BK205.out⟩, ⟨by repeat (first | (with_reducible first | exact HB.out | apply below_alloc | apply pw_below_drewN | apply below_drew1 | refine below_set ?_ GE205.out) | exact HB.out)⟩⟩
 case rest =>
  clear HC2
  try clear p2
  try clear c3
  try clear c4
  try clear c4b0
  try clear hcz5_0
  try clear hcz5_1
  try clear hcz5_2
  try clear hcz6_0
  try clear hcz6_1
  try clear hcz6_2
  try clear hfz5_0
  try clear hfz5_1
  try clear hfz5_2
  try clear hfz6_0
  try clear hfz6_1
  try clear hfz6_2
  obtain ⟨kq, x16_1, rfl, HA, HJ1, BK205, HB⟩ := hcut
  cases kq with
  | zero => exact absurd HA.out (by simp [logjamref36_Check.j0])
  | succ kj1 =>
   have H := HA.out
   clear HA
   simp only [logjamref36_Check.j0] at H
   by_cases c7 : x16_1 = true
   ·subst c7
    have H1 : (some 1) = some r := by rw [if_pos rfl] at H; exact H
    clear H
    have H := H1
    clear H1
    obtain rfl := Option.some.inj H
    go_wp2
    repeat (go_quiet (fail); try go_wp2)
    go_ret
    exact ⟨by first | rfl | (simp [errW_none, errW_some] <;> rfl) | (simp [*, errW_none, errW_some] <;> rfl), by repeat (first | (with_reducible first | exact HB.out | apply below_alloc | apply pw_below_drewN | apply below_drew1 | refine below_set ?_ GE205.out) | exact HB.out)⟩
   ·replace c7 := Bool.eq_false_iff.mpr c7
    subst c7
    have H1 : (if (l0_1.length : Int) = (l0_2.length : Int) then (logjamref36_Check.l0 kj1 0 a0_0 l0_1 l0_2) else (some 2)) = some r := by rw [if_neg (show ¬ (false = true) by decide)] at H; exact H
    clear H
    have H := H1
    clear H1
    by_cases c8 : (l0_1.length : Int) = (l0_2.length : Int)
    ·rw [if_pos c8] at H
     have c8b0 : ((l0_1.length : Int) == (l0_2.length : Int)) = true := beq_iff_eq.mpr c8
     have c8b1 : ((l0_1.length : Int) != (l0_2.length : Int)) = false := bne_eq_false_iff_eq.mpr c8
     have c8b2 : (l0_1.length == l0_2.length) = true := by first | simpa using c8 | (simp at c8 ⊢; omega)
     clear c8
     have H' := Aside0.mk H
     clear H
     have hcz9_0 : wc.cell? ⟨gb205, 0, none⟩ = some (.int .i64 a0_0) := (blk_cell BK205.out 0).trans rfl
     have hcz9_1 : wc.cell? ⟨gb205, 1, none⟩ = some (.slice A0_1 l0_1.length c0_1) := (blk_cell BK205.out 1).trans rfl
     have hcz9_2 : wc.cell? ⟨gb205, 2, none⟩ = some (.slice A0_2 l0_2.length c0_2) := (blk_cell BK205.out 2).trans rfl
     have hfz9_0 := blk_frozen BK205.out 0
     have hfz9_1 := blk_frozen BK205.out 1
     have hfz9_2 := blk_frozen BK205.out 2
     go_wp2
     repeat (go_quiet (fail); try go_wp2)
     go_loopg [3] kj1 (fun kq v3 w' => ∃ (x3_2 : Int), v3 = .int .i64 x3_2 ∧ Aside0 (logjamref36_Check.l0 kq x3_2 a0_0 l0_1 l0_2 = some r) ∧ Aside0 (kq ≤ kj1) ∧ Aside0 (w'.heap[gb205]? = some (.cells #[.int .i64 a0_0, (.slice A0_1 l0_1.length c0_1), (.slice A0_2 l0_2.length c0_2)] 25 (0, 0))) ∧ Aside0 (Below w.heap.size w w'))
     case atStart => exact ⟨(0), (by first | rfl | (simp; done) | (simp [*]; done)), H', ⟨Nat.le_refl _⟩, ⟨by (with_reducible repeat (first | refine blk_drewN ?_ _ | refine blk_drew ?_ | refine blk_alloc ?_ _)); exact BK205.out⟩, ⟨by repeat (first | (with_reducible first | exact HB.out | apply below_alloc | apply pw_below_drewN | apply below_drew1 | refine below_set ?_ GE205.out) | exact HB.out)⟩⟩
     case round =>
      clear H'
      try clear p2
      try clear c3
      try clear c4
      try clear c4b0
      try clear c7
      try clear c8
      try clear c8b0
      try clear c8b1
      try clear c8b2
      try clear hcz5_0
      try clear hcz5_1
      try clear hcz5_2
      try clear hcz6_0
      try clear hcz6_1
      try clear hcz6_2
      try clear hcz9_0
      try clear hcz9_1
      try clear hcz9_2
      try clear hfz5_0
      try clear hfz5_1
      try clear hfz5_2
      try clear hfz6_0
      try clear hfz6_1
      try clear hfz6_2
      try clear hfz9_0
      try clear hfz9_1
      try clear hfz9_2
      try clear p2
      obtain ⟨x3_2, rfl, HA, HK2, BK205, HB⟩ := hrel
      cases gk with
      | zero => exact absurd HA.out (by simp [logjamref36_Check.l0])
      | succ k2 =>
       have H := HA.out
       clear HA
       simp only [logjamref36_Check.l0] at H
       by_cases c10 : x3_2 < (l0_1.length : Int)
       ·rw [if_pos c10] at H
        have c10b0 : decide (x3_2 < (l0_1.length : Int)) = true := decide_eq_true c10
        clear c10
        by_cases c11 : 0 ≤ x3_2
        ·rw [if_pos c11] at H
         have c11b0 : decide (0 ≤ x3_2) = true := decide_eq_true c11
         clear c11
         by_cases c12 : (rd l0_1 x3_2) < 0
         ·rw [if_pos c12] at H
          have c12b0 : decide ((rd l0_1 x3_2) < 0) = true := decide_eq_true c12
          clear c12
          obtain rfl := Option.some.inj H
          have hcz13_0 : wr.cell? ⟨gb205, 0, none⟩ = some (.int .i64 a0_0) := (blk_cell BK205.out 0).trans rfl
          have hcz13_1 : wr.cell? ⟨gb205, 1, none⟩ = some (.slice A0_1 l0_1.length c0_1) := (blk_cell BK205.out 1).trans rfl
          have hcz13_2 : wr.cell? ⟨gb205, 2, none⟩ = some (.slice A0_2 l0_2.length c0_2) := (blk_cell BK205.out 2).trans rfl
          have hfz13_0 := blk_frozen BK205.out 0
          have hfz13_1 := blk_frozen BK205.out 1
          have hfz13_2 := blk_frozen BK205.out 2
          have p206 : 0 ≤ (x3_2 : Int) := of_decide_eq_true (by first | (with_reducible assumption) | assumption)
          have q206 : x3_2 < (l0_1.length : Int) := of_decide_eq_true (by first | (with_reducible assumption) | assumption)
          obtain ⟨ad206, e206, hx206_0⟩ := Kd.at_int HR0_1.out x3_2 p206 q206
          cases e206
          replace hx206_0 := (HB.out.cell (World.block_lt_of_cell? w _ hx206_0)).trans hx206_0
          replace p206 := eq_true p206
          replace q206 := eq_true q206
          go_wp2
          repeat (go_quiet (fail); try go_wp2)
          go_ret
          exact ⟨by first | rfl | (simp [errW_none, errW_some] <;> rfl) | (simp [*, errW_none, errW_some] <;> rfl), by repeat (first | (with_reducible first | exact HB.out | apply below_alloc | apply pw_below_drewN | apply below_drew1 | refine below_set ?_ GE205.out) | exact HB.out)⟩
         ·rw [if_neg c12] at H
          have c12b0 : decide ((rd l0_1 x3_2) < 0) = false := decide_eq_false c12
          clear c12
          by_cases c14 : (rd l0_1 x3_2) > 63
          ·rw [if_pos c14] at H
           have c14b0 : decide (63 < (rd l0_1 x3_2)) = true := decide_eq_true c14
           clear c14
           obtain rfl := Option.some.inj H
           have hcz15_0 : wr.cell? ⟨gb205, 0, none⟩ = some (.int .i64 a0_0) := (blk_cell BK205.out 0).trans rfl
           have hcz15_1 : wr.cell? ⟨gb205, 1, none⟩ = some (.slice A0_1 l0_1.length c0_1) := (blk_cell BK205.out 1).trans rfl
           have hcz15_2 : wr.cell? ⟨gb205, 2, none⟩ = some (.slice A0_2 l0_2.length c0_2) := (blk_cell BK205.out 2).trans rfl
           have hfz15_0 := blk_frozen BK205.out 0
           have hfz15_1 := blk_frozen BK205.out 1
           have hfz15_2 := blk_frozen BK205.out 2
           have p206 : 0 ≤ (x3_2 : Int) := of_decide_eq_true (by first | (with_reducible assumption) | assumption)
           have q206 : x3_2 < (l0_1.length : Int) := of_decide_eq_true (by first | (with_reducible assumption) | assumption)
           obtain ⟨ad206, e206, hx206_0⟩ := Kd.at_int HR0_1.out x3_2 p206 q206
           cases e206
           replace hx206_0 := (HB.out.cell (World.block_lt_of_cell? w _ hx206_0)).trans hx206_0
           replace p206 := eq_true p206
           replace q206 := eq_true q206
           have p207 : 0 ≤ (x3_2 : Int) := of_decide_eq_true (by first | (with_reducible assumption) | assumption)
           have q207 : x3_2 < (l0_1.length : Int) := of_decide_eq_true (by first | (with_reducible assumption) | assumption)
           obtain ⟨ad207, e207, hx207_0⟩ := Kd.at_int HR0_1.out x3_2 p207 q207
           obtain rfl : ad206 = ad207 := (by injection e207)
           replace hx207_0 := (HB.out.cell (World.block_lt_of_cell? w _ hx207_0)).trans hx207_0
           replace p207 := eq_true p207
           replace q207 := eq_true q207
           go_wp2
           repeat (go_quiet (fail); try go_wp2)
           go_ret
           exact ⟨by first | rfl | (simp [errW_none, errW_some] <;> rfl) | (simp [*, errW_none, errW_some] <;> rfl), by repeat (first | (with_reducible first | exact HB.out | apply below_alloc | apply pw_below_drewN | apply below_drew1 | refine below_set ?_ GE205.out) | exact HB.out)⟩
          ·rw [if_neg c14] at H
           have c14b0 : decide (63 < (rd l0_1 x3_2)) = false := decide_eq_false c14
           clear c14
           by_cases c16 : x3_2 > 0
           ·rw [if_pos c16] at H
            have c16b0 : decide (0 < x3_2) = true := decide_eq_true c16
            clear c16
            obtain ⟨ji17, hji17⟩ : ∃ j_ : Int, (wrap64 (x3_2 - 1)) = j_ := ⟨_, rfl⟩
            replace H : (if 0 ≤ (ji17) then (if (ji17) < (l0_1.length : Int) then (if (rd l0_1 x3_2) ≤ (rd l0_1 (ji17)) then (some 2) else (logjamref36_Check.l0 k2 (wrap64 (x3_2 + 1)) a0_0 l0_1 l0_2)) else (none)) else (none)) = some r := by first | (rw [hji17] at H; exact H) | (simp only [hji17] at H ⊢; exact H)
            have hji17w : (IntKind.i64.wrap (x3_2 - 1)) = ji17 := (i64_w _).trans hji17
            by_cases c18 : 0 ≤ (ji17)
            ·rw [if_pos c18] at H
             have c18b0 : decide (0 ≤ (ji17)) = true := decide_eq_true c18
             clear c18
             by_cases c19 : (ji17) < (l0_1.length : Int)
             ·rw [if_pos c19] at H
              have c19b0 : decide ((ji17) < (l0_1.length : Int)) = true := decide_eq_true c19
              clear c19
              by_cases c20 : (rd l0_1 x3_2) ≤ (rd l0_1 (ji17))
              ·rw [if_pos c20] at H
               have c20b0 : decide ((rd l0_1 x3_2) ≤ (rd l0_1 (ji17))) = true := decide_eq_true c20
               clear c20
               obtain rfl := Option.some.inj H
               have hcz21_0 : wr.cell? ⟨gb205, 0, none⟩ = some (.int .i64 a0_0) := (blk_cell BK205.out 0).trans rfl
               have hcz21_1 : wr.cell? ⟨gb205, 1, none⟩ = some (.slice A0_1 l0_1.length c0_1) := (blk_cell BK205.out 1).trans rfl
               have hcz21_2 : wr.cell? ⟨gb205, 2, none⟩ = some (.slice A0_2 l0_2.length c0_2) := (blk_cell BK205.out 2).trans rfl
               have hfz21_0 := blk_frozen BK205.out 0
               have hfz21_1 := blk_frozen BK205.out 1
               have hfz21_2 := blk_frozen BK205.out 2
               have p206 : 0 ≤ (x3_2 : Int) := of_decide_eq_true (by first | (with_reducible assumption) | assumption)
               have q206 : x3_2 < (l0_1.length : Int) := of_decide_eq_true (by first | (with_reducible assumption) | assumption)
               obtain ⟨ad206, e206, hx206_0⟩ := Kd.at_int HR0_1.out x3_2 p206 q206
               cases e206
               replace hx206_0 := (HB.out.cell (World.block_lt_of_cell? w _ hx206_0)).trans hx206_0
               replace p206 := eq_true p206
               replace q206 := eq_true q206
               have p207 : 0 ≤ (x3_2 : Int) := of_decide_eq_true (by first | (with_reducible assumption) | assumption)
               have q207 : x3_2 < (l0_1.length : Int) := of_decide_eq_true (by first | (with_reducible assumption) | assumption)
               obtain ⟨ad207, e207, hx207_0⟩ := Kd.at_int HR0_1.out x3_2 p207 q207
               obtain rfl : ad206 = ad207 := (by injection e207)
               replace hx207_0 := (HB.out.cell (World.block_lt_of_cell? w _ hx207_0)).trans hx207_0
               replace p207 := eq_true p207
               replace q207 := eq_true q207
               have p208 : 0 ≤ (x3_2 : Int) := of_decide_eq_true (by first | (with_reducible assumption) | assumption)
               have q208 : x3_2 < (l0_1.length : Int) := of_decide_eq_true (by first | (with_reducible assumption) | assumption)
               obtain ⟨ad208, e208, hx208_0⟩ := Kd.at_int HR0_1.out x3_2 p208 q208
               obtain rfl : ad206 = ad208 := (by injection e208)
               replace hx208_0 := (HB.out.cell (World.block_lt_of_cell? w _ hx208_0)).trans hx208_0
               replace p208 := eq_true p208
               replace q208 := eq_true q208
               have p209 : 0 ≤ ((ji17) : Int) := of_decide_eq_true (by first | (with_reducible assumption) | assumption)
               have q209 : (ji17) < (l0_1.length : Int) := of_decide_eq_true (by first | (with_reducible assumption) | assumption)
               obtain ⟨ad209, e209, hx209_0⟩ := Kd.at_int HR0_1.out (ji17) p209 q209
               obtain rfl : ad206 = ad209 := (by injection e209)
               replace hx209_0 := (HB.out.cell (World.block_lt_of_cell? w _ hx209_0)).trans hx209_0
               replace p209 := eq_true p209
               replace q209 := eq_true q209
               go_wp2
               repeat (go_quiet (fail); try go_wp2)
               go_ret
               exact ⟨by first | rfl | (simp [errW_none, errW_some] <;> rfl) | (simp only [← hji17]; first | rfl | (simp [errW_none, errW_some] <;> rfl)) | (simp [*, errW_none, errW_some] <;> rfl), by repeat (first | (with_reducible first | exact HB.out | apply below_alloc | apply pw_below_drewN | apply below_drew1 | refine below_set ?_ GE205.out) | exact HB.out)⟩
              ·rw [if_neg c20] at H
               have c20b0 : decide ((rd l0_1 x3_2) ≤ (rd l0_1 (ji17))) = false := decide_eq_false c20
               clear c20
               have H' := Aside0.mk H
               clear H
               have hcz22_0 : wr.cell? ⟨gb205, 0, none⟩ = some (.int .i64 a0_0) := (blk_cell BK205.out 0).trans rfl
               have hcz22_1 : wr.cell? ⟨gb205, 1, none⟩ = some (.slice A0_1 l0_1.length c0_1) := (blk_cell BK205.out 1).trans rfl
               have hcz22_2 : wr.cell? ⟨gb205, 2, none⟩ = some (.slice A0_2 l0_2.length c0_2) := (blk_cell BK205.out 2).trans rfl
               have hfz22_0 := blk_frozen BK205.out 0
               have hfz22_1 := blk_frozen BK205.out 1
               have hfz22_2 := blk_frozen BK205.out 2
               have p206 : 0 ≤ (x3_2 : Int) := of_decide_eq_true (by first | (with_reducible assumption) | assumption)
               have q206 : x3_2 < (l0_1.length : Int) := of_decide_eq_true (by first | (with_reducible assumption) | assumption)
               obtain ⟨ad206, e206, hx206_0⟩ := Kd.at_int HR0_1.out x3_2 p206 q206
               cases e206
               replace hx206_0 := (HB.out.cell (World.block_lt_of_cell? w _ hx206_0)).trans hx206_0
               replace p206 := eq_true p206
               replace q206 := eq_true q206
               have p207 : 0 ≤ (x3_2 : Int) := of_decide_eq_true (by first | (with_reducible assumption) | assumption)
               have q207 : x3_2 < (l0_1.length : Int) := of_decide_eq_true (by first | (with_reducible assumption) | assumption)
               obtain ⟨ad207, e207, hx207_0⟩ := Kd.at_int HR0_1.out x3_2 p207 q207
               obtain rfl : ad206 = ad207 := (by injection e207)
               replace hx207_0 := (HB.out.cell (World.block_lt_of_cell? w _ hx207_0)).trans hx207_0
               replace p207 := eq_true p207
               replace q207 := eq_true q207
               have p208 : 0 ≤ (x3_2 : Int) := of_decide_eq_true (by first | (with_reducible assumption) | assumption)
               have q208 : x3_2 < (l0_1.length : Int) := of_decide_eq_true (by first | (with_reducible assumption) | assumption)
               obtain ⟨ad208, e208, hx208_0⟩ := Kd.at_int HR0_1.out x3_2 p208 q208
               obtain rfl : ad206 = ad208 := (by injection e208)
               replace hx208_0 := (HB.out.cell (World.block_lt_of_cell? w _ hx208_0)).trans hx208_0
               replace p208 := eq_true p208
               replace q208 := eq_true q208
               have p209 : 0 ≤ ((ji17) : Int) := of_decide_eq_true (by first | (with_reducible assumption) | assumption)
               have q209 : (ji17) < (l0_1.length : Int) := of_decide_eq_true (by first | (with_reducible assumption) | assumption)
               obtain ⟨ad209, e209, hx209_0⟩ := Kd.at_int HR0_1.out (ji17) p209 q209
               obtain rfl : ad206 = ad209 := (by injection e209)
               replace hx209_0 := (HB.out.cell (World.block_lt_of_cell? w _ hx209_0)).trans hx209_0
               replace p209 := eq_true p209
               replace q209 := eq_true q209
               go_wp2
               repeat (go_quiet (fail); try go_wp2)
               go_roundg k2
               case measure => have := HJ1.out; have := HK2.out; omega
               case rel => exact ⟨(wrap64 (x3_2 + 1)), (by first | rfl | (simp; done) | (simp [*]; done)), H', ⟨by have := HJ1.out; have := HK2.out; omega⟩, ⟨by (with_reducible repeat (first | refine blk_drewN ?_ _ | refine blk_drew ?_ | refine blk_alloc ?_ _)); exact BK205.out⟩, ⟨by repeat (first | (with_reducible first | exact HB.out | apply below_alloc | apply pw_below_drewN | apply below_drew1 | refine below_set ?_ GE205.out) | exact HB.out)⟩⟩
             ·rw [if_neg c19] at H
              exact absurd H (by simp)
            ·rw [if_neg c18] at H
             exact absurd H (by simp)
           ·rw [if_neg c16] at H
            have c16b0 : decide (0 < x3_2) = false := decide_eq_false c16
            clear c16
            have H' := Aside0.mk H
            clear H
            have hcz23_0 : wr.cell? ⟨gb205, 0, none⟩ = some (.int .i64 a0_0) := (blk_cell BK205.out 0).trans rfl
            have hcz23_1 : wr.cell? ⟨gb205, 1, none⟩ = some (.slice A0_1 l0_1.length c0_1) := (blk_cell BK205.out 1).trans rfl
            have hcz23_2 : wr.cell? ⟨gb205, 2, none⟩ = some (.slice A0_2 l0_2.length c0_2) := (blk_cell BK205.out 2).trans rfl
            have hfz23_0 := blk_frozen BK205.out 0
            have hfz23_1 := blk_frozen BK205.out 1
            have hfz23_2 := blk_frozen BK205.out 2
            have p206 : 0 ≤ (x3_2 : Int) := of_decide_eq_true (by first | (with_reducible assumption) | assumption)
            have q206 : x3_2 < (l0_1.length : Int) := of_decide_eq_true (by first | (with_reducible assumption) | assumption)
            obtain ⟨ad206, e206, hx206_0⟩ := Kd.at_int HR0_1.out x3_2 p206 q206
            cases e206
            replace hx206_0 := (HB.out.cell (World.block_lt_of_cell? w _ hx206_0)).trans hx206_0
            replace p206 := eq_true p206
            replace q206 := eq_true q206
            have p207 : 0 ≤ (x3_2 : Int) := of_decide_eq_true (by first | (with_reducible assumption) | assumption)
            have q207 : x3_2 < (l0_1.length : Int) := of_decide_eq_true (by first | (with_reducible assumption) | assumption)
            obtain ⟨ad207, e207, hx207_0⟩ := Kd.at_int HR0_1.out x3_2 p207 q207
            obtain rfl : ad206 = ad207 := (by injection e207)
            replace hx207_0 := (HB.out.cell (World.block_lt_of_cell? w _ hx207_0)).trans hx207_0
            replace p207 := eq_true p207
            replace q207 := eq_true q207
            go_wp2
            repeat (go_quiet (fail); try go_wp2)
            go_roundg k2
            case measure => have := HJ1.out; have := HK2.out; omega
            case rel => exact ⟨(wrap64 (x3_2 + 1)), (by first | rfl | (simp; done) | (simp [*]; done)), H', ⟨by have := HJ1.out; have := HK2.out; omega⟩, ⟨by (with_reducible repeat (first | refine blk_drewN ?_ _ | refine blk_drew ?_ | refine blk_alloc ?_ _)); exact BK205.out⟩, ⟨by repeat (first | (with_reducible first | exact HB.out | apply below_alloc | apply pw_below_drewN | apply below_drew1 | refine below_set ?_ GE205.out) | exact HB.out)⟩⟩
        ·rw [if_neg c11] at H
         exact absurd H (by simp)
       ·rw [if_neg c10] at H
        have c10b0 : decide (x3_2 < (l0_1.length : Int)) = false := decide_eq_false c10
        clear c10
        have H' := Aside0.mk H
        clear H
        have hcz24_0 : wr.cell? ⟨gb205, 0, none⟩ = some (.int .i64 a0_0) := (blk_cell BK205.out 0).trans rfl
        have hcz24_1 : wr.cell? ⟨gb205, 1, none⟩ = some (.slice A0_1 l0_1.length c0_1) := (blk_cell BK205.out 1).trans rfl
        have hcz24_2 : wr.cell? ⟨gb205, 2, none⟩ = some (.slice A0_2 l0_2.length c0_2) := (blk_cell BK205.out 2).trans rfl
        have hfz24_0 := blk_frozen BK205.out 0
        have hfz24_1 := blk_frozen BK205.out 1
        have hfz24_2 := blk_frozen BK205.out 2
        go_wp2
        repeat (go_quiet (fail); try go_wp2)
        go_loopg [4] k2 (fun kq v4 w' => ∃ (x4_3 : Int), v4 = .int .i64 x4_3 ∧ Aside0 (logjamref36_Check.l1 kq x4_3 a0_0 l0_1 l0_2 = some r) ∧ Aside0 (kq ≤ k2) ∧ Aside0 (w'.heap[gb205]? = some (.cells #[.int .i64 a0_0, (.slice A0_1 l0_1.length c0_1), (.slice A0_2 l0_2.length c0_2)] 25 (0, 0))) ∧ Aside0 (Below w.heap.size w w'))
        case atStart => exact ⟨(0), (by first | rfl | (simp; done) | (simp [*]; done)), H', ⟨Nat.le_refl _⟩, ⟨by (with_reducible repeat (first | refine blk_drewN ?_ _ | refine blk_drew ?_ | refine blk_alloc ?_ _)); exact BK205.out⟩, ⟨by repeat (first | (with_reducible first | exact HB.out | apply below_alloc | apply pw_below_drewN | apply below_drew1 | refine below_set ?_ GE205.out) | exact HB.out)⟩⟩
        case round =>
         clear H'
         try clear c1
         try clear c2
         try clear p2
         try clear q2
         try clear hx2
         try clear c3
         try clear c4
         try clear c4b0
         try clear p6
         try clear c7
         try clear c8
         try clear c8b0
         try clear c8b1
         try clear c8b2
         try clear c10
         try clear c10b0
         try clear c11
         try clear c11b0
         try clear c12
         try clear c12b0
         try clear c14
         try clear c14b0
         try clear c16
         try clear c16b0
         try clear c18
         try clear c18b0
         try clear c19
         try clear c19b0
         try clear c20
         try clear c20b0
         try clear p20
         try clear q20
         try clear hx20
         try clear hcz13_0
         try clear hcz13_1
         try clear hcz13_2
         try clear hcz15_0
         try clear hcz15_1
         try clear hcz15_2
         try clear hcz21_0
         try clear hcz21_1
         try clear hcz21_2
         try clear hcz22_0
         try clear hcz22_1
         try clear hcz22_2
         try clear hcz23_0
         try clear hcz23_1
         try clear hcz23_2
         try clear hcz24_0
         try clear hcz24_1
         try clear hcz24_2
         try clear hcz5_0
         try clear hcz5_1
         try clear hcz5_2
         try clear hcz6_0
         try clear hcz6_1
         try clear hcz6_2
         try clear hcz9_0
         try clear hcz9_1
         try clear hcz9_2
         try clear hfz13_0
         try clear hfz13_1
         try clear hfz13_2
         try clear hfz15_0
         try clear hfz15_1
         try clear hfz15_2
         try clear hfz21_0
         try clear hfz21_1
         try clear hfz21_2
         try clear hfz22_0
         try clear hfz22_1
         try clear hfz22_2
         try clear hfz23_0
         try clear hfz23_1
         try clear hfz23_2
         try clear hfz24_0
         try clear hfz24_1
         try clear hfz24_2
         try clear hfz5_0
         try clear hfz5_1
         try clear hfz5_2
         try clear hfz6_0
         try clear hfz6_1
         try clear hfz6_2
         try clear hfz9_0
         try clear hfz9_1
         try clear hfz9_2
         try clear hx206_0
         try clear hx207_0
         try clear hx208_0
         try clear hx209_0
         try clear p2
         try clear p206
         try clear p207
         try clear p208
         try clear p209
         try clear q206
         try clear q207
         try clear q208
         try clear q209
         obtain ⟨x4_3, rfl, HA, HK3, BK205, HB⟩ := hrel
         cases gk with
         | zero => exact absurd HA.out (by simp [logjamref36_Check.l1])
         | succ k3 =>
          have H := HA.out
          clear HA
          simp only [logjamref36_Check.l1] at H
          by_cases c25 : x4_3 < (l0_2.length : Int)
          ·rw [if_pos c25] at H
           have c25b0 : decide (x4_3 < (l0_2.length : Int)) = true := decide_eq_true c25
           clear c25
           by_cases c26 : 0 ≤ x4_3
           ·rw [if_pos c26] at H
            have c26b0 : decide (0 ≤ x4_3) = true := decide_eq_true c26
            clear c26
            obtain ⟨bq27, hbq27⟩ : ∃ b_ : Bool, b_ = ((rd_T92 l0_2 x4_3).f0) := ⟨_, rfl⟩
            replace H : (if (bq27 = true) then (if (((rd_T92 l0_2 x4_3).f1).length : Int) > 4 then (some 4) else (logjamref36_Check.l2 k3 x4_3 0 a0_0 l0_1 l0_2 bq27 ((rd_T92 l0_2 x4_3).f1))) else (some 2)) = some r := by rw [← hbq27] at H; exact H
            have Nbq27 := Aside0.mk hbq27
            clear hbq27
            by_cases c28 : (bq27 = true)
            ·subst c28
             have H1 : (if (((rd_T92 l0_2 x4_3).f1).length : Int) > 4 then (some 4) else (logjamref36_Check.l2 k3 x4_3 0 a0_0 l0_1 l0_2 true ((rd_T92 l0_2 x4_3).f1))) = some r := by rw [if_pos rfl] at H; exact H
             clear H
             have H := H1
             clear H1
             by_cases c29 : (((rd_T92 l0_2 x4_3).f1).length : Int) > 4
             ·rw [if_pos c29] at H
              have c29b0 : decide (4 < (((rd_T92 l0_2 x4_3).f1).length : Int)) = true := decide_eq_true c29
              have c29b1 : decide (4 < ((rd_T92 l0_2 x4_3).f1).length) = true := decide_eq_true (by omega)
              clear c29
              obtain rfl := Option.some.inj H
              have hcz30_0 : wr.cell? ⟨gb205, 0, none⟩ = some (.int .i64 a0_0) := (blk_cell BK205.out 0).trans rfl
              have hcz30_1 : wr.cell? ⟨gb205, 1, none⟩ = some (.slice A0_1 l0_1.length c0_1) := (blk_cell BK205.out 1).trans rfl
              have hcz30_2 : wr.cell? ⟨gb205, 2, none⟩ = some (.slice A0_2 l0_2.length c0_2) := (blk_cell BK205.out 2).trans rfl
              have hfz30_0 := blk_frozen BK205.out 0
              have hfz30_1 := blk_frozen BK205.out 1
              have hfz30_2 := blk_frozen BK205.out 2
              have p210 : 0 ≤ (x4_3 : Int) := of_decide_eq_true (by first | (with_reducible assumption) | assumption)
              have q210 : x4_3 < (l0_2.length : Int) := of_decide_eq_true (by first | (with_reducible assumption) | assumption)
              obtain ⟨ad210, A210_1, c210_1, e210, hx210_0, hx210_1, hl210_1, hi210_1⟩ := at_T92 HR0_2.out x4_3 p210 q210
              (try rw [← Nbq27.out] at hx210_0)
              cases e210
              replace hx210_0 := (HB.out.cell (World.block_lt_of_cell? w _ hx210_0)).trans hx210_0
              replace hx210_1 := (HB.out.cell (World.block_lt_of_cell? w _ hx210_1)).trans hx210_1
              have HR210_1 := Aside0.mk hi210_1
              have HC210_1 := Aside0.mk hl210_1
              clear hi210_1 hl210_1
              replace p210 := eq_true p210
              replace q210 := eq_true q210
              go_wp2_with (first | ((with_reducible refine gate_dst (N := 5) rfl ?_); refine box_event ?hg (N := 5) ?hd (cs := #[.bool false, .slice none 0 0]) (t := 92) ?hr ?_; (case hd => rfl); (case hg => rfl); (case hr => first | (go_simp; done) | (go_simp; rfl)); intro gb211 hg w31 hbox hb; have n0_ := Aside0.mk (blk_below (g := gb205) (o := .cells #[.int .i64 a0_0, .slice A0_1 l0_1.length c0_1, .slice (some ad210) l0_2.length c0_2] 25 (0, 0)) (by (with_reducible repeat (first | refine blk_drewN ?_ _ | refine blk_drew ?_ | refine blk_alloc ?_ _)); exact BK205.out) hb); have n1_ := Aside0.mk (below_step (by repeat (first | (with_reducible first | exact HB.out | apply below_alloc | apply pw_below_drewN | apply below_drew1 | refine below_set ?_ GE205.out) | exact HB.out)) hb); have n2_ := Aside0.mk (hbox); have n3_ := Aside0.mk ((by rw [hg]; exact (below_size (by repeat (first | (with_reducible first | exact HB.out | apply below_alloc | apply pw_below_drewN | apply below_drew1 | refine below_set ?_ GE205.out) | exact HB.out))) : w.heap.size ≤ gb211)); have n4_ := Aside0.mk ((by rw [hg]; exact (below_size (by repeat (first | (with_reducible first | exact HB.out | apply below_alloc | apply pw_below_drewN | apply below_drew1 | refine below_set ?_ GE205.out) | exact HB.out))) : w.heap.size ≤ gb211)); have n5_ := Aside0.mk ((by rw [hg]; exact Nat.ne_of_lt (blk_lt (g := gb205) (o := .cells #[.int .i64 a0_0, .slice A0_1 l0_1.length c0_1, .slice (some ad210) l0_2.length c0_2] 25 (0, 0)) (by (with_reducible repeat (first | refine blk_drewN ?_ _ | refine blk_drew ?_ | refine blk_alloc ?_ _)); exact BK205.out)) : gb205 ≠ gb211)); have n6_ := Aside0.mk ((by rw [hg]; exact Nat.ne_of_gt (blk_lt (g := gb205) (o := .cells #[.int .i64 a0_0, .slice A0_1 l0_1.length c0_1, .slice (some ad210) l0_2.length c0_2] 25 (0, 0)) (by (with_reducible repeat (first | refine blk_drewN ?_ _ | refine blk_drew ?_ | refine blk_alloc ?_ _)); exact BK205.out)) : gb211 ≠ gb205)); clear BK205; clear HB; have BK205 := n0_; have HB := n1_; have BK211 := n2_; have GW211 := n3_; have GE211 := n4_; have NB205_211 := n5_; have NB211_205 := n6_; clear n0_ n1_ n2_ n3_ n4_ n5_ n6_; clear hb hbox hg; have hnb32 := NB211_205.out; have hnc32 := NB205_211.out; have hcz33_0 : w31.cell? ⟨gb211, 0, none⟩ = some (.bool false) := (blk_cell BK211.out 0).trans rfl; have hcz33_1 : w31.cell? ⟨gb211, 1, none⟩ = some (.slice none 0 0) := (blk_cell BK211.out 1).trans rfl; have hfz33_0 := blk_frozen BK211.out 0; have hfz33_1 := blk_frozen BK211.out 1))
              repeat (go_quiet (first | ((with_reducible refine gate_dst (N := 5) rfl ?_); refine box_event ?hg (N := 5) ?hd (cs := #[.bool false, .slice none 0 0]) (t := 92) ?hr ?_; (case hd => rfl); (case hg => rfl); (case hr => first | (go_simp; done) | (go_simp; rfl)); intro gb211 hg w31 hbox hb; have n0_ := Aside0.mk (blk_below (g := gb205) (o := .cells #[.int .i64 a0_0, .slice A0_1 l0_1.length c0_1, .slice (some ad210) l0_2.length c0_2] 25 (0, 0)) (by (with_reducible repeat (first | refine blk_drewN ?_ _ | refine blk_drew ?_ | refine blk_alloc ?_ _)); exact BK205.out) hb); have n1_ := Aside0.mk (below_step (by repeat (first | (with_reducible first | exact HB.out | apply below_alloc | apply pw_below_drewN | apply below_drew1 | refine below_set ?_ GE205.out) | exact HB.out)) hb); have n2_ := Aside0.mk (hbox); have n3_ := Aside0.mk ((by rw [hg]; exact (below_size (by repeat (first | (with_reducible first | exact HB.out | apply below_alloc | apply pw_below_drewN | apply below_drew1 | refine below_set ?_ GE205.out) | exact HB.out))) : w.heap.size ≤ gb211)); have n4_ := Aside0.mk ((by rw [hg]; exact (below_size (by repeat (first | (with_reducible first | exact HB.out | apply below_alloc | apply pw_below_drewN | apply below_drew1 | refine below_set ?_ GE205.out) | exact HB.out))) : w.heap.size ≤ gb211)); have n5_ := Aside0.mk ((by rw [hg]; exact Nat.ne_of_lt (blk_lt (g := gb205) (o := .cells #[.int .i64 a0_0, .slice A0_1 l0_1.length c0_1, .slice (some ad210) l0_2.length c0_2] 25 (0, 0)) (by (with_reducible repeat (first | refine blk_drewN ?_ _ | refine blk_drew ?_ | refine blk_alloc ?_ _)); exact BK205.out)) : gb205 ≠ gb211)); have n6_ := Aside0.mk ((by rw [hg]; exact Nat.ne_of_gt (blk_lt (g := gb205) (o := .cells #[.int .i64 a0_0, .slice A0_1 l0_1.length c0_1, .slice (some ad210) l0_2.length c0_2] 25 (0, 0)) (by (with_reducible repeat (first | refine blk_drewN ?_ _ | refine blk_drew ?_ | refine blk_alloc ?_ _)); exact BK205.out)) : gb211 ≠ gb205)); clear BK205; clear HB; have BK205 := n0_; have HB := n1_; have BK211 := n2_; have GW211 := n3_; have GE211 := n4_; have NB205_211 := n5_; have NB211_205 := n6_; clear n0_ n1_ n2_ n3_ n4_ n5_ n6_; clear hb hbox hg; have hnb32 := NB211_205.out; have hnc32 := NB205_211.out; have hcz33_0 : w31.cell? ⟨gb211, 0, none⟩ = some (.bool false) := (blk_cell BK211.out 0).trans rfl; have hcz33_1 : w31.cell? ⟨gb211, 1, none⟩ = some (.slice none 0 0) := (blk_cell BK211.out 1).trans rfl; have hfz33_0 := blk_frozen BK211.out 0; have hfz33_1 := blk_frozen BK211.out 1)); try go_wp2_with (first | ((with_reducible refine gate_dst (N := 5) rfl ?_); refine box_event ?hg (N := 5) ?hd (cs := #[.bool false, .slice none 0 0]) (t := 92) ?hr ?_; (case hd => rfl); (case hg => rfl); (case hr => first | (go_simp; done) | (go_simp; rfl)); intro gb211 hg w31 hbox hb; have n0_ := Aside0.mk (blk_below (g := gb205) (o := .cells #[.int .i64 a0_0, .slice A0_1 l0_1.length c0_1, .slice (some ad210) l0_2.length c0_2] 25 (0, 0)) (by (with_reducible repeat (first | refine blk_drewN ?_ _ | refine blk_drew ?_ | refine blk_alloc ?_ _)); exact BK205.out) hb); have n1_ := Aside0.mk (below_step (by repeat (first | (with_reducible first | exact HB.out | apply below_alloc | apply pw_below_drewN | apply below_drew1 | refine below_set ?_ GE205.out) | exact HB.out)) hb); have n2_ := Aside0.mk (hbox); have n3_ := Aside0.mk ((by rw [hg]; exact (below_size (by repeat (first | (with_reducible first | exact HB.out | apply below_alloc | apply pw_below_drewN | apply below_drew1 | refine below_set ?_ GE205.out) | exact HB.out))) : w.heap.size ≤ gb211)); have n4_ := Aside0.mk ((by rw [hg]; exact (below_size (by repeat (first | (with_reducible first | exact HB.out | apply below_alloc | apply pw_below_drewN | apply below_drew1 | refine below_set ?_ GE205.out) | exact HB.out))) : w.heap.size ≤ gb211)); have n5_ := Aside0.mk ((by rw [hg]; exact Nat.ne_of_lt (blk_lt (g := gb205) (o := .cells #[.int .i64 a0_0, .slice A0_1 l0_1.length c0_1, .slice (some ad210) l0_2.length c0_2] 25 (0, 0)) (by (with_reducible repeat (first | refine blk_drewN ?_ _ | refine blk_drew ?_ | refine blk_alloc ?_ _)); exact BK205.out)) : gb205 ≠ gb211)); have n6_ := Aside0.mk ((by rw [hg]; exact Nat.ne_of_gt (blk_lt (g := gb205) (o := .cells #[.int .i64 a0_0, .slice A0_1 l0_1.length c0_1, .slice (some ad210) l0_2.length c0_2] 25 (0, 0)) (by (with_reducible repeat (first | refine blk_drewN ?_ _ | refine blk_drew ?_ | refine blk_alloc ?_ _)); exact BK205.out)) : gb211 ≠ gb205)); clear BK205; clear HB; have BK205 := n0_; have HB := n1_; have BK211 := n2_; have GW211 := n3_; have GE211 := n4_; have NB205_211 := n5_; have NB211_205 := n6_; clear n0_ n1_ n2_ n3_ n4_ n5_ n6_; clear hb hbox hg; have hnb32 := NB211_205.out; have hnc32 := NB205_211.out; have hcz33_0 : w31.cell? ⟨gb211, 0, none⟩ = some (.bool false) := (blk_cell BK211.out 0).trans rfl; have hcz33_1 : w31.cell? ⟨gb211, 1, none⟩ = some (.slice none 0 0) := (blk_cell BK211.out 1).trans rfl; have hfz33_0 := blk_frozen BK211.out 0; have hfz33_1 := blk_frozen BK211.out 1)))
              go_ret
              exact ⟨by first | rfl | (simp [errW_none, errW_some] <;> rfl) | (simp [*, errW_none, errW_some] <;> rfl), by repeat (first | (with_reducible first | exact HB.out | apply below_alloc | apply pw_below_drewN | apply below_drew1 | refine below_set ?_ GE205.out | refine below_set ?_ GE211.out) | exact HB.out)⟩
             ·rw [if_neg c29] at H
              have c29b0 : decide (4 < (((rd_T92 l0_2 x4_3).f1).length : Int)) = false := decide_eq_false c29
              have c29b1 : decide (4 < ((rd_T92 l0_2 x4_3).f1).length) = false := decide_eq_false (by omega)
              clear c29
              have H' := Aside0.mk H
              clear H
              have hcz34_0 : wr.cell? ⟨gb205, 0, none⟩ = some (.int .i64 a0_0) := (blk_cell BK205.out 0).trans rfl
              have hcz34_1 : wr.cell? ⟨gb205, 1, none⟩ = some (.slice A0_1 l0_1.length c0_1) := (blk_cell BK205.out 1).trans rfl
              have hcz34_2 : wr.cell? ⟨gb205, 2, none⟩ = some (.slice A0_2 l0_2.length c0_2) := (blk_cell BK205.out 2).trans rfl
              have hfz34_0 := blk_frozen BK205.out 0
              have hfz34_1 := blk_frozen BK205.out 1
              have hfz34_2 := blk_frozen BK205.out 2
              have p210 : 0 ≤ (x4_3 : Int) := of_decide_eq_true (by first | (with_reducible assumption) | assumption)
              have q210 : x4_3 < (l0_2.length : Int) := of_decide_eq_true (by first | (with_reducible assumption) | assumption)
              obtain ⟨ad210, A210_1, c210_1, e210, hx210_0, hx210_1, hl210_1, hi210_1⟩ := at_T92 HR0_2.out x4_3 p210 q210
              (try rw [← Nbq27.out] at hx210_0)
              cases e210
              replace hx210_0 := (HB.out.cell (World.block_lt_of_cell? w _ hx210_0)).trans hx210_0
              replace hx210_1 := (HB.out.cell (World.block_lt_of_cell? w _ hx210_1)).trans hx210_1
              have HR210_1 := Aside0.mk hi210_1
              have HC210_1 := Aside0.mk hl210_1
              clear hi210_1 hl210_1
              replace p210 := eq_true p210
              replace q210 := eq_true q210
              go_wp2_with (first | ((with_reducible refine gate_dst (N := 5) rfl ?_); refine box_event ?hg (N := 5) ?hd (cs := #[.bool false, .slice none 0 0]) (t := 92) ?hr ?_; (case hd => rfl); (case hg => rfl); (case hr => first | (go_simp; done) | (go_simp; rfl)); intro gb211 hg w35 hbox hb; have n0_ := Aside0.mk (blk_below (g := gb205) (o := .cells #[.int .i64 a0_0, .slice A0_1 l0_1.length c0_1, .slice (some ad210) l0_2.length c0_2] 25 (0, 0)) (by (with_reducible repeat (first | refine blk_drewN ?_ _ | refine blk_drew ?_ | refine blk_alloc ?_ _)); exact BK205.out) hb); have n1_ := Aside0.mk (below_step (by repeat (first | (with_reducible first | exact HB.out | apply below_alloc | apply pw_below_drewN | apply below_drew1 | refine below_set ?_ GE205.out) | exact HB.out)) hb); have n2_ := Aside0.mk (hbox); have n3_ := Aside0.mk ((by rw [hg]; exact (below_size (by repeat (first | (with_reducible first | exact HB.out | apply below_alloc | apply pw_below_drewN | apply below_drew1 | refine below_set ?_ GE205.out) | exact HB.out))) : w.heap.size ≤ gb211)); have n4_ := Aside0.mk ((by rw [hg]; exact (below_size (by repeat (first | (with_reducible first | exact HB.out | apply below_alloc | apply pw_below_drewN | apply below_drew1 | refine below_set ?_ GE205.out) | exact HB.out))) : w.heap.size ≤ gb211)); have n5_ := Aside0.mk ((by rw [hg]; exact Nat.ne_of_lt (blk_lt (g := gb205) (o := .cells #[.int .i64 a0_0, .slice A0_1 l0_1.length c0_1, .slice (some ad210) l0_2.length c0_2] 25 (0, 0)) (by (with_reducible repeat (first | refine blk_drewN ?_ _ | refine blk_drew ?_ | refine blk_alloc ?_ _)); exact BK205.out)) : gb205 ≠ gb211)); have n6_ := Aside0.mk ((by rw [hg]; exact Nat.ne_of_gt (blk_lt (g := gb205) (o := .cells #[.int .i64 a0_0, .slice A0_1 l0_1.length c0_1, .slice (some ad210) l0_2.length c0_2] 25 (0, 0)) (by (with_reducible repeat (first | refine blk_drewN ?_ _ | refine blk_drew ?_ | refine blk_alloc ?_ _)); exact BK205.out)) : gb211 ≠ gb205)); clear BK205; clear HB; have BK205 := n0_; have HB := n1_; have BK211 := n2_; have GW211 := n3_; have GE211 := n4_; have NB205_211 := n5_; have NB211_205 := n6_; clear n0_ n1_ n2_ n3_ n4_ n5_ n6_; clear hb hbox hg; have hnb36 := NB211_205.out; have hnc36 := NB205_211.out; have hcz37_0 : w35.cell? ⟨gb211, 0, none⟩ = some (.bool false) := (blk_cell BK211.out 0).trans rfl; have hcz37_1 : w35.cell? ⟨gb211, 1, none⟩ = some (.slice none 0 0) := (blk_cell BK211.out 1).trans rfl; have hfz37_0 := blk_frozen BK211.out 0; have hfz37_1 := blk_frozen BK211.out 1))
              repeat (go_quiet (first | ((with_reducible refine gate_dst (N := 5) rfl ?_); refine box_event ?hg (N := 5) ?hd (cs := #[.bool false, .slice none 0 0]) (t := 92) ?hr ?_; (case hd => rfl); (case hg => rfl); (case hr => first | (go_simp; done) | (go_simp; rfl)); intro gb211 hg w35 hbox hb; have n0_ := Aside0.mk (blk_below (g := gb205) (o := .cells #[.int .i64 a0_0, .slice A0_1 l0_1.length c0_1, .slice (some ad210) l0_2.length c0_2] 25 (0, 0)) (by (with_reducible repeat (first | refine blk_drewN ?_ _ | refine blk_drew ?_ | refine blk_alloc ?_ _)); exact BK205.out) hb); have n1_ := Aside0.mk (below_step (by repeat (first | (with_reducible first | exact HB.out | apply below_alloc | apply pw_below_drewN | apply below_drew1 | refine below_set ?_ GE205.out) | exact HB.out)) hb); have n2_ := Aside0.mk (hbox); have n3_ := Aside0.mk ((by rw [hg]; exact (below_size (by repeat (first | (with_reducible first | exact HB.out | apply below_alloc | apply pw_below_drewN | apply below_drew1 | refine below_set ?_ GE205.out) | exact HB.out))) : w.heap.size ≤ gb211)); have n4_ := Aside0.mk ((by rw [hg]; exact (below_size (by repeat (first | (with_reducible first | exact HB.out | apply below_alloc | apply pw_below_drewN | apply below_drew1 | refine below_set ?_ GE205.out) | exact HB.out))) : w.heap.size ≤ gb211)); have n5_ := Aside0.mk ((by rw [hg]; exact Nat.ne_of_lt (blk_lt (g := gb205) (o := .cells #[.int .i64 a0_0, .slice A0_1 l0_1.length c0_1, .slice (some ad210) l0_2.length c0_2] 25 (0, 0)) (by (with_reducible repeat (first | refine blk_drewN ?_ _ | refine blk_drew ?_ | refine blk_alloc ?_ _)); exact BK205.out)) : gb205 ≠ gb211)); have n6_ := Aside0.mk ((by rw [hg]; exact Nat.ne_of_gt (blk_lt (g := gb205) (o := .cells #[.int .i64 a0_0, .slice A0_1 l0_1.length c0_1, .slice (some ad210) l0_2.length c0_2] 25 (0, 0)) (by (with_reducible repeat (first | refine blk_drewN ?_ _ | refine blk_drew ?_ | refine blk_alloc ?_ _)); exact BK205.out)) : gb211 ≠ gb205)); clear BK205; clear HB; have BK205 := n0_; have HB := n1_; have BK211 := n2_; have GW211 := n3_; have GE211 := n4_; have NB205_211 := n5_; have NB211_205 := n6_; clear n0_ n1_ n2_ n3_ n4_ n5_ n6_; clear hb hbox hg; have hnb36 := NB211_205.out; have hnc36 := NB205_211.out; have hcz37_0 : w35.cell? ⟨gb211, 0, none⟩ = some (.bool false) := (blk_cell BK211.out 0).trans rfl; have hcz37_1 : w35.cell? ⟨gb211, 1, none⟩ = some (.slice none 0 0) := (blk_cell BK211.out 1).trans rfl; have hfz37_0 := blk_frozen BK211.out 0; have hfz37_1 := blk_frozen BK211.out 1)); try go_wp2_with (first | ((with_reducible refine gate_dst (N := 5) rfl ?_); refine box_event ?hg (N := 5) ?hd (cs := #[.bool false, .slice none 0 0]) (t := 92) ?hr ?_; (case hd => rfl); (case hg => rfl); (case hr => first | (go_simp; done) | (go_simp; rfl)); intro gb211 hg w35 hbox hb; have n0_ := Aside0.mk (blk_below (g := gb205) (o := .cells #[.int .i64 a0_0, .slice A0_1 l0_1.length c0_1, .slice (some ad210) l0_2.length c0_2] 25 (0, 0)) (by (with_reducible repeat (first | refine blk_drewN ?_ _ | refine blk_drew ?_ | refine blk_alloc ?_ _)); exact BK205.out) hb); have n1_ := Aside0.mk (below_step (by repeat (first | (with_reducible first | exact HB.out | apply below_alloc | apply pw_below_drewN | apply below_drew1 | refine below_set ?_ GE205.out) | exact HB.out)) hb); have n2_ := Aside0.mk (hbox); have n3_ := Aside0.mk ((by rw [hg]; exact (below_size (by repeat (first | (with_reducible first | exact HB.out | apply below_alloc | apply pw_below_drewN | apply below_drew1 | refine below_set ?_ GE205.out) | exact HB.out))) : w.heap.size ≤ gb211)); have n4_ := Aside0.mk ((by rw [hg]; exact (below_size (by repeat (first | (with_reducible first | exact HB.out | apply below_alloc | apply pw_below_drewN | apply below_drew1 | refine below_set ?_ GE205.out) | exact HB.out))) : w.heap.size ≤ gb211)); have n5_ := Aside0.mk ((by rw [hg]; exact Nat.ne_of_lt (blk_lt (g := gb205) (o := .cells #[.int .i64 a0_0, .slice A0_1 l0_1.length c0_1, .slice (some ad210) l0_2.length c0_2] 25 (0, 0)) (by (with_reducible repeat (first | refine blk_drewN ?_ _ | refine blk_drew ?_ | refine blk_alloc ?_ _)); exact BK205.out)) : gb205 ≠ gb211)); have n6_ := Aside0.mk ((by rw [hg]; exact Nat.ne_of_gt (blk_lt (g := gb205) (o := .cells #[.int .i64 a0_0, .slice A0_1 l0_1.length c0_1, .slice (some ad210) l0_2.length c0_2] 25 (0, 0)) (by (with_reducible repeat (first | refine blk_drewN ?_ _ | refine blk_drew ?_ | refine blk_alloc ?_ _)); exact BK205.out)) : gb211 ≠ gb205)); clear BK205; clear HB; have BK205 := n0_; have HB := n1_; have BK211 := n2_; have GW211 := n3_; have GE211 := n4_; have NB205_211 := n5_; have NB211_205 := n6_; clear n0_ n1_ n2_ n3_ n4_ n5_ n6_; clear hb hbox hg; have hnb36 := NB211_205.out; have hnc36 := NB205_211.out; have hcz37_0 : w35.cell? ⟨gb211, 0, none⟩ = some (.bool false) := (blk_cell BK211.out 0).trans rfl; have hcz37_1 : w35.cell? ⟨gb211, 1, none⟩ = some (.slice none 0 0) := (blk_cell BK211.out 1).trans rfl; have hfz37_0 := blk_frozen BK211.out 0; have hfz37_1 := blk_frozen BK211.out 1)))
              go_loopg [6] k3 (fun kq v6 w' => ∃ (x6_4 : Int), v6 = .int .i64 x6_4 ∧ Aside0 (logjamref36_Check.l2 kq x4_3 x6_4 a0_0 l0_1 l0_2 true ((rd_T92 l0_2 x4_3).f1) = some r) ∧ Aside0 (kq ≤ k3) ∧ Aside0 (w'.heap[gb205]? = some (.cells #[.int .i64 a0_0, (.slice A0_1 l0_1.length c0_1), (.slice (some ad210) l0_2.length c0_2)] 25 (0, 0))) ∧ Aside0 (w'.heap[gb211]? = some (.cells #[.bool true, (.slice A210_1 ((rd_T92 l0_2 x4_3).f1).length c210_1)] 92 (0, 0))) ∧ Aside0 (Below w.heap.size w w'))
              case atStart => exact ⟨(0), (by first | rfl | (simp; done) | (simp [*]; done)), H', ⟨Nat.le_refl _⟩, ⟨by (with_reducible repeat (first | refine blk_drewN ?_ _ | refine blk_drew ?_ | refine blk_alloc ?_ _)); refine blk_far ?_ NB205_211.out _; (with_reducible repeat (first | refine blk_drewN ?_ _ | refine blk_drew ?_ | refine blk_alloc ?_ _)); refine blk_far ?_ NB205_211.out _; (with_reducible repeat (first | refine blk_drewN ?_ _ | refine blk_drew ?_ | refine blk_alloc ?_ _)); exact BK205.out⟩, ⟨by (with_reducible repeat (first | refine blk_drewN ?_ _ | refine blk_drew ?_ | refine blk_alloc ?_ _)); refine blk_put (cs := #[.bool true, .slice none 0 0]) ?_ 1 _ rfl; (with_reducible repeat (first | refine blk_drewN ?_ _ | refine blk_drew ?_ | refine blk_alloc ?_ _)); refine blk_put (cs := #[.bool false, .slice none 0 0]) ?_ 0 _ rfl; (with_reducible repeat (first | refine blk_drewN ?_ _ | refine blk_drew ?_ | refine blk_alloc ?_ _)); exact BK211.out⟩, ⟨by repeat (first | (with_reducible first | exact HB.out | apply below_alloc | apply pw_below_drewN | apply below_drew1 | refine below_set ?_ GE205.out | refine below_set ?_ GE211.out) | exact HB.out)⟩⟩
              case round =>
               clear H'
               try clear c1
               try clear c2
               try clear p2
               try clear q2
               try clear hx2
               try clear c3
               try clear c4
               try clear c4b0
               try clear p6
               try clear c7
               try clear c8
               try clear c8b0
               try clear c8b1
               try clear c8b2
               try clear c10
               try clear c10b0
               try clear c11
               try clear c11b0
               try clear c12
               try clear c12b0
               try clear c14
               try clear c14b0
               try clear c16
               try clear c16b0
               try clear c18
               try clear c18b0
               try clear c19
               try clear c19b0
               try clear c20
               try clear c20b0
               try clear p20
               try clear q20
               try clear hx20
               try clear c21
               try clear p21
               try clear q21
               try clear hx21
               try clear c25
               try clear c25b0
               try clear c26
               try clear c26b0
               try clear q27
               try clear c28
               try clear c29
               try clear c29b0
               try clear c29b1
               try clear c32
               try clear c36
               try clear hcz13_0
               try clear hcz13_1
               try clear hcz13_2
               try clear hcz15_0
               try clear hcz15_1
               try clear hcz15_2
               try clear hcz21_0
               try clear hcz21_1
               try clear hcz21_2
               try clear hcz22_0
               try clear hcz22_1
               try clear hcz22_2
               try clear hcz23_0
               try clear hcz23_1
               try clear hcz23_2
               try clear hcz24_0
               try clear hcz24_1
               try clear hcz24_2
               try clear hcz30_0
               try clear hcz30_1
               try clear hcz30_2
               try clear hcz33_0
               try clear hcz33_1
               try clear hcz34_0
               try clear hcz34_1
               try clear hcz34_2
               try clear hcz37_0
               try clear hcz37_1
               try clear hcz5_0
               try clear hcz5_1
               try clear hcz5_2
               try clear hcz6_0
               try clear hcz6_1
               try clear hcz6_2
               try clear hcz9_0
               try clear hcz9_1
               try clear hcz9_2
               try clear hfz13_0
               try clear hfz13_1
               try clear hfz13_2
               try clear hfz15_0
               try clear hfz15_1
               try clear hfz15_2
               try clear hfz21_0
               try clear hfz21_1
               try clear hfz21_2
               try clear hfz22_0
               try clear hfz22_1
               try clear hfz22_2
               try clear hfz23_0
               try clear hfz23_1
               try clear hfz23_2
               try clear hfz24_0
               try clear hfz24_1
               try clear hfz24_2
               try clear hfz30_0
               try clear hfz30_1
               try clear hfz30_2
               try clear hfz33_0
               try clear hfz33_1
               try clear hfz34_0
               try clear hfz34_1
               try clear hfz34_2
               try clear hfz37_0
               try clear hfz37_1
               try clear hfz5_0
               try clear hfz5_1
               try clear hfz5_2
               try clear hfz6_0
               try clear hfz6_1
               try clear hfz6_2
               try clear hfz9_0
               try clear hfz9_1
               try clear hfz9_2
               try clear hx206_0
               try clear hx207_0
               try clear hx208_0
               try clear hx209_0
               try clear hx210_0
               try clear hx210_1
               try clear p2
               try clear p20
               try clear p206
               try clear p207
               try clear p208
               try clear p209
               try clear p210
               try clear p6
               try clear q2
               try clear q20
               try clear q206
               try clear q207
               try clear q208
               try clear q209
               try clear q210
               obtain ⟨x6_4, rfl, HA, HK4, BK205, BK211, HB⟩ := hrel
               cases gk with
               | zero => exact absurd HA.out (by simp [logjamref36_Check.l2])
               | succ k4 =>
                have H := HA.out
                clear HA
                simp only [logjamref36_Check.l2] at H
                by_cases c38 : x6_4 < (((rd_T92 l0_2 x4_3).f1).length : Int)
                ·rw [if_pos c38] at H
                 have c38b0 : decide (x6_4 < (((rd_T92 l0_2 x4_3).f1).length : Int)) = true := decide_eq_true c38
                 clear c38
                 by_cases c39 : 0 ≤ x6_4
                 ·rw [if_pos c39] at H
                  have c39b0 : decide (0 ≤ x6_4) = true := decide_eq_true c39
                  clear c39
                  by_cases c40 : ((rd_L5 ((rd_T92 l0_2 x4_3).f1) x6_4).length : Int) > 256
                  ·rw [if_pos c40] at H
                   have c40b0 : decide (256 < ((rd_L5 ((rd_T92 l0_2 x4_3).f1) x6_4).length : Int)) = true := decide_eq_true c40
                   have c40b1 : decide (256 < (rd_L5 ((rd_T92 l0_2 x4_3).f1) x6_4).length) = true := decide_eq_true (by omega)
                   clear c40
                   obtain rfl := Option.some.inj H
                   have hnb41 := NB211_205.out
                   have hnc41 := NB205_211.out
                   have hcz42_0 : wr.cell? ⟨gb211, 0, none⟩ = some (.bool true) := (blk_cell BK211.out 0).trans rfl
                   have hcz42_1 : wr.cell? ⟨gb211, 1, none⟩ = some (.slice A210_1 ((rd_T92 l0_2 x4_3).f1).length c210_1) := (blk_cell BK211.out 1).trans rfl
                   have hfz42_0 := blk_frozen BK211.out 0
                   have hfz42_1 := blk_frozen BK211.out 1
                   have p212 : 0 ≤ (x6_4 : Int) := of_decide_eq_true (by first | (with_reducible assumption) | assumption)
                   have q212 : x6_4 < (((rd_T92 l0_2 x4_3).f1).length : Int) := of_decide_eq_true (by first | (with_reducible assumption) | assumption)
                   obtain ⟨ad212, A212_0, c212_0, e212, hx212_0, hl212_0, hi212_0⟩ := at_L5 HR210_1.out x6_4 p212 q212
                   cases e212
                   replace hx212_0 := (HB.out.cell (World.block_lt_of_cell? w _ hx212_0)).trans hx212_0
                   have HR212_0 := Aside0.mk hi212_0
                   have HC212_0 := Aside0.mk hl212_0
                   clear hi212_0 hl212_0
                   replace p212 := eq_true p212
                   replace q212 := eq_true q212
                   go_wp2
                   repeat (go_quiet (fail); try go_wp2)
                   go_ret
                   exact ⟨by first | rfl | (simp [errW_none, errW_some] <;> rfl) | (simp [*, errW_none, errW_some] <;> rfl), by repeat (first | (with_reducible first | exact HB.out | apply below_alloc | apply pw_below_drewN | apply below_drew1 | refine below_set ?_ GE205.out | refine below_set ?_ GE211.out) | exact HB.out)⟩
                  ·rw [if_neg c40] at H
                   have c40b0 : decide (256 < ((rd_L5 ((rd_T92 l0_2 x4_3).f1) x6_4).length : Int)) = false := decide_eq_false c40
                   have c40b1 : decide (256 < (rd_L5 ((rd_T92 l0_2 x4_3).f1) x6_4).length) = false := decide_eq_false (by omega)
                   clear c40
                   have H' := Aside0.mk H
                   clear H
                   have hnb43 := NB211_205.out
                   have hnc43 := NB205_211.out
                   have hcz44_0 : wr.cell? ⟨gb211, 0, none⟩ = some (.bool true) := (blk_cell BK211.out 0).trans rfl
                   have hcz44_1 : wr.cell? ⟨gb211, 1, none⟩ = some (.slice A210_1 ((rd_T92 l0_2 x4_3).f1).length c210_1) := (blk_cell BK211.out 1).trans rfl
                   have hfz44_0 := blk_frozen BK211.out 0
                   have hfz44_1 := blk_frozen BK211.out 1
                   have p212 : 0 ≤ (x6_4 : Int) := of_decide_eq_true (by first | (with_reducible assumption) | assumption)
                   have q212 : x6_4 < (((rd_T92 l0_2 x4_3).f1).length : Int) := of_decide_eq_true (by first | (with_reducible assumption) | assumption)
                   obtain ⟨ad212, A212_0, c212_0, e212, hx212_0, hl212_0, hi212_0⟩ := at_L5 HR210_1.out x6_4 p212 q212
                   cases e212
                   replace hx212_0 := (HB.out.cell (World.block_lt_of_cell? w _ hx212_0)).trans hx212_0
                   have HR212_0 := Aside0.mk hi212_0
                   have HC212_0 := Aside0.mk hl212_0
                   clear hi212_0 hl212_0
                   replace p212 := eq_true p212
                   replace q212 := eq_true q212
                   go_wp2
                   repeat (go_quiet (fail); try go_wp2)
                   go_loopg [7] k4 (fun kq v7 w' => ∃ (x7_5 : Int), v7 = .int .i64 x7_5 ∧ Aside0 (logjamref36_Check.l3 kq x4_3 x6_4 x7_5 a0_0 l0_1 l0_2 true ((rd_T92 l0_2 x4_3).f1) = some r) ∧ Aside0 (kq ≤ k4) ∧ Aside0 (w'.heap[gb205]? = some (.cells #[.int .i64 a0_0, (.slice A0_1 l0_1.length c0_1), (.slice (some ad210) l0_2.length c0_2)] 25 (0, 0))) ∧ Aside0 (w'.heap[gb211]? = some (.cells #[.bool true, (.slice (some ad212) ((rd_T92 l0_2 x4_3).f1).length c210_1)] 92 (0, 0))) ∧ Aside0 (Below w.heap.size w w'))
                   case atStart => exact ⟨(0), (by first | rfl | (simp; done) | (simp [*]; done)), H', ⟨Nat.le_refl _⟩, ⟨by (with_reducible repeat (first | refine blk_drewN ?_ _ | refine blk_drew ?_ | refine blk_alloc ?_ _)); exact BK205.out⟩, ⟨by (with_reducible repeat (first | refine blk_drewN ?_ _ | refine blk_drew ?_ | refine blk_alloc ?_ _)); exact BK211.out⟩, ⟨by repeat (first | (with_reducible first | exact HB.out | apply below_alloc | apply pw_below_drewN | apply below_drew1 | refine below_set ?_ GE205.out | refine below_set ?_ GE211.out) | exact HB.out)⟩⟩
                   case round =>
                    clear H'
                    try clear c1
                    try clear c2
                    try clear p2
                    try clear q2
                    try clear hx2
                    try clear c3
                    try clear c4
                    try clear c4b0
                    try clear p6
                    try clear c7
                    try clear c8
                    try clear c8b0
                    try clear c8b1
                    try clear c8b2
                    try clear c10
                    try clear c10b0
                    try clear c11
                    try clear c11b0
                    try clear c12
                    try clear c12b0
                    try clear c14
                    try clear c14b0
                    try clear c16
                    try clear c16b0
                    try clear c18
                    try clear c18b0
                    try clear c19
                    try clear c19b0
                    try clear c20
                    try clear c20b0
                    try clear p20
                    try clear q20
                    try clear hx20
                    try clear c21
                    try clear p21
                    try clear q21
                    try clear hx21
                    try clear c25
                    try clear c25b0
                    try clear c26
                    try clear c26b0
                    try clear q27
                    try clear c28
                    try clear c29
                    try clear c29b0
                    try clear c29b1
                    try clear c32
                    try clear c36
                    try clear c38
                    try clear c38b0
                    try clear c39
                    try clear c39b0
                    try clear c40
                    try clear c40b0
                    try clear c40b1
                    try clear c41
                    try clear c43
                    try clear hcz13_0
                    try clear hcz13_1
                    try clear hcz13_2
                    try clear hcz15_0
                    try clear hcz15_1
                    try clear hcz15_2
                    try clear hcz21_0
                    try clear hcz21_1
                    try clear hcz21_2
                    try clear hcz22_0
                    try clear hcz22_1
                    try clear hcz22_2
                    try clear hcz23_0
                    try clear hcz23_1
                    try clear hcz23_2
                    try clear hcz24_0
                    try clear hcz24_1
                    try clear hcz24_2
                    try clear hcz30_0
                    try clear hcz30_1
                    try clear hcz30_2
                    try clear hcz33_0
                    try clear hcz33_1
                    try clear hcz34_0
                    try clear hcz34_1
                    try clear hcz34_2
                    try clear hcz37_0
                    try clear hcz37_1
                    try clear hcz42_0
                    try clear hcz42_1
                    try clear hcz44_0
                    try clear hcz44_1
                    try clear hcz5_0
                    try clear hcz5_1
                    try clear hcz5_2
                    try clear hcz6_0
                    try clear hcz6_1
                    try clear hcz6_2
                    try clear hcz9_0
                    try clear hcz9_1
                    try clear hcz9_2
                    try clear hfz13_0
                    try clear hfz13_1
                    try clear hfz13_2
                    try clear hfz15_0
                    try clear hfz15_1
                    try clear hfz15_2
                    try clear hfz21_0
                    try clear hfz21_1
                    try clear hfz21_2
                    try clear hfz22_0
                    try clear hfz22_1
                    try clear hfz22_2
                    try clear hfz23_0
                    try clear hfz23_1
                    try clear hfz23_2
                    try clear hfz24_0
                    try clear hfz24_1
                    try clear hfz24_2
                    try clear hfz30_0
                    try clear hfz30_1
                    try clear hfz30_2
                    try clear hfz33_0
                    try clear hfz33_1
                    try clear hfz34_0
                    try clear hfz34_1
                    try clear hfz34_2
                    try clear hfz37_0
                    try clear hfz37_1
                    try clear hfz42_0
                    try clear hfz42_1
                    try clear hfz44_0
                    try clear hfz44_1
                    try clear hfz5_0
                    try clear hfz5_1
                    try clear hfz5_2
                    try clear hfz6_0
                    try clear hfz6_1
                    try clear hfz6_2
                    try clear hfz9_0
                    try clear hfz9_1
                    try clear hfz9_2
                    try clear hx206_0
                    try clear hx207_0
                    try clear hx208_0
                    try clear hx209_0
                    try clear hx210_0
                    try clear hx210_1
                    try clear hx212_0
                    try clear p2
                    try clear p20
                    try clear p206
                    try clear p207
                    try clear p208
                    try clear p209
                    try clear p21
                    try clear p210
                    try clear p212
                    try clear p6
                    try clear q2
                    try clear q20
                    try clear q206
                    try clear q207
                    try clear q208
                    try clear q209
                    try clear q21
                    try clear q210
                    try clear q212
                    try clear q27
                    obtain ⟨x7_5, rfl, HA, HK5, BK205, BK211, HB⟩ := hrel
                    cases gk with
                    | zero => exact absurd HA.out (by simp [logjamref36_Check.l3])
                    | succ k5 =>
                     have H := HA.out
                     clear HA
                     simp only [logjamref36_Check.l3] at H
                     by_cases c45 : 0 ≤ x6_4
                     ·rw [if_pos c45] at H
                      have c45b0 : decide (0 ≤ x6_4) = true := decide_eq_true c45
                      clear c45
                      by_cases c46 : x6_4 < (((rd_T92 l0_2 x4_3).f1).length : Int)
                      ·rw [if_pos c46] at H
                       have c46b0 : decide (x6_4 < (((rd_T92 l0_2 x4_3).f1).length : Int)) = true := decide_eq_true c46
                       clear c46
                       by_cases c47 : x7_5 < ((rd_L5 ((rd_T92 l0_2 x4_3).f1) x6_4).length : Int)
                       ·rw [if_pos c47] at H
                        have c47b0 : decide (x7_5 < ((rd_L5 ((rd_T92 l0_2 x4_3).f1) x6_4).length : Int)) = true := decide_eq_true c47
                        clear c47
                        by_cases c48 : 0 ≤ x7_5
                        ·rw [if_pos c48] at H
                         have c48b0 : decide (0 ≤ x7_5) = true := decide_eq_true c48
                         clear c48
                         replace H := Option.bind_eq_some_iff.mp H
                         obtain ⟨t216, A490, H⟩ := H
                         replace H : (if t216 = 0 then (logjamref36_Check.l3 k5 x4_3 x6_4 (wrap64 (x7_5 + 1)) a0_0 l0_1 l0_2 true ((rd_T92 l0_2 x4_3).f1)) else (some t216)) = some r := H
                         have A49 := Aside0.mk A490
                         clear A490
                         by_cases c50 : t216 = 0
                         ·rw [if_pos c50] at H
                          have c50b0 : (t216 == 0) = true := beq_iff_eq.mpr c50
                          have c50b1 : (t216 != 0) = false := bne_eq_false_iff_eq.mpr c50
                          clear c50
                          have H' := Aside0.mk H
                          clear H
                          have hnb51 := NB211_205.out
                          have hnc51 := NB205_211.out
                          have hcz52_0 : wr.cell? ⟨gb211, 0, none⟩ = some (.bool true) := (blk_cell BK211.out 0).trans rfl
                          have hcz52_1 : wr.cell? ⟨gb211, 1, none⟩ = some (.slice (some ad212) ((rd_T92 l0_2 x4_3).f1).length c210_1) := (blk_cell BK211.out 1).trans rfl
                          have hfz52_0 := blk_frozen BK211.out 0
                          have hfz52_1 := blk_frozen BK211.out 1
                          have p213 : 0 ≤ (x6_4 : Int) := of_decide_eq_true (by first | (with_reducible assumption) | assumption)
                          have q213 : x6_4 < (((rd_T92 l0_2 x4_3).f1).length : Int) := of_decide_eq_true (by first | (with_reducible assumption) | assumption)
                          obtain ⟨ad213, A213_0, c213_0, e213, hx213_0, hl213_0, hi213_0⟩ := at_L5 HR210_1.out x6_4 p213 q213
                          obtain rfl : ad212 = ad213 := (by injection e213)
                          replace hx213_0 := (HB.out.cell (World.block_lt_of_cell? w _ hx213_0)).trans hx213_0
                          have HR213_0 := Aside0.mk hi213_0
                          have HC213_0 := Aside0.mk hl213_0
                          clear hi213_0 hl213_0
                          replace p213 := eq_true p213
                          replace q213 := eq_true q213
                          have p214 : 0 ≤ (x6_4 : Int) := of_decide_eq_true (by first | (with_reducible assumption) | assumption)
                          have q214 : x6_4 < (((rd_T92 l0_2 x4_3).f1).length : Int) := of_decide_eq_true (by first | (with_reducible assumption) | assumption)
                          obtain ⟨ad214, A214_0, c214_0, e214, hx214_0, hl214_0, hi214_0⟩ := at_L5 HR210_1.out x6_4 p214 q214
                          obtain rfl : ad212 = ad214 := (by injection e214)
                          replace hx214_0 := (HB.out.cell (World.block_lt_of_cell? w _ hx214_0)).trans hx214_0
                          have HR214_0 := Aside0.mk hi214_0
                          have HC214_0 := Aside0.mk hl214_0
                          clear hi214_0 hl214_0
                          replace p214 := eq_true p214
                          replace q214 := eq_true q214
                          have ea_ := Option.some.inj (hx213_0.symm.trans hx214_0)
                          injection ea_ with ea_ en_ ec_
                          subst ea_
                          subst ec_
                          clear en_
                          have p215 : 0 ≤ (x7_5 : Int) := of_decide_eq_true (by first | (with_reducible assumption) | assumption)
                          have q215 : x7_5 < ((rd_L5 ((rd_T92 l0_2 x4_3).f1) x6_4).length : Int) := of_decide_eq_true (by first | (with_reducible assumption) | assumption)
                          obtain ⟨ad215, A215_1, c215_1, e215, hx215_0, hx215_1, hl215_1, hi215_1⟩ := at_T96 HR214_0.out x7_5 p215 q215
                          cases e215
                          replace hx215_0 := (HB.out.cell (World.block_lt_of_cell? w _ hx215_0)).trans hx215_0
                          replace hx215_1 := (HB.out.cell (World.block_lt_of_cell? w _ hx215_1)).trans hx215_1
                          have HR215_1 := Aside0.mk hi215_1
                          have HC215_1 := Aside0.mk hl215_1
                          clear hi215_1 hl215_1
                          replace p215 := eq_true p215
                          replace q215 := eq_true q215
                          go_wp2_with (first | (go_at_call 80; (with_reducible refine (logjamref36_term.calls k5 ((rd_T96 (rd_L5 ((rd_T92 l0_2 x4_3).f1) x6_4) x7_5).f0) _ _ ((rd_T96 (rd_L5 ((rd_T92 l0_2 x4_3).f1) x6_4) x7_5).f1) t216 _ ?side1 ?side2 A49.out).mono ?_); (case side1 => repeat (first | exact (Kd.C_below HR215_1.out HB.out) | (with_reducible refine Kd.C_alloc ?_ _) | (with_reducible refine Kd.C_drewN ?_ _) | (with_reducible refine Kd.C_drew ?_))); (case side2 => exact HC215_1.out); rintro e w53 ⟨rfl, hb⟩; have n0_ := Aside0.mk (blk_below (g := gb205) (o := .cells #[.int .i64 a0_0, .slice A0_1 l0_1.length c0_1, .slice (some ad210) l0_2.length c0_2] 25 (0, 0)) (by (with_reducible repeat (first | refine blk_drewN ?_ _ | refine blk_drew ?_ | refine blk_alloc ?_ _)); exact BK205.out) hb); have n1_ := Aside0.mk (blk_below (g := gb211) (o := .cells #[.bool true, .slice (some ad212) ((rd_T92 l0_2 x4_3).f1).length c210_1] 92 (0, 0)) (by (with_reducible repeat (first | refine blk_drewN ?_ _ | refine blk_drew ?_ | refine blk_alloc ?_ _)); exact BK211.out) hb); have n2_ := Aside0.mk (below_step (by repeat (first | (with_reducible first | exact HB.out | apply below_alloc | apply pw_below_drewN | apply below_drew1 | refine below_set ?_ GE205.out | refine below_set ?_ GE211.out) | exact HB.out)) hb); clear BK205; clear BK211; clear HB; have BK205 := n0_; have BK211 := n1_; have HB := n2_; clear n0_ n1_ n2_; (try clear hb); (try clear hb2); (try clear hk); (try clear hi)))
                          repeat (go_quiet (first | (go_at_call 80; (with_reducible refine (logjamref36_term.calls k5 ((rd_T96 (rd_L5 ((rd_T92 l0_2 x4_3).f1) x6_4) x7_5).f0) _ _ ((rd_T96 (rd_L5 ((rd_T92 l0_2 x4_3).f1) x6_4) x7_5).f1) t216 _ ?side1 ?side2 A49.out).mono ?_); (case side1 => repeat (first | exact (Kd.C_below HR215_1.out HB.out) | (with_reducible refine Kd.C_alloc ?_ _) | (with_reducible refine Kd.C_drewN ?_ _) | (with_reducible refine Kd.C_drew ?_))); (case side2 => exact HC215_1.out); rintro e w53 ⟨rfl, hb⟩; have n0_ := Aside0.mk (blk_below (g := gb205) (o := .cells #[.int .i64 a0_0, .slice A0_1 l0_1.length c0_1, .slice (some ad210) l0_2.length c0_2] 25 (0, 0)) (by (with_reducible repeat (first | refine blk_drewN ?_ _ | refine blk_drew ?_ | refine blk_alloc ?_ _)); exact BK205.out) hb); have n1_ := Aside0.mk (blk_below (g := gb211) (o := .cells #[.bool true, .slice (some ad212) ((rd_T92 l0_2 x4_3).f1).length c210_1] 92 (0, 0)) (by (with_reducible repeat (first | refine blk_drewN ?_ _ | refine blk_drew ?_ | refine blk_alloc ?_ _)); exact BK211.out) hb); have n2_ := Aside0.mk (below_step (by repeat (first | (with_reducible first | exact HB.out | apply below_alloc | apply pw_below_drewN | apply below_drew1 | refine below_set ?_ GE205.out | refine below_set ?_ GE211.out) | exact HB.out)) hb); clear BK205; clear BK211; clear HB; have BK205 := n0_; have BK211 := n1_; have HB := n2_; clear n0_ n1_ n2_; (try clear hb); (try clear hb2); (try clear hk); (try clear hi))); try go_wp2_with (first | (go_at_call 80; (with_reducible refine (logjamref36_term.calls k5 ((rd_T96 (rd_L5 ((rd_T92 l0_2 x4_3).f1) x6_4) x7_5).f0) _ _ ((rd_T96 (rd_L5 ((rd_T92 l0_2 x4_3).f1) x6_4) x7_5).f1) t216 _ ?side1 ?side2 A49.out).mono ?_); (case side1 => repeat (first | exact (Kd.C_below HR215_1.out HB.out) | (with_reducible refine Kd.C_alloc ?_ _) | (with_reducible refine Kd.C_drewN ?_ _) | (with_reducible refine Kd.C_drew ?_))); (case side2 => exact HC215_1.out); rintro e w53 ⟨rfl, hb⟩; have n0_ := Aside0.mk (blk_below (g := gb205) (o := .cells #[.int .i64 a0_0, .slice A0_1 l0_1.length c0_1, .slice (some ad210) l0_2.length c0_2] 25 (0, 0)) (by (with_reducible repeat (first | refine blk_drewN ?_ _ | refine blk_drew ?_ | refine blk_alloc ?_ _)); exact BK205.out) hb); have n1_ := Aside0.mk (blk_below (g := gb211) (o := .cells #[.bool true, .slice (some ad212) ((rd_T92 l0_2 x4_3).f1).length c210_1] 92 (0, 0)) (by (with_reducible repeat (first | refine blk_drewN ?_ _ | refine blk_drew ?_ | refine blk_alloc ?_ _)); exact BK211.out) hb); have n2_ := Aside0.mk (below_step (by repeat (first | (with_reducible first | exact HB.out | apply below_alloc | apply pw_below_drewN | apply below_drew1 | refine below_set ?_ GE205.out | refine below_set ?_ GE211.out) | exact HB.out)) hb); clear BK205; clear BK211; clear HB; have BK205 := n0_; have BK211 := n1_; have HB := n2_; clear n0_ n1_ n2_; (try clear hb); (try clear hb2); (try clear hk); (try clear hi))))
                          go_roundg k5
                          case measure => have := HJ1.out; have := HK2.out; have := HK3.out; have := HK4.out; have := HK5.out; omega
                          case rel => exact ⟨(wrap64 (x7_5 + 1)), (by first | rfl | (simp; done) | (simp [*]; done)), H', ⟨by have := HJ1.out; have := HK2.out; have := HK3.out; have := HK4.out; have := HK5.out; omega⟩, ⟨by (with_reducible repeat (first | refine blk_drewN ?_ _ | refine blk_drew ?_ | refine blk_alloc ?_ _)); exact BK205.out⟩, ⟨by (with_reducible repeat (first | refine blk_drewN ?_ _ | refine blk_drew ?_ | refine blk_alloc ?_ _)); exact BK211.out⟩, ⟨by repeat (first | (with_reducible first | exact HB.out | apply below_alloc | apply pw_below_drewN | apply below_drew1 | refine below_set ?_ GE205.out | refine below_set ?_ GE211.out) | exact HB.out)⟩⟩
                         ·rw [if_neg c50] at H
                          have c50b0 : (t216 == 0) = false := beq_eq_false_iff_ne.mpr c50
                          have c50b1 : (t216 != 0) = true := bne_iff_ne.mpr c50
                          obtain rfl := Option.some.inj H
                          have hnb54 := NB211_205.out
                          have hnc54 := NB205_211.out
                          have hcz55_0 : wr.cell? ⟨gb211, 0, none⟩ = some (.bool true) := (blk_cell BK211.out 0).trans rfl
                          have hcz55_1 : wr.cell? ⟨gb211, 1, none⟩ = some (.slice (some ad212) ((rd_T92 l0_2 x4_3).f1).length c210_1) := (blk_cell BK211.out 1).trans rfl
                          have hfz55_0 := blk_frozen BK211.out 0
                          have hfz55_1 := blk_frozen BK211.out 1
                          have p213 : 0 ≤ (x6_4 : Int) := of_decide_eq_true (by first | (with_reducible assumption) | assumption)
                          have q213 : x6_4 < (((rd_T92 l0_2 x4_3).f1).length : Int) := of_decide_eq_true (by first | (with_reducible assumption) | assumption)
                          obtain ⟨ad213, A213_0, c213_0, e213, hx213_0, hl213_0, hi213_0⟩ := at_L5 HR210_1.out x6_4 p213 q213
                          obtain rfl : ad212 = ad213 := (by injection e213)
                          replace hx213_0 := (HB.out.cell (World.block_lt_of_cell? w _ hx213_0)).trans hx213_0
                          have HR213_0 := Aside0.mk hi213_0
                          have HC213_0 := Aside0.mk hl213_0
                          clear hi213_0 hl213_0
                          replace p213 := eq_true p213
                          replace q213 := eq_true q213
                          have p214 : 0 ≤ (x6_4 : Int) := of_decide_eq_true (by first | (with_reducible assumption) | assumption)
                          have q214 : x6_4 < (((rd_T92 l0_2 x4_3).f1).length : Int) := of_decide_eq_true (by first | (with_reducible assumption) | assumption)
                          obtain ⟨ad214, A214_0, c214_0, e214, hx214_0, hl214_0, hi214_0⟩ := at_L5 HR210_1.out x6_4 p214 q214
                          obtain rfl : ad212 = ad214 := (by injection e214)
                          replace hx214_0 := (HB.out.cell (World.block_lt_of_cell? w _ hx214_0)).trans hx214_0
                          have HR214_0 := Aside0.mk hi214_0
                          have HC214_0 := Aside0.mk hl214_0
                          clear hi214_0 hl214_0
                          replace p214 := eq_true p214
                          replace q214 := eq_true q214
                          have ea_ := Option.some.inj (hx213_0.symm.trans hx214_0)
                          injection ea_ with ea_ en_ ec_
                          subst ea_
                          subst ec_
                          clear en_
                          have p215 : 0 ≤ (x7_5 : Int) := of_decide_eq_true (by first | (with_reducible assumption) | assumption)
                          have q215 : x7_5 < ((rd_L5 ((rd_T92 l0_2 x4_3).f1) x6_4).length : Int) := of_decide_eq_true (by first | (with_reducible assumption) | assumption)
                          obtain ⟨ad215, A215_1, c215_1, e215, hx215_0, hx215_1, hl215_1, hi215_1⟩ := at_T96 HR214_0.out x7_5 p215 q215
                          cases e215
                          replace hx215_0 := (HB.out.cell (World.block_lt_of_cell? w _ hx215_0)).trans hx215_0
                          replace hx215_1 := (HB.out.cell (World.block_lt_of_cell? w _ hx215_1)).trans hx215_1
                          have HR215_1 := Aside0.mk hi215_1
                          have HC215_1 := Aside0.mk hl215_1
                          clear hi215_1 hl215_1
                          replace p215 := eq_true p215
                          replace q215 := eq_true q215
                          go_wp2_with (first | (go_at_call 80; (with_reducible refine (logjamref36_term.calls k5 ((rd_T96 (rd_L5 ((rd_T92 l0_2 x4_3).f1) x6_4) x7_5).f0) _ _ ((rd_T96 (rd_L5 ((rd_T92 l0_2 x4_3).f1) x6_4) x7_5).f1) t216 _ ?side1 ?side2 A49.out).mono ?_); (case side1 => repeat (first | exact (Kd.C_below HR215_1.out HB.out) | (with_reducible refine Kd.C_alloc ?_ _) | (with_reducible refine Kd.C_drewN ?_ _) | (with_reducible refine Kd.C_drew ?_))); (case side2 => exact HC215_1.out); rintro e w56 ⟨rfl, hb⟩; have n0_ := Aside0.mk (blk_below (g := gb205) (o := .cells #[.int .i64 a0_0, .slice A0_1 l0_1.length c0_1, .slice (some ad210) l0_2.length c0_2] 25 (0, 0)) (by (with_reducible repeat (first | refine blk_drewN ?_ _ | refine blk_drew ?_ | refine blk_alloc ?_ _)); exact BK205.out) hb); have n1_ := Aside0.mk (blk_below (g := gb211) (o := .cells #[.bool true, .slice (some ad212) ((rd_T92 l0_2 x4_3).f1).length c210_1] 92 (0, 0)) (by (with_reducible repeat (first | refine blk_drewN ?_ _ | refine blk_drew ?_ | refine blk_alloc ?_ _)); exact BK211.out) hb); have n2_ := Aside0.mk (below_step (by repeat (first | (with_reducible first | exact HB.out | apply below_alloc | apply pw_below_drewN | apply below_drew1 | refine below_set ?_ GE205.out | refine below_set ?_ GE211.out) | exact HB.out)) hb); clear BK205; clear BK211; clear HB; have BK205 := n0_; have BK211 := n1_; have HB := n2_; clear n0_ n1_ n2_; (try clear hb); (try clear hb2); (try clear hk); (try clear hi)))
                          repeat (go_quiet (first | (go_at_call 80; (with_reducible refine (logjamref36_term.calls k5 ((rd_T96 (rd_L5 ((rd_T92 l0_2 x4_3).f1) x6_4) x7_5).f0) _ _ ((rd_T96 (rd_L5 ((rd_T92 l0_2 x4_3).f1) x6_4) x7_5).f1) t216 _ ?side1 ?side2 A49.out).mono ?_); (case side1 => repeat (first | exact (Kd.C_below HR215_1.out HB.out) | (with_reducible refine Kd.C_alloc ?_ _) | (with_reducible refine Kd.C_drewN ?_ _) | (with_reducible refine Kd.C_drew ?_))); (case side2 => exact HC215_1.out); rintro e w56 ⟨rfl, hb⟩; have n0_ := Aside0.mk (blk_below (g := gb205) (o := .cells #[.int .i64 a0_0, .slice A0_1 l0_1.length c0_1, .slice (some ad210) l0_2.length c0_2] 25 (0, 0)) (by (with_reducible repeat (first | refine blk_drewN ?_ _ | refine blk_drew ?_ | refine blk_alloc ?_ _)); exact BK205.out) hb); have n1_ := Aside0.mk (blk_below (g := gb211) (o := .cells #[.bool true, .slice (some ad212) ((rd_T92 l0_2 x4_3).f1).length c210_1] 92 (0, 0)) (by (with_reducible repeat (first | refine blk_drewN ?_ _ | refine blk_drew ?_ | refine blk_alloc ?_ _)); exact BK211.out) hb); have n2_ := Aside0.mk (below_step (by repeat (first | (with_reducible first | exact HB.out | apply below_alloc | apply pw_below_drewN | apply below_drew1 | refine below_set ?_ GE205.out | refine below_set ?_ GE211.out) | exact HB.out)) hb); clear BK205; clear BK211; clear HB; have BK205 := n0_; have BK211 := n1_; have HB := n2_; clear n0_ n1_ n2_; (try clear hb); (try clear hb2); (try clear hk); (try clear hi))); try go_wp2_with (first | (go_at_call 80; (with_reducible refine (logjamref36_term.calls k5 ((rd_T96 (rd_L5 ((rd_T92 l0_2 x4_3).f1) x6_4) x7_5).f0) _ _ ((rd_T96 (rd_L5 ((rd_T92 l0_2 x4_3).f1) x6_4) x7_5).f1) t216 _ ?side1 ?side2 A49.out).mono ?_); (case side1 => repeat (first | exact (Kd.C_below HR215_1.out HB.out) | (with_reducible refine Kd.C_alloc ?_ _) | (with_reducible refine Kd.C_drewN ?_ _) | (with_reducible refine Kd.C_drew ?_))); (case side2 => exact HC215_1.out); rintro e w56 ⟨rfl, hb⟩; have n0_ := Aside0.mk (blk_below (g := gb205) (o := .cells #[.int .i64 a0_0, .slice A0_1 l0_1.length c0_1, .slice (some ad210) l0_2.length c0_2] 25 (0, 0)) (by (with_reducible repeat (first | refine blk_drewN ?_ _ | refine blk_drew ?_ | refine blk_alloc ?_ _)); exact BK205.out) hb); have n1_ := Aside0.mk (blk_below (g := gb211) (o := .cells #[.bool true, .slice (some ad212) ((rd_T92 l0_2 x4_3).f1).length c210_1] 92 (0, 0)) (by (with_reducible repeat (first | refine blk_drewN ?_ _ | refine blk_drew ?_ | refine blk_alloc ?_ _)); exact BK211.out) hb); have n2_ := Aside0.mk (below_step (by repeat (first | (with_reducible first | exact HB.out | apply below_alloc | apply pw_below_drewN | apply below_drew1 | refine below_set ?_ GE205.out | refine below_set ?_ GE211.out) | exact HB.out)) hb); clear BK205; clear BK211; clear HB; have BK205 := n0_; have BK211 := n1_; have HB := n2_; clear n0_ n1_ n2_; (try clear hb); (try clear hb2); (try clear hk); (try clear hi))))
                          go_ret
                          exact ⟨by first | rfl | (simp [errW_none, errW_some] <;> rfl) | (simp [*, errW_none, errW_some] <;> rfl), by repeat (first | (with_reducible first | exact HB.out | apply below_alloc | apply pw_below_drewN | apply below_drew1 | refine below_set ?_ GE205.out | refine below_set ?_ GE211.out) | exact HB.out)⟩
                        ·rw [if_neg c48] at H
                         exact absurd H (by simp)
                       ·rw [if_neg c47] at H
                        have c47b0 : decide (x7_5 < ((rd_L5 ((rd_T92 l0_2 x4_3).f1) x6_4).length : Int)) = false := decide_eq_false c47
                        clear c47
                        have H' := Aside0.mk H
                        clear H
                        have hnb57 := NB211_205.out
                        have hnc57 := NB205_211.out
                        have hcz58_0 : wr.cell? ⟨gb211, 0, none⟩ = some (.bool true) := (blk_cell BK211.out 0).trans rfl
                        have hcz58_1 : wr.cell? ⟨gb211, 1, none⟩ = some (.slice (some ad212) ((rd_T92 l0_2 x4_3).f1).length c210_1) := (blk_cell BK211.out 1).trans rfl
                        have hfz58_0 := blk_frozen BK211.out 0
                        have hfz58_1 := blk_frozen BK211.out 1
                        have p213 : 0 ≤ (x6_4 : Int) := of_decide_eq_true (by first | (with_reducible assumption) | assumption)
                        have q213 : x6_4 < (((rd_T92 l0_2 x4_3).f1).length : Int) := of_decide_eq_true (by first | (with_reducible assumption) | assumption)
                        obtain ⟨ad213, A213_0, c213_0, e213, hx213_0, hl213_0, hi213_0⟩ := at_L5 HR210_1.out x6_4 p213 q213
                        obtain rfl : ad212 = ad213 := (by injection e213)
                        replace hx213_0 := (HB.out.cell (World.block_lt_of_cell? w _ hx213_0)).trans hx213_0
                        have HR213_0 := Aside0.mk hi213_0
                        have HC213_0 := Aside0.mk hl213_0
                        clear hi213_0 hl213_0
                        replace p213 := eq_true p213
                        replace q213 := eq_true q213
                        go_wp2
                        repeat (go_quiet (fail); try go_wp2)
                        go_roundg k5
                        case measure => have := HJ1.out; have := HK2.out; have := HK3.out; have := HK4.out; have := HK5.out; omega
                        case rel => exact ⟨(wrap64 (x6_4 + 1)), (by first | rfl | (simp; done) | (simp [*]; done)), H', ⟨by have := HJ1.out; have := HK2.out; have := HK3.out; have := HK4.out; have := HK5.out; omega⟩, ⟨by (with_reducible repeat (first | refine blk_drewN ?_ _ | refine blk_drew ?_ | refine blk_alloc ?_ _)); exact BK205.out⟩, ⟨by (with_reducible repeat (first | refine blk_drewN ?_ _ | refine blk_drew ?_ | refine blk_alloc ?_ _)); exact BK211.out⟩, ⟨by repeat (first | (with_reducible first | exact HB.out | apply below_alloc | apply pw_below_drewN | apply below_drew1 | refine below_set ?_ GE205.out | refine below_set ?_ GE211.out) | exact HB.out)⟩⟩
                      ·rw [if_neg c46] at H
                       exact absurd H (by simp)
                     ·rw [if_neg c45] at H
                      exact absurd H (by simp)
                 ·rw [if_neg c39] at H
                  exact absurd H (by simp)
                ·rw [if_neg c38] at H
                 have c38b0 : decide (x6_4 < (((rd_T92 l0_2 x4_3).f1).length : Int)) = false := decide_eq_false c38
                 clear c38
                 have H' := Aside0.mk H
                 clear H
                 have hnb59 := NB211_205.out
                 have hnc59 := NB205_211.out
                 have hcz60_0 : wr.cell? ⟨gb211, 0, none⟩ = some (.bool true) := (blk_cell BK211.out 0).trans rfl
                 have hcz60_1 : wr.cell? ⟨gb211, 1, none⟩ = some (.slice A210_1 ((rd_T92 l0_2 x4_3).f1).length c210_1) := (blk_cell BK211.out 1).trans rfl
                 have hfz60_0 := blk_frozen BK211.out 0
                 have hfz60_1 := blk_frozen BK211.out 1
                 go_wp2
                 repeat (go_quiet (fail); try go_wp2)
                 go_roundg k4
                 case measure => have := HJ1.out; have := HK2.out; have := HK3.out; have := HK4.out; omega
                 case rel => exact ⟨(wrap64 (x4_3 + 1)), (by first | rfl | (simp; done) | (simp [*]; done)), H', ⟨by have := HJ1.out; have := HK2.out; have := HK3.out; have := HK4.out; omega⟩, ⟨by (with_reducible repeat (first | refine blk_drewN ?_ _ | refine blk_drew ?_ | refine blk_alloc ?_ _)); exact BK205.out⟩, ⟨by repeat (first | (with_reducible first | exact HB.out | apply below_alloc | apply pw_below_drewN | apply below_drew1 | refine below_set ?_ GE205.out | refine below_set ?_ GE211.out) | exact HB.out)⟩⟩
            ·replace c28 := Bool.eq_false_iff.mpr c28
             subst c28
             have H1 : (some 2) = some r := by rw [if_neg (show ¬ (false = true) by decide)] at H; exact H
             clear H
             have H := H1
             clear H1
             obtain rfl := Option.some.inj H
             have hcz61_0 : wr.cell? ⟨gb205, 0, none⟩ = some (.int .i64 a0_0) := (blk_cell BK205.out 0).trans rfl
             have hcz61_1 : wr.cell? ⟨gb205, 1, none⟩ = some (.slice A0_1 l0_1.length c0_1) := (blk_cell BK205.out 1).trans rfl
             have hcz61_2 : wr.cell? ⟨gb205, 2, none⟩ = some (.slice A0_2 l0_2.length c0_2) := (blk_cell BK205.out 2).trans rfl
             have hfz61_0 := blk_frozen BK205.out 0
             have hfz61_1 := blk_frozen BK205.out 1
             have hfz61_2 := blk_frozen BK205.out 2
             have p210 : 0 ≤ (x4_3 : Int) := of_decide_eq_true (by first | (with_reducible assumption) | assumption)
             have q210 : x4_3 < (l0_2.length : Int) := of_decide_eq_true (by first | (with_reducible assumption) | assumption)
             obtain ⟨ad210, A210_1, c210_1, e210, hx210_0, hx210_1, hl210_1, hi210_1⟩ := at_T92 HR0_2.out x4_3 p210 q210
             (try rw [← Nbq27.out] at hx210_0)
             cases e210
             replace hx210_0 := (HB.out.cell (World.block_lt_of_cell? w _ hx210_0)).trans hx210_0
             replace hx210_1 := (HB.out.cell (World.block_lt_of_cell? w _ hx210_1)).trans hx210_1
             have HR210_1 := Aside0.mk hi210_1
             have HC210_1 := Aside0.mk hl210_1
             clear hi210_1 hl210_1
             replace p210 := eq_true p210
             replace q210 := eq_true q210
             go_wp2_with (first | ((with_reducible refine gate_dst (N := 5) rfl ?_); refine box_event ?hg (N := 5) ?hd (cs := #[.bool false, .slice none 0 0]) (t := 92) ?hr ?_; (case hd => rfl); (case hg => rfl); (case hr => first | (go_simp; done) | (go_simp; rfl)); intro gb211 hg w62 hbox hb; have n0_ := Aside0.mk (blk_below (g := gb205) (o := .cells #[.int .i64 a0_0, .slice A0_1 l0_1.length c0_1, .slice (some ad210) l0_2.length c0_2] 25 (0, 0)) (by (with_reducible repeat (first | refine blk_drewN ?_ _ | refine blk_drew ?_ | refine blk_alloc ?_ _)); exact BK205.out) hb); have n1_ := Aside0.mk (below_step (by repeat (first | (with_reducible first | exact HB.out | apply below_alloc | apply pw_below_drewN | apply below_drew1 | refine below_set ?_ GE205.out) | exact HB.out)) hb); have n2_ := Aside0.mk (hbox); have n3_ := Aside0.mk ((by rw [hg]; exact (below_size (by repeat (first | (with_reducible first | exact HB.out | apply below_alloc | apply pw_below_drewN | apply below_drew1 | refine below_set ?_ GE205.out) | exact HB.out))) : w.heap.size ≤ gb211)); have n4_ := Aside0.mk ((by rw [hg]; exact (below_size (by repeat (first | (with_reducible first | exact HB.out | apply below_alloc | apply pw_below_drewN | apply below_drew1 | refine below_set ?_ GE205.out) | exact HB.out))) : w.heap.size ≤ gb211)); have n5_ := Aside0.mk ((by rw [hg]; exact Nat.ne_of_lt (blk_lt (g := gb205) (o := .cells #[.int .i64 a0_0, .slice A0_1 l0_1.length c0_1, .slice (some ad210) l0_2.length c0_2] 25 (0, 0)) (by (with_reducible repeat (first | refine blk_drewN ?_ _ | refine blk_drew ?_ | refine blk_alloc ?_ _)); exact BK205.out)) : gb205 ≠ gb211)); have n6_ := Aside0.mk ((by rw [hg]; exact Nat.ne_of_gt (blk_lt (g := gb205) (o := .cells #[.int .i64 a0_0, .slice A0_1 l0_1.length c0_1, .slice (some ad210) l0_2.length c0_2] 25 (0, 0)) (by (with_reducible repeat (first | refine blk_drewN ?_ _ | refine blk_drew ?_ | refine blk_alloc ?_ _)); exact BK205.out)) : gb211 ≠ gb205)); clear BK205; clear HB; have BK205 := n0_; have HB := n1_; have BK211 := n2_; have GW211 := n3_; have GE211 := n4_; have NB205_211 := n5_; have NB211_205 := n6_; clear n0_ n1_ n2_ n3_ n4_ n5_ n6_; clear hb hbox hg; have hnb63 := NB211_205.out; have hnc63 := NB205_211.out; have hcz64_0 : w62.cell? ⟨gb211, 0, none⟩ = some (.bool false) := (blk_cell BK211.out 0).trans rfl; have hcz64_1 : w62.cell? ⟨gb211, 1, none⟩ = some (.slice none 0 0) := (blk_cell BK211.out 1).trans rfl; have hfz64_0 := blk_frozen BK211.out 0; have hfz64_1 := blk_frozen BK211.out 1))
             repeat (go_quiet (first | ((with_reducible refine gate_dst (N := 5) rfl ?_); refine box_event ?hg (N := 5) ?hd (cs := #[.bool false, .slice none 0 0]) (t := 92) ?hr ?_; (case hd => rfl); (case hg => rfl); (case hr => first | (go_simp; done) | (go_simp; rfl)); intro gb211 hg w62 hbox hb; have n0_ := Aside0.mk (blk_below (g := gb205) (o := .cells #[.int .i64 a0_0, .slice A0_1 l0_1.length c0_1, .slice (some ad210) l0_2.length c0_2] 25 (0, 0)) (by (with_reducible repeat (first | refine blk_drewN ?_ _ | refine blk_drew ?_ | refine blk_alloc ?_ _)); exact BK205.out) hb); have n1_ := Aside0.mk (below_step (by repeat (first | (with_reducible first | exact HB.out | apply below_alloc | apply pw_below_drewN | apply below_drew1 | refine below_set ?_ GE205.out) | exact HB.out)) hb); have n2_ := Aside0.mk (hbox); have n3_ := Aside0.mk ((by rw [hg]; exact (below_size (by repeat (first | (with_reducible first | exact HB.out | apply below_alloc | apply pw_below_drewN | apply below_drew1 | refine below_set ?_ GE205.out) | exact HB.out))) : w.heap.size ≤ gb211)); have n4_ := Aside0.mk ((by rw [hg]; exact (below_size (by repeat (first | (with_reducible first | exact HB.out | apply below_alloc | apply pw_below_drewN | apply below_drew1 | refine below_set ?_ GE205.out) | exact HB.out))) : w.heap.size ≤ gb211)); have n5_ := Aside0.mk ((by rw [hg]; exact Nat.ne_of_lt (blk_lt (g := gb205) (o := .cells #[.int .i64 a0_0, .slice A0_1 l0_1.length c0_1, .slice (some ad210) l0_2.length c0_2] 25 (0, 0)) (by (with_reducible repeat (first | refine blk_drewN ?_ _ | refine blk_drew ?_ | refine blk_alloc ?_ _)); exact BK205.out)) : gb205 ≠ gb211)); have n6_ := Aside0.mk ((by rw [hg]; exact Nat.ne_of_gt (blk_lt (g := gb205) (o := .cells #[.int .i64 a0_0, .slice A0_1 l0_1.length c0_1, .slice (some ad210) l0_2.length c0_2] 25 (0, 0)) (by (with_reducible repeat (first | refine blk_drewN ?_ _ | refine blk_drew ?_ | refine blk_alloc ?_ _)); exact BK205.out)) : gb211 ≠ gb205)); clear BK205; clear HB; have BK205 := n0_; have HB := n1_; have BK211 := n2_; have GW211 := n3_; have GE211 := n4_; have NB205_211 := n5_; have NB211_205 := n6_; clear n0_ n1_ n2_ n3_ n4_ n5_ n6_; clear hb hbox hg; have hnb63 := NB211_205.out; have hnc63 := NB205_211.out; have hcz64_0 : w62.cell? ⟨gb211, 0, none⟩ = some (.bool false) := (blk_cell BK211.out 0).trans rfl; have hcz64_1 : w62.cell? ⟨gb211, 1, none⟩ = some (.slice none 0 0) := (blk_cell BK211.out 1).trans rfl; have hfz64_0 := blk_frozen BK211.out 0; have hfz64_1 := blk_frozen BK211.out 1)); try go_wp2_with (first | ((with_reducible refine gate_dst (N := 5) rfl ?_); refine box_event ?hg (N := 5) ?hd (cs := #[.bool false, .slice none 0 0]) (t := 92) ?hr ?_; (case hd => rfl); (case hg => rfl); (case hr => first | (go_simp; done) | (go_simp; rfl)); intro gb211 hg w62 hbox hb; have n0_ := Aside0.mk (blk_below (g := gb205) (o := .cells #[.int .i64 a0_0, .slice A0_1 l0_1.length c0_1, .slice (some ad210) l0_2.length c0_2] 25 (0, 0)) (by (with_reducible repeat (first | refine blk_drewN ?_ _ | refine blk_drew ?_ | refine blk_alloc ?_ _)); exact BK205.out) hb); have n1_ := Aside0.mk (below_step (by repeat (first | (with_reducible first | exact HB.out | apply below_alloc | apply pw_below_drewN | apply below_drew1 | refine below_set ?_ GE205.out) | exact HB.out)) hb); have n2_ := Aside0.mk (hbox); have n3_ := Aside0.mk ((by rw [hg]; exact (below_size (by repeat (first | (with_reducible first | exact HB.out | apply below_alloc | apply pw_below_drewN | apply below_drew1 | refine below_set ?_ GE205.out) | exact HB.out))) : w.heap.size ≤ gb211)); have n4_ := Aside0.mk ((by rw [hg]; exact (below_size (by repeat (first | (with_reducible first | exact HB.out | apply below_alloc | apply pw_below_drewN | apply below_drew1 | refine below_set ?_ GE205.out) | exact HB.out))) : w.heap.size ≤ gb211)); have n5_ := Aside0.mk ((by rw [hg]; exact Nat.ne_of_lt (blk_lt (g := gb205) (o := .cells #[.int .i64 a0_0, .slice A0_1 l0_1.length c0_1, .slice (some ad210) l0_2.length c0_2] 25 (0, 0)) (by (with_reducible repeat (first | refine blk_drewN ?_ _ | refine blk_drew ?_ | refine blk_alloc ?_ _)); exact BK205.out)) : gb205 ≠ gb211)); have n6_ := Aside0.mk ((by rw [hg]; exact Nat.ne_of_gt (blk_lt (g := gb205) (o := .cells #[.int .i64 a0_0, .slice A0_1 l0_1.length c0_1, .slice (some ad210) l0_2.length c0_2] 25 (0, 0)) (by (with_reducible repeat (first | refine blk_drewN ?_ _ | refine blk_drew ?_ | refine blk_alloc ?_ _)); exact BK205.out)) : gb211 ≠ gb205)); clear BK205; clear HB; have BK205 := n0_; have HB := n1_; have BK211 := n2_; have GW211 := n3_; have GE211 := n4_; have NB205_211 := n5_; have NB211_205 := n6_; clear n0_ n1_ n2_ n3_ n4_ n5_ n6_; clear hb hbox hg; have hnb63 := NB211_205.out; have hnc63 := NB205_211.out; have hcz64_0 : w62.cell? ⟨gb211, 0, none⟩ = some (.bool false) := (blk_cell BK211.out 0).trans rfl; have hcz64_1 : w62.cell? ⟨gb211, 1, none⟩ = some (.slice none 0 0) := (blk_cell BK211.out 1).trans rfl; have hfz64_0 := blk_frozen BK211.out 0; have hfz64_1 := blk_frozen BK211.out 1)))
             go_ret
             exact ⟨by first | rfl | (simp [errW_none, errW_some] <;> rfl) | (simp [*, errW_none, errW_some] <;> rfl), by repeat (first | (with_reducible first | exact HB.out | apply below_alloc | apply pw_below_drewN | apply below_drew1 | refine below_set ?_ GE205.out | refine below_set ?_ GE211.out) | exact HB.out)⟩
           ·rw [if_neg c26] at H
            exact absurd H (by simp)
          ·rw [if_neg c25] at H
           have c25b0 : decide (x4_3 < (l0_2.length : Int)) = false := decide_eq_false c25
           clear c25
           obtain rfl := Option.some.inj H
           have hcz65_0 : wr.cell? ⟨gb205, 0, none⟩ = some (.int .i64 a0_0) := (blk_cell BK205.out 0).trans rfl
           have hcz65_1 : wr.cell? ⟨gb205, 1, none⟩ = some (.slice A0_1 l0_1.length c0_1) := (blk_cell BK205.out 1).trans rfl
           have hcz65_2 : wr.cell? ⟨gb205, 2, none⟩ = some (.slice A0_2 l0_2.length c0_2) := (blk_cell BK205.out 2).trans rfl
           have hfz65_0 := blk_frozen BK205.out 0
           have hfz65_1 := blk_frozen BK205.out 1
           have hfz65_2 := blk_frozen BK205.out 2
           go_wp2
           repeat (go_quiet (fail); try go_wp2)
           go_ret
           exact ⟨by first | rfl | (simp [errW_none, errW_some] <;> rfl) | (simp [*, errW_none, errW_some] <;> rfl), by repeat (first | (with_reducible first | exact HB.out | apply below_alloc | apply pw_below_drewN | apply below_drew1 | refine below_set ?_ GE205.out) | exact HB.out)⟩
    ·rw [if_neg c8] at H
     have c8b0 : ((l0_1.length : Int) == (l0_2.length : Int)) = false := beq_eq_false_iff_ne.mpr c8
     have c8b1 : ((l0_1.length : Int) != (l0_2.length : Int)) = true := bne_iff_ne.mpr c8
     have c8b2 : (l0_1.length == l0_2.length) = false := by first | simpa using c8 | (simp at c8 ⊢; omega)
     obtain rfl := Option.some.inj H
     have hcz66_0 : wc.cell? ⟨gb205, 0, none⟩ = some (.int .i64 a0_0) := (blk_cell BK205.out 0).trans rfl
     have hcz66_1 : wc.cell? ⟨gb205, 1, none⟩ = some (.slice A0_1 l0_1.length c0_1) := (blk_cell BK205.out 1).trans rfl
     have hcz66_2 : wc.cell? ⟨gb205, 2, none⟩ = some (.slice A0_2 l0_2.length c0_2) := (blk_cell BK205.out 2).trans rfl
     have hfz66_0 := blk_frozen BK205.out 0
     have hfz66_1 := blk_frozen BK205.out 1
     have hfz66_2 := blk_frozen BK205.out 2
     go_wp2
     repeat (go_quiet (fail); try go_wp2)
     go_ret
     exact ⟨by first | rfl | (simp [errW_none, errW_some] <;> rfl) | (simp [*, errW_none, errW_some] <;> rfl), by repeat (first | (with_reducible first | exact HB.out | apply below_alloc | apply pw_below_drewN | apply below_drew1 | refine below_set ?_ GE205.out) | exact HB.out)⟩
end Go.Proofs.YtadepdeckapgcaaDoor.PWitnessTells
end

section
namespace Go.Proofs.YtadepdeckapgcaaDoor
open Go.RowKit Go.Proofs.YtadepdeckapgcaaDoorW.PrintWords Go.Proofs.YtadepdeckapgcaaDoorW.PrintLast Go.Proofs.YtadepdeckapgcaaDoorW.PrintMore PWitnessTells
set_option linter.unusedSimpArgs false
set_option linter.unusedVariables false
abbrev NShare := S108
abbrev NTerm := S96
abbrev NNode := S92
def MX : Nat := 9223372036854775807
theorem drop_cons' {α : Type} (d : α) (l : List α) (k : Nat) (h : k < l.length) : l.drop k = l.getD k d :: l.drop (k + 1) := by
  rw [List.drop_eq_getElem_cons h]; congr 1; simp [h]
theorem wrap_succ (i : Nat) (n : Nat) (h : i < n) (hn : n ≤ MX) : wrap64 ((i : Int) + 1) = ((i + 1 : Nat) : Int) := by unfold wrap64; unfold MX at hn; omega
theorem wrap_pred (i : Nat) (n : Nat) (h : i < n) (hn : n ≤ MX) (h0 : 0 < i) : wrap64 ((i : Int) - 1) = ((i - 1 : Nat) : Int) := by unfold wrap64; unfold MX at hn; omega
def unitsB (n : Int) : Bool := decide (1 ≤ n ∧ n ≤ 1000)
def termL : Int → Int → List NShare → Int
  | _, e, [] => e
  | last, e, s :: r => if s.f0 ≤ last ∨ 64 ≤ s.f0 then 2 else termL s.f0 (if unitsB s.f1 then e else 1) r
theorem termL_cons (last e : Int) (s : NShare) (r : List NShare) : termL last e (s :: r) = if s.f0 ≤ last ∨ 64 ≤ s.f0 then 2 else termL s.f0 (if unitsB s.f1 then e else 1) r := rfl
def termC (m : NTerm) : Int := if unitsB m.f0 then termL (-1) 0 m.f1 else 1
def termsC : List NTerm → Int
  | [] => 0
  | m :: r => if termC m = 0 then termsC r else termC m
theorem termsC_cons (m : NTerm) (r : List NTerm) : termsC (m :: r) = if termC m = 0 then termsC r else termC m := rfl
def waysC : List (List NTerm) → Int
  | [] => 0
  | w :: r => if 256 < w.length then 4 else if termsC w = 0 then waysC r else termsC w
theorem waysC_cons (w : List NTerm) (r : List (List NTerm)) : waysC (w :: r) = if 256 < w.length then 4 else if termsC w = 0 then waysC r else termsC w := rfl
def nodeC (x : NNode) : Int := if x.f0 then (if 4 < x.f1.length then 4 else waysC x.f1) else 2
def nodesC : List NNode → Int
  | [] => 0
  | x :: r => if nodeC x = 0 then nodesC r else nodeC x
theorem nodesC_cons (x : NNode) (r : List NNode) : nodesC (x :: r) = if nodeC x = 0 then nodesC r else nodeC x := rfl
def deadC : Int → List Int → Bool
  | _, [] => true
  | last, t :: r => if t ≤ last ∨ 64 ≤ t then false else deadC t r
theorem deadC_cons (last t : Int) (r : List Int) : deadC last (t :: r) = if t ≤ last ∨ 64 ≤ t then false else deadC t r := rfl
def chkR (time : Int) (d : List Int) (n : List NNode) : Int :=
  if time < 0 ∨ 1073741824 < time then 1 else if d.length ≠ n.length then 2 else if deadC (-1) d then nodesC n else 2
theorem units_f (n : Int) : report_units.f n = some (unitsB n) := by
  unfold report_units.f unitsB
  by_cases h : n ≥ 1
  · rw [if_pos h]; congr 1; rw [decide_eq_decide]; omega
  · rw [if_neg h, decide_eq_false (by omega)]
theorem ev_term_l0 (l : List NShare) (hl : l.length ≤ MX) : ∀ (d i : Nat) (last e : Int), i + d = l.length → Ev (fun k => report_term.l0 k last e l (l.length : Int) i) (termL last e (l.drop i)) := by
  intro d
  induction d with
  | zero =>
    intro i last e hi
    rw [List.drop_of_length_le (by omega)]
    exact Ev.step (f := fun _ => some e) (fun k => by simp only [report_term.l0]; rw [if_neg (by omega)]) (Ev.now _)
  | succ d ih =>
    intro i last e hi
    rw [drop_cons' z108 l i (by omega), termL_cons]
    have hw := wrap_succ i l.length (by omega) hl
    have hrd : rd_T108 l (i : Int) = l.getD i z108 := rfl
    have ih' := fun la e => ih (i + 1) la e (by omega)
    generalize hs : l.getD i z108 = s at *
    by_cases h1 : s.f0 ≤ last
    · rw [if_pos (.inl h1)]
      refine Ev.step (f := fun k => report_term.j1 k e l (l.length : Int) i true s.f0 s.f1) (fun k => by simp only [report_term.l0]; rw [if_pos (by omega), if_pos (by omega), if_pos (by omega), hrd, if_pos h1]) ?_
      exact Ev.step (f := fun _ => some 2) (fun k => by simp only [report_term.j1]; rfl) (Ev.now _)
    · refine Ev.step (f := fun k => report_term.j1 k e l (l.length : Int) i (decide (s.f0 ≥ 64)) s.f0 s.f1) (fun k => by simp only [report_term.l0]; rw [if_pos (by omega), if_pos (by omega), if_pos (by omega), hrd, if_neg h1]) ?_
      by_cases h2 : s.f0 ≥ 64
      · rw [if_pos (.inr h2), decide_eq_true h2]
        exact Ev.step (f := fun _ => some 2) (fun k => by simp only [report_term.j1]; rfl) (Ev.now _)
      · rw [if_neg (by omega), decide_eq_false h2]
        cases hu : unitsB s.f1
        · exact Ev.step (f := fun k => report_term.l0 k s.f0 1 l (l.length : Int) ((i + 1 : Nat) : Int)) (fun k => by simp only [report_term.j1, units_f, hu, hw]; simp) (ih' _ _)
        · exact Ev.step (f := fun k => report_term.l0 k s.f0 e l (l.length : Int) ((i + 1 : Nat) : Int)) (fun k => by simp only [report_term.j1, units_f, hu, hw]; simp) (ih' _ _)
theorem ev_term (m : NTerm) (hl : m.f1.length ≤ MX) : Ev (fun k => report_term.f k m.f0 m.f1) (termC m) := by
  unfold report_term.f termC
  rw [units_f]
  cases hu : unitsB m.f0
  · exact Ev.congr (f := fun _ => some 1) (fun k => by simp) (Ev.now _)
  · exact Ev.congr (f := fun k => report_term.l0 k (-1) 0 m.f1 (m.f1.length : Int) 0) (fun k => by simp) (ev_term_l0 m.f1 hl m.f1.length 0 (-1) 0 (by omega))
theorem ev_node_l1 (ws : List (List NTerm)) (n a : Int) (w : List NTerm) (hw : w.length ≤ MX) (hm : ∀ m ∈ w, m.f1.length ≤ MX) (r : Int) : ∀ (d i : Nat), i + d = w.length →
    (termsC (w.drop i) ≠ 0 → r = termsC (w.drop i)) → (termsC (w.drop i) = 0 → Ev (fun k => report_node.l0 k ws n (wrap64 (a + 1))) r) →
    Ev (fun k => report_node.l1 k ws n a w (w.length : Int) i) r := by
  intro d
  induction d with
  | zero =>
    intro i hi h1 h2
    rw [List.drop_of_length_le (by omega)] at h1 h2
    exact Ev.step (f := fun k => report_node.l0 k ws n (wrap64 (a + 1))) (fun k => by simp only [report_node.l1]; rw [if_neg (by omega)]) (h2 rfl)
  | succ d ih =>
    intro i hi h1 h2
    have hdr := drop_cons' z96 w i (by omega)
    rw [hdr, termsC_cons] at h1 h2
    have hwr := wrap_succ i w.length (by omega) hw
    have hrd : rd_T96 w (i : Int) = w.getD i z96 := rfl
    have hmem : w.getD i z96 ∈ w := by
      have : w.getD i z96 = w[i] := by simp [show i < w.length by omega]
      rw [this]; exact List.getElem_mem _
    have hme := ev_term _ (hm _ hmem)
    have ih' := ih (i + 1) (by omega)
    generalize w.getD i z96 = m at *
    by_cases ht : termC m = 0
    · rw [if_pos ht] at h1 h2
      rw [ht] at hme
      refine Ev.step (f := fun k => (report_term.f k m.f0 m.f1).bind fun t => if t = 0 then report_node.l1 k ws n a w (w.length : Int) ((i + 1 : Nat) : Int) else some t) (fun k => by simp only [report_node.l1]; rw [if_pos (by omega), if_pos (by omega), if_pos (by omega), hrd, hwr]) ?_
      refine Ev.bind hme ?_
      exact Ev.congr (f := fun k => report_node.l1 k ws n a w (w.length : Int) ((i + 1 : Nat) : Int)) (fun k => by simp) (ih' h1 h2)
    · rw [if_neg ht] at h1 h2
      refine Ev.step (f := fun k => (report_term.f k m.f0 m.f1).bind fun t => if t = 0 then report_node.l1 k ws n a w (w.length : Int) ((i + 1 : Nat) : Int) else some t) (fun k => by simp only [report_node.l1]; rw [if_pos (by omega), if_pos (by omega), if_pos (by omega), hrd, hwr]) ?_
      refine Ev.bind hme ?_
      rw [h1 ht]
      exact Ev.congr (f := fun _ => some (termC m)) (fun k => by simp [ht]) (Ev.now _)
theorem getD_mem {α : Type} (d : α) (l : List α) (i : Nat) (h : i < l.length) : l.getD i d ∈ l := by
  have : l.getD i d = l[i] := by simp [h]
  rw [this]; exact List.getElem_mem _
def Bw (w : List NTerm) : Prop := w.length ≤ MX ∧ ∀ m ∈ w, m.f1.length ≤ MX
def Bws (ws : List (List NTerm)) : Prop := ws.length ≤ MX ∧ ∀ w ∈ ws, Bw w
def Bns (n : List NNode) : Prop := n.length ≤ MX ∧ ∀ x ∈ n, Bws x.f1
theorem ev_node_l0 (ws : List (List NTerm)) (hb : Bws ws) : ∀ (d i : Nat), i + d = ws.length → Ev (fun k => report_node.l0 k ws (ws.length : Int) i) (waysC (ws.drop i)) := by
  intro d
  induction d with
  | zero =>
    intro i hi
    rw [List.drop_of_length_le (by omega)]
    exact Ev.step (f := fun _ => some 0) (fun k => by simp only [report_node.l0]; rw [if_neg (by omega)]) (Ev.now _)
  | succ d ih =>
    intro i hi
    rw [drop_cons' [] ws i (by omega), waysC_cons]
    have hwr := wrap_succ i ws.length (by omega) hb.1
    have hrd : rd_L5 ws (i : Int) = ws.getD i [] := rfl
    have hB := hb.2 _ (getD_mem [] ws i (by omega))
    have ih' := ih (i + 1) (by omega)
    generalize ws.getD i [] = w at *
    by_cases h : 256 < w.length
    · rw [if_pos h]
      exact Ev.step (f := fun _ => some 4) (fun k => by simp only [report_node.l0]; rw [if_pos (by omega), if_pos (by omega), if_pos (by omega), hrd, if_pos (by omega)]) (Ev.now _)
    · rw [if_neg h]
      refine Ev.step (f := fun k => report_node.l1 k ws (ws.length : Int) i w (w.length : Int) 0) (fun k => by simp only [report_node.l0]; rw [if_pos (by omega), if_pos (by omega), if_pos (by omega), hrd, if_neg (by omega)]) ?_
      refine ev_node_l1 ws _ i w hB.1 hB.2 _ w.length 0 (by omega) ?_ ?_
      · intro q; rw [List.drop_zero] at *; rw [if_neg q]
      · intro q; rw [List.drop_zero] at q; rw [if_pos q, hwr]; exact ih'
theorem ev_node (x : NNode) (hb : Bws x.f1) : Ev (fun k => report_node.f k x.f0 x.f1) (nodeC x) := by
  unfold report_node.f nodeC
  cases x.f0
  · exact Ev.congr (f := fun _ => some 2) (fun k => by simp) (Ev.now _)
  · by_cases h : 4 < x.f1.length
    · exact Ev.congr (f := fun _ => some 4) (fun k => by rw [if_pos rfl, if_pos (by omega)]) (by rw [if_pos rfl, if_pos h]; exact Ev.now _)
    · refine Ev.congr (f := fun k => report_node.l0 k x.f1 (x.f1.length : Int) 0) (fun k => by rw [if_pos rfl, if_neg (by omega)]) ?_
      rw [if_pos rfl, if_neg h]
      exact ev_node_l0 x.f1 hb x.f1.length 0 (by omega)
theorem ev_chk_l1 (n : List NNode) (hb : Bns n) : ∀ (d i : Nat), i + d = n.length → Ev (fun k => report_Check.l1 k n (n.length : Int) i) (nodesC (n.drop i)) := by
  intro d
  induction d with
  | zero =>
    intro i hi
    rw [List.drop_of_length_le (by omega)]
    exact Ev.step (f := fun _ => some 0) (fun k => by simp only [report_Check.l1]; rw [if_neg (by omega)]) (Ev.now _)
  | succ d ih =>
    intro i hi
    rw [drop_cons' z92 n i (by omega), nodesC_cons]
    have hwr := wrap_succ i n.length (by omega) hb.1
    have hrd : rd_T92 n (i : Int) = n.getD i z92 := rfl
    have hB := ev_node _ (hb.2 _ (getD_mem z92 n i (by omega)))
    have ih' := ih (i + 1) (by omega)
    generalize n.getD i z92 = x at *
    refine Ev.step (f := fun k => (report_node.f k x.f0 x.f1).bind fun t => if t = 0 then report_Check.l1 k n (n.length : Int) ((i + 1 : Nat) : Int) else some t) (fun k => by simp only [report_Check.l1]; rw [if_pos (by omega), if_pos (by omega), if_pos (by omega), hrd, hwr]) ?_
    refine Ev.bind hB ?_
    by_cases h : nodeC x = 0
    · exact Ev.congr (f := fun k => report_Check.l1 k n (n.length : Int) ((i + 1 : Nat) : Int)) (fun k => by simp [h]) (by rw [if_pos h]; exact ih')
    · exact Ev.congr (f := fun _ => some (nodeC x)) (fun k => by simp [h]) (by rw [if_neg h]; exact Ev.now _)
theorem ev_chk_l0 (time : Int) (dd : List Int) (hd : dd.length ≤ MX) (n : List NNode) (hb : Bns n) : ∀ (d i : Nat) (last : Int), i + d = dd.length → Ev (fun k => report_Check.l0 k last dd (dd.length : Int) i time dd n) (if deadC last (dd.drop i) then nodesC n else 2) := by
  intro d
  induction d with
  | zero =>
    intro i last hi
    rw [List.drop_of_length_le (by omega)]
    refine Ev.step (f := fun k => report_Check.l1 k n (n.length : Int) 0) (fun k => by simp only [report_Check.l0]; rw [if_neg (by omega)]) ?_
    exact ev_chk_l1 n hb n.length 0 (by omega)
  | succ d ih =>
    intro i last hi
    rw [drop_cons' 0 dd i (by omega), deadC_cons]
    have hwr := wrap_succ i dd.length (by omega) hd
    have hrd : rd dd (i : Int) = dd.getD i 0 := rfl
    have ih' := fun la => ih (i + 1) la (by omega)
    generalize dd.getD i 0 = t at *
    by_cases h1 : t ≤ last
    · rw [if_pos (show t ≤ last ∨ 64 ≤ t from .inl h1)]
      exact Ev.step (f := fun _ => some 2) (fun k => by simp only [report_Check.l0]; rw [if_pos (by omega), if_pos (by omega), if_pos (by omega), hrd, if_pos h1]) (Ev.now _)
    · by_cases h2 : t ≥ 64
      · rw [if_pos (show t ≤ last ∨ 64 ≤ t from .inr h2)]
        exact Ev.step (f := fun _ => some 2) (fun k => by simp only [report_Check.l0]; rw [if_pos (by omega), if_pos (by omega), if_pos (by omega), hrd, if_neg h1, if_pos h2]) (Ev.now _)
      · rw [if_neg (show ¬ (t ≤ last ∨ 64 ≤ t) by omega)]
        exact Ev.step (f := fun k => report_Check.l0 k t dd (dd.length : Int) ((i + 1 : Nat) : Int) time dd n) (fun k => by simp only [report_Check.l0]; rw [if_pos (by omega), if_pos (by omega), if_pos (by omega), hrd, if_neg h1, if_neg h2, hwr]) (ih' _)
theorem ev_chk (time : Int) (dd : List Int) (hd : dd.length ≤ MX) (n : List NNode) (hb : Bns n) : Ev (fun k => report_Check.f k time dd n) (chkR time dd n) := by
  unfold report_Check.f chkR
  by_cases h0 : time < 0
  · rw [if_pos (.inl h0)]
    refine Ev.congr (f := fun k => report_Check.j0 k true time dd n) (fun k => by rw [if_pos h0]) ?_
    exact Ev.step (f := fun _ => some 1) (fun k => by simp only [report_Check.j0]; rfl) (Ev.now _)
  · refine Ev.congr (f := fun k => report_Check.j0 k (decide (time > 1073741824)) time dd n) (fun k => by rw [if_neg h0]) ?_
    by_cases h1 : time > 1073741824
    · rw [if_pos (.inr h1), decide_eq_true h1]
      exact Ev.step (f := fun _ => some 1) (fun k => by simp only [report_Check.j0]; rfl) (Ev.now _)
    · rw [if_neg (by omega), decide_eq_false h1]
      by_cases h2 : dd.length = n.length
      · rw [if_neg (by omega)]
        exact Ev.step (f := fun k => report_Check.l0 k (-1) dd (dd.length : Int) 0 time dd n) (fun k => by simp only [report_Check.j0]; rw [if_neg (by simp), if_pos (by omega)]) (ev_chk_l0 time dd hd n hb dd.length 0 (-1) (by omega))
      · rw [if_pos h2]
        exact Ev.step (f := fun _ => some 2) (fun k => by simp only [report_Check.j0]; rw [if_neg (by simp), if_neg (by omega)]) (Ev.now _)
end Go.Proofs.YtadepdeckapgcaaDoor
end

section
namespace Go.Proofs.YtadepdeckapgcaaDoor
open Go.RowKit Go.Proofs.YtadepdeckapgcaaDoorW.PrintWords Go.Proofs.YtadepdeckapgcaaDoorW.PrintLast Go.Proofs.YtadepdeckapgcaaDoorW.PrintMore PWitnessTells
set_option linter.unusedSimpArgs false
set_option linter.unusedVariables false
theorem C_len {α : Type} {d : Kd α} {w : World} {A : Option Addr} {n : Nat} {xs : List α} (h : Kd.C d w A n xs) : xs.length = n ∧ n ≤ MX := ⟨h.1, h.2.1⟩
theorem C_each {α : Type} {d : Kd α} {w : World} {A : Option Addr} {n : Nat} {xs : List α} (h : Kd.C d w A n xs) (x : α) (hx : x ∈ xs) : ∃ c, d.K w x c := by
  obtain ⟨j, hj, rfl⟩ := List.getElem_of_mem hx
  obtain ⟨ad, _, hc⟩ := h.2.2 (by have := h.1; omega)
  obtain ⟨c, _, hK, _⟩ := hc j _ (List.getElem?_eq_getElem hj)
  exact ⟨c, hK⟩
theorem bw_of {w : World} {A : Option Addr} {n : Nat} {xs : List NTerm} (h : Kd.C k96 w A n xs) : Bw xs := by
  refine ⟨by have := C_len h; omega, fun m hm => ?_⟩
  obtain ⟨c, hK⟩ := C_each h m hm
  obtain ⟨A1, c1, _, _, hC⟩ := k96_open hK
  exact (C_len hC).2
theorem bws_of {w : World} {A : Option Addr} {n : Nat} {xs : List (List NTerm)} (h : Kd.C (Kd.slice 96 k96) w A n xs) : Bws xs := by
  refine ⟨by have := C_len h; omega, fun m hm => ?_⟩
  obtain ⟨c, A1, c1, _, _, hC⟩ := C_each h m hm
  exact bw_of hC
theorem bns_of {w : World} {A : Option Addr} {n : Nat} {xs : List NNode} (h : Kd.C k92 w A n xs) : Bns xs := by
  refine ⟨by have := C_len h; omega, fun m hm => ?_⟩
  obtain ⟨c, hK⟩ := C_each h m hm
  obtain ⟨A1, c1, _, _, hC⟩ := k92_open hK
  exact bws_of hC
structure RepAt (w : World) (v : Value) (time : Int) (d : List Int) (n : List NNode) : Prop where
  out : ∃ A1 c1 A2 c2, v = .agg #[.int .i64 time, .slice A1 d.length c1, .slice A2 n.length c2] ∧ Kd.C (Kd.int .i64) w A1 d.length d ∧ d.length ≤ c1 ∧ Kd.C k92 w A2 n.length n ∧ n.length ≤ c2
theorem RepAt.quiet {w w' : World} {v : Value} {time : Int} {d : List Int} {n : List NNode} (h : RepAt w v time d n) (q : Quiet w w') : RepAt w' v time d n := by
  obtain ⟨A1, c1, A2, c2, e, h1, h2, h3, h4⟩ := h.out
  exact ⟨A1, c1, A2, c2, e, Kd.C_below h1 q.bel, h2, Kd.C_below h3 q.bel, h4⟩
theorem wChk (w : World) (time : Int) (A1 : Option Addr) (c1 : Nat) (d : List Int) (A2 : Option Addr) (c2 : Nat) (n : List NNode) (h1 : Kd.C (Kd.int .i64) w A1 d.length d) (h2 : d.length ≤ c1) (h3 : Kd.C k92 w A2 n.length n) (h4 : n.length ≤ c2) :
    Calls Tryd.prog 40 #[.agg #[.int .i64 time, .slice A1 d.length c1, .slice A2 n.length c2]] w fun e w' => e = .returned (.int .i64 (chkR time d n)) ∧ Quiet w w' := by
  obtain ⟨k, hk⟩ := (ev_chk time d (C_len h1).2 n (bns_of h3)).rounds
  exact (report_Check.calls k time A1 c1 d A2 c2 n _ w h1 h2 h3 h4 hk).mono fun e w' ⟨he, hb⟩ => ⟨he, Quiet.of hb⟩
def ofL : Nat → List Int → Nat
  | s, [] => s
  | s, t :: r => ofL (withB s t) r
theorem ofL_cons (s : Nat) (t : Int) (r : List Int) : ofL s (t :: r) = ofL (withB s t) r := rfl
theorem withB_lt' (s : Nat) (hs : s < B64) (t : Int) : withB s t < B64 := by
  unfold withB
  split
  · rename_i h
    exact Nat.or_lt_two_pow (n := 64) hs (pow_lt t h)
  · exact hs
theorem ofL_lt (l : List Int) : ∀ s, s < B64 → ofL s l < B64 := by
  induction l with
  | nil => intro s h; exact h
  | cons t r ih => intro s h; rw [ofL_cons]; exact ih _ (withB_lt' s h t)
theorem at_ints {w : World} {A : Option Addr} {n : Nat} {xs : List Int} (h : Kd.C (Kd.int .i64) w A n xs) (i : Nat) (h1 : i < n) : ∃ ad, A = some ad ∧ w.cell? (ad.add i) = some (.int .i64 (xs.getD i 0)) := by
  obtain ⟨ad, c, e, _, hK, hc⟩ := ReadsRow.get_ h 0 (i : Int) (by omega) (by omega)
  obtain rfl := hK
  have := hc 0 _ rfl
  exact ⟨ad, e, by simpa [Kd.int, Kd.scalar] using this⟩
def OfRel (w : World) (l : List Int) (s i : Value) (wr : World) : Prop := ∃ (k x : Nat), k ≤ l.length ∧ i = .int .i64 k ∧ s = .int .u64 x ∧ x < B64 ∧ ofL x (l.drop k) = ofL 0 l ∧ w = wr
theorem wOf (w : World) (A : Option Addr) (c : Nat) (l : List Int) (hC : Kd.C (Kd.int .i64) w A l.length l) (hc : l.length ≤ c) :
    Calls Tryd.prog 57 #[.slice A l.length c] w fun e w' => e = .returned (.int .u64 (ofL 0 l : Nat)) ∧ w = w' := by
  have hm := hC.2.1
  have HC := Lib.hid hC; clear hC
  go_enter Tryd.func57, Tryd.ntmps57
  go_wp2
  go_loopw [3, 8] (fun s i wr => OfRel w l s i wr) (fun _ i _ => l.length - (intOf i).toNat)
  case atStart => exact ⟨0, 0, Nat.zero_le _, rfl, rfl, by decide, rfl, rfl⟩
  case round =>
    obtain ⟨k, x, hk, rfl, rfl, hxl, hx, rfl⟩ := hrel
    by_cases hlt : k < l.length
    · obtain ⟨ad, hA, h0⟩ := at_ints HC.out k hlt
      have hdr := drop_cons 0 l k hlt
      rw [hdr, ofL_cons] at hx
      generalize l.getD k 0 = t at *
      subst hA
      have HX := Lib.hid hx
      have E := Lib.hid (with_eq x hxl t)
      have hl2 := withB_lt' x hxl t
      clear hx hdr
      go_wp2_with (go_at_call 104; refine (wOne _ _).mono ?_; rintro e w' ⟨rfl, rfl⟩)
      go_roundw
      case rel => exact ⟨k + 1, withB x t, by omega, by go_num, by rw [E.out], hl2, HX.out, rfl⟩
      case measure => simp [intOf]; omega
    · have hx' : ofL 0 l = x := by rw [← hx, List.drop_of_length_le (by omega)]; rfl
      have HX := Lib.hid hx'
      clear hx hx'
      go_wp2
      go_ret
      rw [HX.out]
      exact ⟨rfl, rfl⟩
def wayOk (dead : Nat) (w : List NTerm) : Bool := decide (0 ≤ lacksL dead 0 w)
def nodesOk (dead : Nat) (n : List NNode) : Bool := n.all fun x => x.f1.all (wayOk dead)
def soundR (time : Int) (d : List Int) (n : List NNode) : Bool := decide (chkR time d n = 0) && nodesOk (ofL 0 d) n
def SdRel (w : World) (n : List NNode) (dead : Nat) (i : Value) (wr : World) : Prop := ∃ k : Nat, k ≤ n.length ∧ i = .int .i64 k ∧ nodesOk dead (n.drop k) = nodesOk dead n ∧ Quiet w wr
def SdRel2 (w : World) (ws : List (List NTerm)) (dead : Nat) (i : Value) (wr : World) : Prop := ∃ k : Nat, k ≤ ws.length ∧ i = .int .i64 k ∧ (ws.drop k).all (wayOk dead) = ws.all (wayOk dead) ∧ Quiet w wr
set_option maxRecDepth 100000 in
theorem wSound (w : World) (time : Int) (A1 : Option Addr) (c1 : Nat) (d : List Int) (A2 : Option Addr) (c2 : Nat) (n : List NNode) (h1 : Kd.C (Kd.int .i64) w A1 d.length d) (h2 : d.length ≤ c1) (h3 : Kd.C k92 w A2 n.length n) (h4 : n.length ≤ c2) :
    Calls Tryd.prog 17 #[.agg #[.int .i64 time, .slice A1 d.length c1, .slice A2 n.length c2]] w fun e w' => e = .returned (.bool (soundR time d n)) ∧ Quiet w w' := by
  have hm := h3.2.1
  have hbx : ∀ o, Quiet w (w.alloc o) := fun o => by (repeat (first | exact Fr.refl _ _ | assumption | (refine Fr.quiet ?_ (by assumption)) | refine Fr.quiet ?_ HF.out | refine Fr.quiet ?_ HF2.out | refine Fr.drew ?_ | refine Fr.drewN ?_ _ | refine Fr.alloc ?_ _ | refine Fr.setCell ?_ (.inr (by first | omega | (simp; done) | (simp; omega))) _))
  have CH := Lib.hid (fun o => wChk (w.alloc o) time A1 c1 d A2 c2 n (Kd.C_below h1 (hbx o).bel) h2 (Kd.C_below h3 (hbx o).bel) h4)
  have OF := Lib.hid (fun wz (q : Quiet w wz) => wOf wz A1 c1 d (Kd.C_below h1 q.bel) h2)
  have HN := Lib.hid h3
  clear h1 h3
  have hB : Hid (∀ wz, Quiet (w.alloc (.cells #[.int .i64 time, .slice A1 d.length c1, .slice A2 n.length c2] 25)) wz → wz.cell? ⟨w.heap.size, 1, none⟩ = some (.slice A1 d.length c1) ∧ wz.cell? ⟨w.heap.size, 2, none⟩ = some (.slice A2 n.length c2)) := by
    intro wz q
    exact ⟨q.cell (by simp) (fun x => x), q.cell (by simp) (fun x => x)⟩
  by_cases c0 : chkR time d n = 0
  · have E : Hid (soundR time d n = nodesOk (ofL 0 d) n) := by unfold Hid soundR; simp [c0]
    rw [c0] at CH
    have hdl := ofL_lt d 0 (by decide)
    generalize ofL 0 d = dead at *
    clear c0
    go_enter Tryd.func17, Tryd.ntmps17
    go_wp2_with fail
    refine (CH.out _).mono ?_
    rintro e w1 ⟨rfl, hq1⟩
    obtain ⟨x1, x2⟩ := hB.out w1 hq1
    have HQ1 := Lib.hid ((hbx _).quiet hq1)
    clear hq1
    go_wp2_with (go_at_call 57; refine (OF.out _ HQ1.out).mono ?_; rintro e w' ⟨rfl, rfl⟩)
    go_loopw [17] (fun i wr => SdRel w n dead i wr) (fun i _ => n.length - (intOf i).toNat)
    case atStart => exact ⟨0, Nat.zero_le _, rfl, rfl, HQ1.out⟩
    case round =>
      obtain ⟨k, hk, rfl, hx, hQ⟩ := hrel
      obtain ⟨wo, hwo⟩ : ∃ x, x = wr := ⟨_, rfl⟩
      subst hwo
      by_cases hlt : k < n.length
      · have hC' := Kd.C_below HN.out hQ.bel
        obtain ⟨ad, A3, c3, hA, y0, y1, hl3, hC3⟩ := at_T92 hC' k (by omega) (by omega)
        have hdr := drop_cons z92 n k hlt
        have hrd : rd_T92 n (k : Int) = n.getD k z92 := rfl
        rw [hrd] at y0 y1 hl3 hC3
        have hx' : (n.getD k z92).f1.all (wayOk dead) = true → nodesOk dead (n.drop (k + 1)) = nodesOk dead n := fun q => by rw [← hx, hdr]; unfold nodesOk; rw [List.all_cons, q, Bool.true_and]
        have hxf : (n.getD k z92).f1.all (wayOk dead) = false → nodesOk dead n = false := fun q => by rw [← hx, hdr]; unfold nodesOk; rw [List.all_cons, q, Bool.false_and]
        generalize n.getD k z92 = x at *
        obtain ⟨st, ws⟩ := x
        simp only [Int.toNat_natCast] at y0 y1 hl3 hC3 hx' hxf
        subst hA
        have hm3 := hC3.2.1
        have HX := Lib.hid hx'; have HXF := Lib.hid hxf; have HQ := Lib.hid hQ; have H3 := Lib.hid hC3
        clear hx hx' hxf hQ hC' hC3 hdr hrd x1 x2
        go_wp2
        go_loopw [24] (fun i wz => SdRel2 wo ws dead i wz) (fun i _ => ws.length - (intOf i).toNat)
        case atStart => exact ⟨0, Nat.zero_le _, rfl, rfl, by (repeat (first | exact Fr.refl _ _ | assumption | (refine Fr.quiet ?_ (by assumption)) | refine Fr.quiet ?_ HF.out | refine Fr.quiet ?_ HF2.out | refine Fr.drew ?_ | refine Fr.drewN ?_ _ | refine Fr.alloc ?_ _ | refine Fr.setCell ?_ (.inr (by first | omega | (simp; done) | (simp; omega))) _))⟩
        case round =>
          obtain ⟨j, hj, rfl, hy, hQ2⟩ := hrel
          by_cases hlj : j < ws.length
          · have hC4 := Kd.C_below H3.out hQ2.bel
            obtain ⟨ad4, A4, c4, hA4, z0, hl4, hC5⟩ := at_L5 hC4 j (by omega) (by omega)
            have hdr := drop_cons [] ws j hlj
            have hrd : rd_L5 ws (j : Int) = ws.getD j [] := rfl
            rw [hrd] at z0 hl4 hC5
            rw [hdr, List.all_cons] at hy
            simp only [Int.toNat_natCast] at z0
            generalize ws.getD j [] = way at *
            subst hA4
            have LK := Lib.hid (wLacks wr way A4 c4 hC5 hl4 dead hdl)
            have HQ2 := Lib.hid hQ2
            have hwok : wayOk dead way = decide (0 ≤ lacksL dead 0 way) := rfl
            generalize lacksL dead 0 way = r at *
            clear hC4 hC5 hQ2 hdr hrd
            by_cases hr : 0 ≤ r
            · rw [hwok, decide_eq_true hr, Bool.true_and] at hy
              have HY := Lib.hid hy
              have hr' : decide (r < 0) = false := decide_eq_false (by omega)
              clear hy hwok hr
              go_wp2_with (go_at_call 56; refine LK.out.mono ?_; rintro e w' ⟨rfl, hf⟩; have HF := Lib.hid hf; clear hf)
              go_roundw
              case rel => exact ⟨j + 1, by omega, by go_num, HY.out, HQ2.out.quiet HF.out⟩
              case measure => simp [intOf]; omega
            · rw [hwok, decide_eq_false hr, Bool.false_and] at hy
              have HY := Lib.hid (HXF.out hy.symm)
              have hr' : decide (r < 0) = true := decide_eq_true (by omega)
              clear hy hwok hr
              go_wp2_with (go_at_call 56; refine LK.out.mono ?_; rintro e w' ⟨rfl, hf⟩; have HF := Lib.hid hf; clear hf)
              go_ret
              rw [E.out, HY.out]
              exact ⟨rfl, (HQ.out.quiet (by have q := HQ2.out.quiet HF.out; first | exact q | exact (Fr.refl _ _).quiet q))⟩
          · have hy2 : ws.all (wayOk dead) = true := by rw [← hy, List.drop_of_length_le (by omega)]; rfl
            have HY := Lib.hid (HX.out hy2)
            have HQ2 := Lib.hid hQ2
            clear hy hy2 hQ2
            go_wp2
            go_roundw
            case rel => exact ⟨k + 1, by omega, by go_num, HY.out, HQ.out.quiet HQ2.out⟩
            case measure => simp [intOf]; omega
      · have hx2 : nodesOk dead n = true := by rw [← hx, List.drop_of_length_le (by omega)]; rfl
        have HX := Lib.hid hx2
        clear hx hx2
        go_wp2
        go_ret
        rw [E.out, HX.out]
        exact ⟨rfl, hQ⟩
  · have E : Hid (soundR time d n = false) := by unfold Hid soundR; simp [c0]
    have c1' : (chkR time d n != 0) = true := by simpa using c0
    clear c0
    go_enter Tryd.func17, Tryd.ntmps17
    go_wp2_with fail
    refine (CH.out _).mono ?_
    rintro e w1 ⟨rfl, hq1⟩
    have HQ1 := Lib.hid ((hbx _).quiet hq1)
    clear hq1
    go_wp2
    go_ret
    rw [E.out]
    exact ⟨rfl, HQ1.out⟩
end Go.Proofs.YtadepdeckapgcaaDoor
end

section
namespace Go.Proofs.YtadepdeckapgcaaDoor.PWitnessTells
open Go.RowKit Go.Proofs.YtadepdeckapgcaaDoorW.PrintWords Go.Proofs.YtadepdeckapgcaaDoorW.PrintLast Go.Proofs.YtadepdeckapgcaaDoorW.PrintMore
attribute [local go_sem] max2_int min2_int max_two min_two max_three min_three max_four min_four
set_option linter.unusedVariables false
set_option linter.unusedSimpArgs false
theorem eqA108 (d : Nat) (w : World) (x0 y0 : Int) (x1 y1 : Int) :
  (Op.equalIn (d + 2) 108 (.agg #[.int .i64 x0, .int .i64 x1]) (.agg #[.int .i64 y0, .int .i64 y1])).run Tryd.prog w = .ok (x0 == y0 && (x1 == y1)) w := by
 refine eqA_of Tryd.underlying108 (by kernel_rfl) ?_
 refine eqf_cons (by rfl) (by go_simp; rfl) (by go_simp; rfl) (by go_simp) ?_
 exact eqf_last (by rfl) (by go_simp; rfl) (by go_simp; rfl) (by go_simp)
end Go.Proofs.YtadepdeckapgcaaDoor.PWitnessTells
end

section
namespace Go.Proofs.YtadepdeckapgcaaDoor
open Go.RowKit Go.Proofs.YtadepdeckapgcaaDoorW.PrintWords Go.Proofs.YtadepdeckapgcaaDoorW.PrintLast Go.Proofs.YtadepdeckapgcaaDoorW.PrintMore PWitnessTells
set_option linter.unusedSimpArgs false
set_option linter.unusedVariables false
def eqL {α : Type} (p : α → α → Bool) : List α → List α → Bool
  | [], [] => true
  | a :: r, b :: s => p a b && eqL p r s
  | _, _ => false
theorem eqL_cons {α : Type} (p : α → α → Bool) (a b : α) (r s : List α) : eqL p (a :: r) (b :: s) = (p a b && eqL p r s) := rfl
theorem eqL_len {α : Type} (p : α → α → Bool) : ∀ a b : List α, a.length ≠ b.length → eqL p a b = false
  | [], [], h => absurd rfl h
  | a :: r, b :: s, h => by rw [eqL_cons, eqL_len p r s (by simpa using h), Bool.and_false]
  | [], _ :: _, _ => rfl
  | _ :: _, [], _ => rfl
def shE (a b : NShare) : Bool := a.f0 == b.f0 && a.f1 == b.f1
def tmE (a b : NTerm) : Bool := a.f0 == b.f0 && eqL shE a.f1 b.f1
def wyE (a b : List NTerm) : Bool := eqL tmE a b
def ndE (a b : NNode) : Bool := a.f0 == b.f0 && eqL wyE a.f1 b.f1
def EqRel {α : Type} (p : α → α → Bool) (w : World) (a b : List α) (i : Value) (wr : World) : Prop := ∃ k : Nat, k ≤ a.length ∧ i = .int .i64 k ∧ eqL p (a.drop k) (b.drop k) = eqL p a b ∧ Quiet w wr
set_option maxRecDepth 100000 in
theorem wEqualSh (w : World) (A : Option Addr) (c : Nat) (a : List NShare) (hA : Kd.C k108 w A a.length a) (hc : a.length ≤ c) (B : Option Addr) (cb : Nat) (b : List NShare) (hB : Kd.C k108 w B b.length b) (hcb : b.length ≤ cb) :
    Calls Tryd.prog 106 #[.slice A a.length c, .slice B b.length cb] w fun e w' => e = .returned (.bool (eqL shE a b)) ∧ Quiet w w' := by
  have hma := hA.2.1
  have hmb := hB.2.1
  by_cases hl : a.length = b.length
  · have HA := Lib.hid hA; have HB := Lib.hid hB; clear hA hB
    have hl' : ((a.length : Int) != (b.length : Int)) = false := by simp; omega
    have HL := Lib.hid hl
    clear hl
    go_enter Tryd.func106, Tryd.ntmps106
    go_wp2
    go_loopw [13] (fun i wr => EqRel shE w a b i wr) (fun i _ => a.length - (intOf i).toNat)
    case atStart => exact ⟨0, Nat.zero_le _, rfl, rfl, Fr.refl _ _⟩
    case round =>
      obtain ⟨k, hk, rfl, hx, hQ⟩ := hrel
      by_cases hlt : k < a.length
      · have hltb : k < b.length := by rw [← HL.out]; exact hlt
        obtain ⟨ad, eA, x0, x1⟩ := at_T108 (Kd.C_below HA.out hQ.bel) k (by omega) (by omega)
        obtain ⟨bd, eB, y0, y1⟩ := at_T108 (Kd.C_below HB.out hQ.bel) k (by omega) (by omega)
        rw [drop_cons z108 a k hlt, drop_cons z108 b k hltb, eqL_cons] at hx
        have r1 : rd_T108 a (k : Int) = a.getD k z108 := rfl
        have r2 : rd_T108 b (k : Int) = b.getD k z108 := rfl
        rw [r1] at x0 x1; rw [r2] at y0 y1
        generalize a.getD k z108 = s at *
        generalize b.getD k z108 = t at *
        obtain ⟨s0, s1⟩ := s
        obtain ⟨t0, t1⟩ := t
        simp only [Int.toNat_natCast] at x0 x1 y0 y1
        subst eA eB
        have hsE : shE ⟨s0, s1⟩ ⟨t0, t1⟩ = (s0 == t0 && s1 == t1) := rfl
        have HQ := Lib.hid hQ
        rw [hsE] at hx
        clear hQ r1 r2 hsE
        have he : ∀ w, (Op.equalIn 10000 108 (.agg #[.int .i64 s0, .int .i64 s1]) (.agg #[.int .i64 t0, .int .i64 t1])).run Tryd.prog w = .ok (s0 == t0 && s1 == t1) w := fun w => eqA108 9998 w s0 t0 s1 t1
        generalize (s0 == t0 && s1 == t1) = r at *
        have i0 : (0 : Int) ≤ (k : Int) := by omega
        have i1 : (k : Int) < (a.length : Int) := by omega
        have i2 : (k : Int) < (b.length : Int) := by omega
        cases r
        · rw [Bool.false_and] at hx
          have HX := Lib.hid hx
          clear hx
          go_wp2_with fail
          go_quiet (fail)
          go_wp2
          go_ret
          rw [← HX.out]
          exact ⟨rfl, HQ.out.drewN _⟩
        · rw [Bool.true_and] at hx
          have HX := Lib.hid hx
          clear hx
          go_wp2_with fail
          go_quiet (fail)
          go_wp2
          go_roundw
          case rel => exact ⟨k + 1, by omega, by go_num, HX.out, HQ.out.drewN _⟩
          case measure => simp [intOf]; omega
      · have hx2 : eqL shE a b = true := by rw [← hx, List.drop_of_length_le (by omega), List.drop_of_length_le (by have := HL.out; omega)]; rfl
        have HX := Lib.hid hx2
        clear hx hx2
        go_wp2
        go_ret
        rw [HX.out]
        exact ⟨rfl, hQ⟩
  · have E : Hid (eqL shE a b = false) := eqL_len _ _ _ hl
    have hl' : ((a.length : Int) != (b.length : Int)) = true := by simp; omega
    clear hA hB hl
    go_enter Tryd.func106, Tryd.ntmps106
    go_wp2
    go_ret
    rw [E.out]
    exact ⟨rfl, Fr.refl _ _⟩
theorem wSame1 (w : World) (a b : NTerm) (A : Option Addr) (c : Nat) (hA : Kd.C k108 w A a.f1.length a.f1) (hc : a.f1.length ≤ c) (B : Option Addr) (cb : Nat) (hB : Kd.C k108 w B b.f1.length b.f1) (hcb : b.f1.length ≤ cb) :
    Calls Tryd.prog 105 #[.agg #[.int .i64 a.f0, .slice A a.f1.length c], .agg #[.int .i64 b.f0, .slice B b.f1.length cb]] w fun e w' => e = .returned (.bool (tmE a b)) ∧ Quiet w w' := by
  have EQ := Lib.hid (fun wz (q : Quiet w wz) => wEqualSh wz A c a.f1 (Kd.C_below hA q.bel) hc B cb b.f1 (Kd.C_below hB q.bel) hcb)
  have hE : Hid (tmE a b = (a.f0 == b.f0 && eqL shE a.f1 b.f1)) := rfl
  generalize eqL shE a.f1 b.f1 = r at *
  clear hA hB
  cases e0 : (a.f0 == b.f0)
  · have HX : Hid (tmE a b = false) := by unfold Hid; rw [hE.out, e0]; rfl
    go_enter Tryd.func105, Tryd.ntmps105
    go_wp2
    go_ret
    rw [HX.out]
    exact ⟨rfl, by (repeat (first | exact Fr.refl _ _ | assumption | (refine Fr.quiet ?_ (by assumption)) | refine Fr.quiet ?_ HF.out | refine Fr.quiet ?_ HF2.out | refine Fr.drew ?_ | refine Fr.drewN ?_ _ | refine Fr.alloc ?_ _ | refine Fr.setCell ?_ (.inr (by first | omega | (simp; done) | (simp; omega))) _))⟩
  · have HX : Hid (tmE a b = r) := by unfold Hid; rw [hE.out, e0]; rfl
    go_enter Tryd.func105, Tryd.ntmps105
    go_wp2_with (go_at_call 106; refine (EQ.out _ (by (repeat (first | exact Fr.refl _ _ | assumption | (refine Fr.quiet ?_ (by assumption)) | refine Fr.quiet ?_ HF.out | refine Fr.quiet ?_ HF2.out | refine Fr.drew ?_ | refine Fr.drewN ?_ _ | refine Fr.alloc ?_ _ | refine Fr.setCell ?_ (.inr (by first | omega | (simp; done) | (simp; omega))) _)))).mono ?_; rintro e w' ⟨rfl, hf⟩; have HF := Lib.hid hf; clear hf)
    go_ret
    rw [HX.out]
    exact ⟨rfl, by have q := HF.out; (repeat (first | exact Fr.refl _ _ | assumption | (refine Fr.quiet ?_ (by assumption)) | refine Fr.quiet ?_ HF.out | refine Fr.quiet ?_ HF2.out | refine Fr.drew ?_ | refine Fr.drewN ?_ _ | refine Fr.alloc ?_ _ | refine Fr.setCell ?_ (.inr (by first | omega | (simp; done) | (simp; omega))) _))⟩
set_option maxRecDepth 100000 in
theorem wEqF1 (w : World) (A : Option Addr) (c : Nat) (a : List NTerm) (hA : Kd.C k96 w A a.length a) (hc : a.length ≤ c) (B : Option Addr) (cb : Nat) (b : List NTerm) (hB : Kd.C k96 w B b.length b) (hcb : b.length ≤ cb) :
    Calls Tryd.prog 108 #[.slice A a.length c, .slice B b.length cb, .func (.func 105) #[] #[]] w fun e w' => e = .returned (.bool (wyE a b)) ∧ Quiet w w' := by
  have hma := hA.2.1
  have hmb := hB.2.1
  have eg : ∀ args w, (callFunc 105 args).run Tryd.prog w = .ok (.enter 105 args) w := enters_of Tryd.func105 (by kernel_rfl) rfl
  unfold wyE
  by_cases hl : a.length = b.length
  · have HA := Lib.hid hA; have HB := Lib.hid hB; clear hA hB
    have hl' : ((a.length : Int) != (b.length : Int)) = false := by simp; omega
    have HL := Lib.hid hl
    clear hl
    go_enter Tryd.func108, Tryd.ntmps108
    go_wp2
    go_loopw [17] (fun i wr => EqRel tmE w a b i wr) (fun i _ => a.length - (intOf i).toNat)
    case atStart => exact ⟨0, Nat.zero_le _, rfl, rfl, Fr.refl _ _⟩
    case round =>
      obtain ⟨k, hk, rfl, hx, hQ⟩ := hrel
      by_cases hlt : k < a.length
      · have hltb : k < b.length := by rw [← HL.out]; exact hlt
        obtain ⟨ad, A1, c1, eA, x0, x1, l1, g1⟩ := at_T96 (Kd.C_below HA.out hQ.bel) k (by omega) (by omega)
        obtain ⟨bd, B1, d1, eB, y0, y1, l2, g2⟩ := at_T96 (Kd.C_below HB.out hQ.bel) k (by omega) (by omega)
        rw [drop_cons z96 a k hlt, drop_cons z96 b k hltb, eqL_cons] at hx
        have r1 : rd_T96 a (k : Int) = a.getD k z96 := rfl
        have r2 : rd_T96 b (k : Int) = b.getD k z96 := rfl
        rw [r1] at x0 x1 l1 g1; rw [r2] at y0 y1 l2 g2
        generalize a.getD k z96 = s at *
        generalize b.getD k z96 = t at *
        simp only [Int.toNat_natCast] at x0 x1 y0 y1
        subst eA eB
        have S1 := Lib.hid (fun wz (q : Quiet wr wz) => wSame1 wz s t A1 c1 (Kd.C_below g1 q.bel) l1 B1 d1 (Kd.C_below g2 q.bel) l2)
        have HQ := Lib.hid hQ
        generalize tmE s t = r at *
        have ad1 := World.block_lt_of_cell? _ _ x0
        have bd1 := World.block_lt_of_cell? _ _ y0
        clear hQ r1 r2 g1 g2
        cases r
        · rw [Bool.false_and] at hx
          have HX := Lib.hid hx
          clear hx
          go_wp2_with (go_at_call 105; refine (S1.out _ (by (repeat (first | exact Fr.refl _ _ | assumption | (refine Fr.quiet ?_ (by assumption)) | refine Fr.quiet ?_ HF.out | refine Fr.quiet ?_ HF2.out | refine Fr.drew ?_ | refine Fr.drewN ?_ _ | refine Fr.alloc ?_ _ | refine Fr.setCell ?_ (.inr (by first | omega | (simp; done) | (simp; omega))) _)))).mono ?_; rintro e w' ⟨rfl, hf⟩; have HF := Lib.hid hf; clear hf)
          go_ret
          rw [← HX.out]
          exact ⟨rfl, HQ.out.quiet (by have q := HF.out; (repeat (first | exact Fr.refl _ _ | assumption | (refine Fr.quiet ?_ (by assumption)) | refine Fr.quiet ?_ HF.out | refine Fr.quiet ?_ HF2.out | refine Fr.drew ?_ | refine Fr.drewN ?_ _ | refine Fr.alloc ?_ _ | refine Fr.setCell ?_ (.inr (by first | omega | (simp; done) | (simp; omega))) _)))⟩
        · rw [Bool.true_and] at hx
          have HX := Lib.hid hx
          clear hx
          go_wp2_with (go_at_call 105; refine (S1.out _ (by (repeat (first | exact Fr.refl _ _ | assumption | (refine Fr.quiet ?_ (by assumption)) | refine Fr.quiet ?_ HF.out | refine Fr.quiet ?_ HF2.out | refine Fr.drew ?_ | refine Fr.drewN ?_ _ | refine Fr.alloc ?_ _ | refine Fr.setCell ?_ (.inr (by first | omega | (simp; done) | (simp; omega))) _)))).mono ?_; rintro e w' ⟨rfl, hf⟩; have HF := Lib.hid hf; clear hf)
          go_roundw
          case rel => exact ⟨k + 1, by omega, by go_num, HX.out, HQ.out.quiet (by have q := HF.out; (repeat (first | exact Fr.refl _ _ | assumption | (refine Fr.quiet ?_ (by assumption)) | refine Fr.quiet ?_ HF.out | refine Fr.quiet ?_ HF2.out | refine Fr.drew ?_ | refine Fr.drewN ?_ _ | refine Fr.alloc ?_ _ | refine Fr.setCell ?_ (.inr (by first | omega | (simp; done) | (simp; omega))) _)))⟩
          case measure => simp [intOf]; omega
      · have hx2 : eqL tmE a b = true := by rw [← hx, List.drop_of_length_le (by omega), List.drop_of_length_le (by have := HL.out; omega)]; rfl
        have HX := Lib.hid hx2
        clear hx hx2
        go_wp2
        go_ret
        rw [HX.out]
        exact ⟨rfl, hQ⟩
  · have E : Hid (eqL tmE a b = false) := eqL_len _ _ _ hl
    have hl' : ((a.length : Int) != (b.length : Int)) = true := by simp; omega
    clear hA hB hl
    go_enter Tryd.func108, Tryd.ntmps108
    go_wp2
    go_ret
    rw [E.out]
    exact ⟨rfl, Fr.refl _ _⟩
end Go.Proofs.YtadepdeckapgcaaDoor
end

section
namespace Go.Proofs.YtadepdeckapgcaaDoor
open Go.RowKit Go.Proofs.YtadepdeckapgcaaDoorW.PrintWords Go.Proofs.YtadepdeckapgcaaDoorW.PrintLast Go.Proofs.YtadepdeckapgcaaDoorW.PrintMore PWitnessTells
set_option linter.unusedSimpArgs false
set_option linter.unusedVariables false
theorem wSame2 (w : World) (A : Option Addr) (c : Nat) (a : List NTerm) (hA : Kd.C k96 w A a.length a) (hc : a.length ≤ c) (B : Option Addr) (cb : Nat) (b : List NTerm) (hB : Kd.C k96 w B b.length b) (hcb : b.length ≤ cb)
    (g : Nat) (hcell : w.cell? ⟨g, 0, none⟩ = some (.func (.func 105) #[] #[])) :
    Calls Tryd.prog 107 #[.slice A a.length c, .slice B b.length cb, .pointer (some ⟨g, 0, none⟩)] w fun e w' => e = .returned (.bool (wyE a b)) ∧ Quiet w w' := by
  have EQ := Lib.hid (wEqF1 w A c a hA hc B cb b hB hcb)
  clear hA hB
  go_enter Tryd.func107, Tryd.ntmps107
  go_wp2_with (go_at_call 108; refine EQ.out.mono ?_; rintro e w' ⟨rfl, hf⟩; have HF := Lib.hid hf; clear hf)
  go_ret
  exact ⟨rfl, HF.out⟩
set_option maxRecDepth 100000 in
theorem wEqF2 (w : World) (A : Option Addr) (c : Nat) (a : List (List NTerm)) (hA : Kd.C (Kd.slice 96 k96) w A a.length a) (hc : a.length ≤ c) (B : Option Addr) (cb : Nat) (b : List (List NTerm)) (hB : Kd.C (Kd.slice 96 k96) w B b.length b) (hcb : b.length ≤ cb)
    (g : Nat) (hcell : w.cell? ⟨g, 0, none⟩ = some (.func (.func 105) #[] #[])) :
    Calls Tryd.prog 109 #[.slice A a.length c, .slice B b.length cb, .func (.func 107) #[] #[.pointer (some ⟨g, 0, none⟩)]] w fun e w' => e = .returned (.bool (eqL wyE a b)) ∧ Quiet w w' := by
  have hma := hA.2.1
  have hmb := hB.2.1
  have eg : ∀ args w, (callFunc 107 args).run Tryd.prog w = .ok (.enter 107 args) w := enters_of Tryd.func107 (by kernel_rfl) rfl
  by_cases hl : a.length = b.length
  · have HA := Lib.hid hA; have HB := Lib.hid hB; clear hA hB
    have hl' : ((a.length : Int) != (b.length : Int)) = false := by simp; omega
    have HL := Lib.hid hl
    have HCL := Lib.hid hcell
    clear hl hcell
    go_enter Tryd.func109, Tryd.ntmps109
    go_wp2
    go_loopw [17] (fun i wr => EqRel wyE w a b i wr) (fun i _ => a.length - (intOf i).toNat)
    case atStart => exact ⟨0, Nat.zero_le _, rfl, rfl, Fr.refl _ _⟩
    case round =>
      obtain ⟨k, hk, rfl, hx, hQ⟩ := hrel
      by_cases hlt : k < a.length
      · have hltb : k < b.length := by rw [← HL.out]; exact hlt
        obtain ⟨ad, A1, c1, eA, x0, l1, g1⟩ := at_L5 (Kd.C_below HA.out hQ.bel) k (by omega) (by omega)
        obtain ⟨bd, B1, d1, eB, y0, l2, g2⟩ := at_L5 (Kd.C_below HB.out hQ.bel) k (by omega) (by omega)
        rw [drop_cons [] a k hlt, drop_cons [] b k hltb, eqL_cons] at hx
        have r1 : rd_L5 a (k : Int) = a.getD k [] := rfl
        have r2 : rd_L5 b (k : Int) = b.getD k [] := rfl
        rw [r1] at x0 l1 g1; rw [r2] at y0 l2 g2
        generalize a.getD k [] = s at *
        generalize b.getD k [] = t at *
        simp only [Int.toNat_natCast] at x0 y0
        subst eA eB
        have S1 := Lib.hid (wSame2 wr A1 c1 s g1 l1 B1 d1 t g2 l2 g (hQ.cell HCL.out (fun x => x)))
        have HQ := Lib.hid hQ
        generalize wyE s t = r at *
        clear hQ r1 r2 g1 g2
        cases r
        · rw [Bool.false_and] at hx
          have HX := Lib.hid hx
          clear hx
          go_wp2_with (go_at_call 107; refine S1.out.mono ?_; rintro e w' ⟨rfl, hf⟩; have HF := Lib.hid hf; clear hf)
          go_ret
          rw [← HX.out]
          exact ⟨rfl, HQ.out.quiet HF.out⟩
        · rw [Bool.true_and] at hx
          have HX := Lib.hid hx
          clear hx
          go_wp2_with (go_at_call 107; refine S1.out.mono ?_; rintro e w' ⟨rfl, hf⟩; have HF := Lib.hid hf; clear hf)
          go_roundw
          case rel => exact ⟨k + 1, by omega, by go_num, HX.out, HQ.out.quiet HF.out⟩
          case measure => simp [intOf]; omega
      · have hx2 : eqL wyE a b = true := by rw [← hx, List.drop_of_length_le (by omega), List.drop_of_length_le (by have := HL.out; omega)]; rfl
        have HX := Lib.hid hx2
        clear hx hx2
        go_wp2
        go_ret
        rw [HX.out]
        exact ⟨rfl, hQ⟩
  · have E : Hid (eqL wyE a b = false) := eqL_len _ _ _ hl
    have hl' : ((a.length : Int) != (b.length : Int)) = true := by simp; omega
    clear hA hB hl
    go_enter Tryd.func109, Tryd.ntmps109
    go_wp2
    go_ret
    rw [E.out]
    exact ⟨rfl, Fr.refl _ _⟩
theorem wSame (w : World) (a b : NNode) (A : Option Addr) (c : Nat) (hA : Kd.C (Kd.slice 96 k96) w A a.f1.length a.f1) (hc : a.f1.length ≤ c) (B : Option Addr) (cb : Nat) (hB : Kd.C (Kd.slice 96 k96) w B b.f1.length b.f1) (hcb : b.f1.length ≤ cb) :
    Calls Tryd.prog 60 #[.agg #[.bool a.f0, .slice A a.f1.length c], .agg #[.bool b.f0, .slice B b.f1.length cb]] w fun e w' => e = .returned (.bool (ndE a b)) ∧ Quiet w w' := by
  have EQ := Lib.hid (fun wz (q : Quiet w wz) g hg => wEqF2 wz A c a.f1 (Kd.C_below hA q.bel) hc B cb b.f1 (Kd.C_below hB q.bel) hcb g hg)
  have hE : Hid (ndE a b = (a.f0 == b.f0 && eqL wyE a.f1 b.f1)) := rfl
  generalize eqL wyE a.f1 b.f1 = r at *
  clear hA hB
  cases e0 : (a.f0 == b.f0)
  · have HX : Hid (ndE a b = false) := by unfold Hid; rw [hE.out, e0]; rfl
    go_enter Tryd.func60, Tryd.ntmps60
    go_wp2
    go_ret
    rw [HX.out]
    exact ⟨rfl, by (repeat (first | exact Fr.refl _ _ | assumption | (refine Fr.quiet ?_ (by assumption)) | refine Fr.quiet ?_ HF.out | refine Fr.quiet ?_ HF2.out | refine Fr.drew ?_ | refine Fr.drewN ?_ _ | refine Fr.alloc ?_ _ | refine Fr.setCell ?_ (.inr (by first | omega | (simp; done) | (simp; omega))) _))⟩
  · have HX : Hid (ndE a b = r) := by unfold Hid; rw [hE.out, e0]; rfl
    go_enter Tryd.func60, Tryd.ntmps60
    go_wp2_with (go_at_call 109; refine (EQ.out _ (by (repeat (first | exact Fr.refl _ _ | assumption | (refine Fr.quiet ?_ (by assumption)) | refine Fr.quiet ?_ HF.out | refine Fr.quiet ?_ HF2.out | refine Fr.drew ?_ | refine Fr.drewN ?_ _ | refine Fr.alloc ?_ _ | refine Fr.setCell ?_ (.inr (by first | omega | (simp; done) | (simp; omega))) _))) _ (by go_simp)).mono ?_; rintro e w' ⟨rfl, hf⟩; have HF := Lib.hid hf; clear hf)
    go_ret
    rw [HX.out]
    exact ⟨rfl, by have q := HF.out; (repeat (first | exact Fr.refl _ _ | assumption | (refine Fr.quiet ?_ (by assumption)) | refine Fr.quiet ?_ HF.out | refine Fr.quiet ?_ HF2.out | refine Fr.drew ?_ | refine Fr.drewN ?_ _ | refine Fr.alloc ?_ _ | refine Fr.setCell ?_ (.inr (by first | omega | (simp; done) | (simp; omega))) _))⟩
def matchL (l : List NNode) : List Int → List NNode → Bool
  | t :: r, x :: s => decide (t < l.length) && ndE x (l.getD t.toNat z92) && matchL l r s
  | _, _ => true
theorem matchL_cons (l : List NNode) (t : Int) (r : List Int) (x : NNode) (s : List NNode) : matchL l (t :: r) (x :: s) = (decide (t < l.length) && ndE x (l.getD t.toNat z92) && matchL l r s) := rfl
def matchR (time : Int) (d : List Int) (n l : List NNode) : Bool := decide (chkR time d n = 0) && matchL l d n
theorem Quiet.cellA {w w' : World} (h : Quiet w w') {a : Addr} {v : Value} (hc : w.cell? a = some v) : w'.cell? a = some v := pw_cell_below h.bel hc
theorem deadC_range : ∀ (l : List Int) (last : Int), -1 ≤ last → deadC last l = true → ∀ t ∈ l, 0 ≤ t ∧ t ≤ 63
  | [], _, _, _, t, ht => by cases ht
  | a :: r, last, hl, h, t, ht => by
    rw [deadC_cons] at h
    by_cases q : a ≤ last ∨ 64 ≤ a
    · rw [if_pos q] at h; cases h
    · rw [if_neg q] at h
      rcases List.mem_cons.1 ht with rfl | ht
      · omega
      · exact deadC_range r a (by omega) h t ht
theorem chkR_zero (time : Int) (d : List Int) (n : List NNode) (h : chkR time d n = 0) : d.length = n.length ∧ deadC (-1) d = true ∧ nodesC n = 0 := by
  unfold chkR at h
  split at h
  · simp at h
  · split at h
    · simp at h
    · rename_i h2
      split at h
      · exact ⟨by simpa using h2, by assumption, h⟩
      · simp at h
def MtRel (w : World) (l : List NNode) (d : List Int) (n : List NNode) (i : Value) (wr : World) : Prop := ∃ k : Nat, k ≤ d.length ∧ i = .int .i64 k ∧ matchL l (d.drop k) (n.drop k) = matchL l d n ∧ Quiet w wr
set_option maxRecDepth 100000 in
set_option maxHeartbeats 2000000 in
theorem wMatch (w : World) (time : Int) (A1 : Option Addr) (c1 : Nat) (d : List Int) (A2 : Option Addr) (c2 : Nat) (n : List NNode) (h1 : Kd.C (Kd.int .i64) w A1 d.length d) (h2 : d.length ≤ c1) (h3 : Kd.C k92 w A2 n.length n) (h4 : n.length ≤ c2)
    (A3 : Option Addr) (c3 : Nat) (l : List NNode) (h5 : Kd.C k92 w A3 l.length l) (h6 : l.length ≤ c3) :
    Calls Tryd.prog 19 #[.agg #[.int .i64 time, .slice A1 d.length c1, .slice A2 n.length c2], .slice A3 l.length c3] w fun e w' => e = .returned (.bool (matchR time d n l)) ∧ Quiet w w' := by
  have hm1 := h1.2.1
  have hm3 := h3.2.1
  have hm5 := h5.2.1
  have hbx : ∀ o, Quiet w (w.alloc o) := fun o => by (repeat (first | exact Fr.refl _ _ | assumption | (refine Fr.quiet ?_ (by assumption)) | refine Fr.quiet ?_ HF.out | refine Fr.quiet ?_ HF2.out | refine Fr.drew ?_ | refine Fr.drewN ?_ _ | refine Fr.alloc ?_ _ | refine Fr.setCell ?_ (.inr (by first | omega | (simp; done) | (simp; omega))) _))
  have CH := Lib.hid (fun o => wChk (w.alloc o) time A1 c1 d A2 c2 n (Kd.C_below h1 (hbx o).bel) h2 (Kd.C_below h3 (hbx o).bel) h4)
  have HD := Lib.hid h1; have HN := Lib.hid h3; have HL := Lib.hid h5
  clear h1 h3 h5
  have hB : Hid (∀ wz, Quiet (w.alloc (.cells #[.int .i64 time, .slice A1 d.length c1, .slice A2 n.length c2] 25)) wz → wz.cell? ⟨w.heap.size, 1, none⟩ = some (.slice A1 d.length c1) ∧ wz.cell? ⟨w.heap.size, 2, none⟩ = some (.slice A2 n.length c2)) := by
    intro wz q
    exact ⟨q.cell (by simp) (fun x => x), q.cell (by simp) (fun x => x)⟩
  by_cases c0 : chkR time d n = 0
  · have E : Hid (matchR time d n l = matchL l d n) := by unfold Hid matchR; simp [c0]
    obtain ⟨hlen, hdc, _⟩ := chkR_zero _ _ _ c0
    have HR := Lib.hid (deadC_range d (-1) (by omega) hdc)
    have HLn := Lib.hid hlen
    rw [c0] at CH
    clear c0 hlen hdc
    go_enter Tryd.func19, Tryd.ntmps19
    go_wp2_with fail
    refine (CH.out _).mono ?_
    rintro e w1 ⟨rfl, hq1⟩
    obtain ⟨x1, x2⟩ := hB.out w1 hq1
    have HQ1 := Lib.hid ((hbx _).quiet hq1)
    have HQ0 := Lib.hid hq1
    clear hq1
    go_wp2_with fail
    go_loopw [13] (fun i wr => MtRel w1 l d n i wr) (fun i _ => d.length - (intOf i).toNat)
    case atStart => exact ⟨0, Nat.zero_le _, rfl, rfl, Fr.refl _ _⟩
    case round =>
      obtain ⟨k, hk, rfl, hx, hQ⟩ := hrel
      by_cases hlt : k < d.length
      · have hltn : k < n.length := by rw [← HLn.out]; exact hlt
        have hQw : Quiet w wr := HQ1.out.quiet hQ
        obtain ⟨ad, eA, x0⟩ := at_ints (Kd.C_below HD.out hQw.bel) k hlt
        obtain ⟨bd, B1, d1, eB, y0, y1, l2, g2⟩ := at_T92 (Kd.C_below HN.out hQw.bel) k (by omega) (by omega)
        rw [drop_cons 0 d k hlt, drop_cons z92 n k hltn, matchL_cons] at hx
        have r2 : rd_T92 n (k : Int) = n.getD k z92 := rfl
        rw [r2] at y0 y1 l2 g2
        have hr := HR.out _ (getD_mem 0 d k hlt)
        generalize d.getD k 0 = t at *
        generalize n.getD k z92 = x at *
        simp only [Int.toNat_natCast] at y0 y1
        subst eA
        have x2' := hQ.cell x2 (fun x => x)
        have hk0 : (0 : Int) ≤ (k : Int) := by omega
        have hk1 : (k : Int) < (n.length : Int) := by omega
        have HQ := Lib.hid hQ
        have HQw := Lib.hid hQw
        clear hQ hQw r2 x1 x2
        by_cases ht : t < (l.length : Int)
        · obtain ⟨ld, L1, e1, eL, z0, z1, l3, g3⟩ := at_T92 (Kd.C_below HL.out HQw.out.bel) t hr.1 ht
          have r3 : rd_T92 l t = l.getD t.toNat z92 := rfl
          rw [r3] at z0 z1 l3 g3
          rw [decide_eq_true ht, Bool.true_and] at hx
          generalize l.getD t.toNat z92 = y at *
          subst eB eL
          have SM := Lib.hid (fun wz (q : Quiet wr wz) => wSame wz x y B1 d1 (Kd.C_below g2 q.bel) l2 L1 e1 (Kd.C_below g3 q.bel) l3)
          have ht' : decide ((l.length : Int) ≤ t) = false := decide_eq_false (by omega)
          have ht0 := hr.1
          clear r3 g2 g3 l2 l3
          generalize ndE x y = r at *
          have HX := Lib.hid hx
          have HS : Hid (∀ w', Quiet wr w' → w'.cell? ⟨w.heap.size, 2, none⟩ = some (.slice (some bd) n.length c2) ∧ w'.cell? (bd.add (k * 2)) = some (.bool x.f0) ∧ w'.cell? ⟨(bd.add (k * 2)).block, (bd.add (k * 2)).off + 1, none⟩ = some (.slice B1 x.f1.length d1) ∧ w'.cell? (ld.add (t.toNat * 2)) = some (.bool y.f0) ∧ w'.cell? ⟨(ld.add (t.toNat * 2)).block, (ld.add (t.toNat * 2)).off + 1, none⟩ = some (.slice L1 y.f1.length e1) ∧ Quiet wr w') :=
            fun w' q => ⟨q.cellA x2', q.cellA y0, q.cellA y1, q.cellA z0, q.cellA z1, q⟩
          clear hx x2' y0 y1 z0 z1
          go_wp2_with fail
          go_cut [34] (fun s wx => s = .bool (!r) ∧ Quiet wr wx)
          case first =>
            go_region_held3 (fun w' => w'.cell? ⟨w.heap.size, 2, none⟩ = some (.slice (some bd) n.length c2) ∧ w'.cell? (bd.add (k * 2)) = some (.bool x.f0) ∧ w'.cell? ⟨(bd.add (k * 2)).block, (bd.add (k * 2)).off + 1, none⟩ = some (.slice B1 x.f1.length d1) ∧ w'.cell? (ld.add (t.toNat * 2)) = some (.bool y.f0) ∧ w'.cell? ⟨(ld.add (t.toNat * 2)).block, (ld.add (t.toNat * 2)).off + 1, none⟩ = some (.slice L1 y.f1.length e1) ∧ Quiet wr w')
              (exact HS.out _ (by first | assumption | exact Fr.refl _ _ | exact (Fr.refl _ _).drew))
              (first | (go_at_call 60; refine (SM.out _ (by first | assumption | exact Fr.refl _ _ | exact (Fr.refl _ _).drew)).mono ?_; rintro e w' ⟨rfl, hf⟩; replace hf := hf.undrew))
            go_wp2_with fail
            go_meet
            exact ⟨rfl, hf⟩
          case rest =>
            obtain ⟨rfl, hf⟩ := hcut
            have HF := Lib.hid hf
            clear hf
            cases r
            · have HX2 : Hid (matchL l d n = false) := Lib.hid (by have := HX.out; simpa using this.symm)
              go_wp2
              go_ret
              rw [E.out, HX2.out]
              exact ⟨rfl, HQw.out.quiet HF.out⟩
            · have HX2 : Hid (matchL l (d.drop (k + 1)) (n.drop (k + 1)) = matchL l d n) := Lib.hid (by have := HX.out; simpa using this)
              go_wp2
              go_roundw
              case rel => exact ⟨k + 1, by omega, by go_num, HX2.out, HQ.out.quiet HF.out⟩
              case measure => simp [intOf]; omega
        · have HX2 : Hid (matchL l d n = false) := Lib.hid (by rw [decide_eq_false ht] at hx; simpa using hx.symm)
          have ht' : decide ((l.length : Int) ≤ t) = true := decide_eq_true (by omega)
          clear hx g2
          go_wp2_with fail
          go_quiet (fail)
          go_wp2
          go_ret
          rw [E.out, HX2.out]
          exact ⟨rfl, HQw.out.drewN _⟩
      · have hx2 : matchL l d n = true := by rw [← hx, List.drop_of_length_le (by omega), List.drop_of_length_le (by have := HLn.out; omega)]; rfl
        have HX := Lib.hid hx2
        clear hx hx2
        go_wp2
        go_ret
        rw [E.out, HX.out]
        exact ⟨rfl, HQ1.out.quiet hQ⟩
  · have E : Hid (matchR time d n l = false) := by unfold Hid matchR; simp [c0]
    have c1' : (chkR time d n != 0) = true := by simpa using c0
    clear c0
    go_enter Tryd.func19, Tryd.ntmps19
    go_wp2_with fail
    refine (CH.out _).mono ?_
    rintro e w1 ⟨rfl, hq1⟩
    have HQ1 := Lib.hid ((hbx _).quiet hq1)
    clear hq1
    go_wp2
    go_ret
    rw [E.out]
    exact ⟨rfl, HQ1.out⟩
end Go.Proofs.YtadepdeckapgcaaDoor
end

section
namespace Go.Proofs.YtadepdeckapgcaaDoor
open Go.RowKit Go.Proofs.YtadepdeckapgcaaDoorW.PrintWords Go.Proofs.YtadepdeckapgcaaDoorW.PrintLast Go.Proofs.YtadepdeckapgcaaDoorW.PrintMore PWitnessTells
set_option linter.unusedSimpArgs false
set_option linter.unusedVariables false
abbrev Any_ : Nat → Prop := fun _ => True
theorem M_off {α : Type} {d : Kd α} {w : World} {base : Nat} {p : α} {cs : List Value} (h : d.M w base Any_ p cs) {b e size n : Nat} {v : Value} {xs : List Value} (ho : w.ownsRow b e size v n xs) (ht : ∀ q, q ∈ d.E → q ≠ e) : d.M w base (fun k => Any_ k ∧ some k ≠ v.ownBlock) p cs := by
  cases hv : v.ownBlock with
  | none => exact d.M_mono (fun k _ => ⟨trivial, by simp⟩) h
  | some g =>
    obtain ⟨cells, hc⟩ := own_typed ho g hv
    exact d.M_mono (fun k hk => ⟨trivial, fun q => hk.2 (Option.some.inj q)⟩) (Kd.M_types h hc ht)
section
variable {P : Program} {ops : Array Oper} {rest : List Oper} {o : Oper} {a : Act} {Q : Exit → Act → World → Prop} {Kc : Act → World → Prop} {α : Type}
theorem rApp (d : Kd α) {w0 W : World} (base : Nat) (hgd : o.guard = none) (s x : Operand) (t e : TypeId) (z : Value) (bytes : Nat)
    (ho : o.op = .call { callee := .builtin .append, args := #[s, x], argTypes := #[t, t] })
    (ht : P.underlying t = some (.slice e)) (hinfo : (P.info? e).map (fun i => (i.zero, i.size, i.bytes)) = some (some z, d.sz, bytes)) (hz : z.cells.size = d.sz) (hs0 : 0 < d.sz) (hb0 : 0 < bytes)
    (v : Value) (xs : List α) (p : α) (cs : List Value) (hs : a.eval s = v) (hx : a.eval x = .slice (some ⟨W.heap.size, 0, none⟩) 1 1) (hp : d.M W base Any_ p cs) (hE : ∀ q, q ∈ d.E → q ≠ e)
    (HO : d.R e W base Any_ v xs) (HB : Below base w0 W) (hbase : base ≤ W.heap.size) (hl : (xs.length + 1) * bytes ≤ 140737488355328)
    (h : ∀ v1 w1, d.R e w1 base Any_ v1 (xs ++ [p]) → Below base w0 w1 → W.grownBy w1 v.ownBlock → (v1.ownBlock = v.ownBlock ∨ ∃ b, v1.ownBlock = some b ∧ W.heap.size ≤ b) → wpList P ops Q rest (a.put o.dst v1) w1) :
    wpList P ops Q (o :: rest) a (W.alloc (.cells cs.toArray e)) := by
  obtain ⟨inner, hown⟩ := Kd.R_own HO
  exact Kd.R_append d base hgd s x t e z bytes ho ht hinfo hz hs0 hb0 v xs p cs Any_ _ hs hx (M_off hp hown hE) (fun _ h => h) (fun _ _ => trivial) HO HB hbase hl h
theorem rAppStep (d : Kd α) {w0 W : World} (base : Nat) (hw : Region.wanted o (yielded ops a.tmps) = true) (s x : Operand) (t e : TypeId) (z : Value) (bytes : Nat)
    (ho : o.op = .call { callee := .builtin .append, args := #[s, x], argTypes := #[t, t] })
    (ht : P.underlying t = some (.slice e)) (hinfo : (P.info? e).map (fun i => (i.zero, i.size, i.bytes)) = some (some z, d.sz, bytes)) (hz : z.cells.size = d.sz) (hs0 : 0 < d.sz) (hb0 : 0 < bytes)
    (v : Value) (xs : List α) (p : α) (cs : List Value) (hs : a.eval s = v) (hx : a.eval x = .slice (some ⟨W.heap.size, 0, none⟩) 1 1) (hp : d.M W base Any_ p cs) (hE : ∀ q, q ∈ d.E → q ≠ e)
    (HO : d.R e W base Any_ v xs) (HB : Below base w0 W) (hbase : base ≤ W.heap.size) (hl : (xs.length + 1) * bytes ≤ 140737488355328)
    (h : ∀ v1 w1, d.R e w1 base Any_ v1 (xs ++ [p]) → Below base w0 w1 → W.grownBy w1 v.ownBlock → (v1.ownBlock = v.ownBlock ∨ ∃ b, v1.ownBlock = some b ∧ W.heap.size ≤ b) → Kc (a.put o.dst v1) w1) :
    if Region.wanted o (yielded ops a.tmps) = true then Oper.wp P o a (W.alloc (.cells cs.toArray e)) Kc Q else Kc (a.put o.dst undef) (W.alloc (.cells cs.toArray e)) := by
  obtain ⟨inner, hown⟩ := Kd.R_own HO
  exact Kd.R_append_step d base hw s x t e z bytes ho ht hinfo hz hs0 hb0 v xs p cs Any_ _ hs hx (M_off hp hown hE) (fun _ h => h) (fun _ _ => trivial) HO HB hbase hl h
end
theorem infoShare : (Tryd.prog.info? 108).map (fun i => (i.zero, i.size, i.bytes)) = some (some (.agg #[(.int .i64 0), (.int .i64 0)]), 2, 16) := by kernel_rfl
theorem infoTerm : (Tryd.prog.info? 96).map (fun i => (i.zero, i.size, i.bytes)) = some (some (.agg #[(.int .i64 0), (.slice none 0 0)]), 2, 32) := by kernel_rfl
theorem infoWay : (Tryd.prog.info? 93).map (fun i => (i.zero, i.size, i.bytes)) = some (some (.slice none 0 0), 1, 24) := by kernel_rfl
theorem infoNode : (Tryd.prog.info? 92).map (fun i => (i.zero, i.size, i.bytes)) = some (some (.agg #[(.bool false), (.slice none 0 0)]), 2, 32) := by kernel_rfl
theorem wCloneSh (w : World) (A : Option Addr) (c : Nat) (l : List NShare) (hC : Kd.C k108 w A l.length l) (hc : l.length ≤ c) (hl : l.length ≤ 1000000) :
    Calls Tryd.prog 113 #[.slice A l.length c] w fun e w' => ∃ v, e = .returned v ∧ k108.R 108 w' w.heap.size Any_ v l ∧ Below w.heap.size w w' := by
  have hn : ∀ wz, (binOp .eql 94 (.slice A l.length c) (.slice none 0 0)).run Tryd.prog wz = .ok (.bool A.isNone) wz := fun wz => Lib.run_eql_slice_nil wz 94 108 A l.length c 0 0 Tryd.underlying94
  cases A with
  | none =>
    have hl0 : l = [] := by
      by_cases q : 0 < l.length
      · obtain ⟨ad, e, _⟩ := hC.2.2 q; cases e
      · exact List.length_eq_zero_iff.1 (by omega)
    subst hl0
    have hn' : ∀ wz, (binOp .eql 94 (.slice none 0 c) (.slice none 0 0)).run Tryd.prog wz = .ok (.bool true) wz := hn
    clear hC hn hc hl
    show Calls _ _ #[.slice none 0 c] _ _
    go_enter Tryd.func113, Tryd.ntmps113
    go_wp2
    go_ret
    exact ⟨_, rfl, Kd.R_nil _ _ _ _ _, Below.refl _ _⟩
  | some ad =>
    have HC := Lib.hid (Kd.C_below hC (Quiet.bel (show Quiet w (w.alloc (.cells #[] 108)) by (repeat (first | exact Fr.refl _ _ | assumption | (refine Fr.quiet ?_ (by assumption)) | refine Fr.quiet ?_ HF.out | refine Fr.quiet ?_ HF2.out | refine Fr.drew ?_ | refine Fr.drewN ?_ _ | refine Fr.alloc ?_ _ | refine Fr.setCell ?_ (.inr (by first | omega | (simp; done) | (simp; omega))) _)))))
    have HR : Hid (k108.R 108 (w.alloc (.cells #[] 108)) w.heap.size Any_ (.slice (some ⟨w.heap.size, 0, none⟩) 0 0) []) :=
      ⟨fun _ _ => trivial, [], World.ownsRow_lit (base := w.heap.size) (e := 108) (size := 2) w #[] 0 (Nat.le_refl _) (by simp) (by simp), Reps.none _ _⟩
    have HB : Hid (Below w.heap.size w (w.alloc (.cells #[] 108))) := (Below.refl _ _).alloc (Nat.le_refl _) _
    have hn' : ∀ wz, (binOp .eql 94 (.slice (some ad) l.length c) (.slice none 0 0)).run Tryd.prog wz = .ok (.bool false) wz := hn
    clear hC hn
    go_enter Tryd.func113, Tryd.ntmps113
    go_wp2_with (at_builtin; refine Kd.R_append_rows k108 (Rr := k108.K (w.alloc (.cells #[] 108))) (w0 := w) w.heap.size rfl _ _ 94 108 _ 16 rfl Tryd.underlying94 infoShare rfl (by decide) (by decide) _ [] l (some ad) l.length c Any_ (fun _ => False) rfl rfl HR.out HC.out (fun x cs hk => by have := k108_open hk; rw [this]; exact k108_mkM _ _ _ x) (fun _ q => q.elim) (fun _ _ => trivial) HB.out HB.out.size (by simp; omega) ?_; intro v1 w1 ho hb hg hat; have HO1 := Lib.hid ho; have HB1 := Lib.hid hb; clear ho hb hg hat)
    go_ret
    exact ⟨_, rfl, HO1.out, HB1.out⟩
end Go.Proofs.YtadepdeckapgcaaDoor
end

section
namespace Go.Proofs.YtadepdeckapgcaaDoor
open Go.RowKit Go.Proofs.YtadepdeckapgcaaDoorW.PrintWords Go.Proofs.YtadepdeckapgcaaDoorW.PrintLast Go.Proofs.YtadepdeckapgcaaDoorW.PrintMore PWitnessTells
set_option linter.unusedSimpArgs false
set_option linter.unusedVariables false
def Sw (w : List NTerm) : Prop := w.length ≤ 1000000 ∧ ∀ m ∈ w, m.f1.length ≤ 1000000
def Sws (ws : List (List NTerm)) : Prop := ws.length ≤ 1000000 ∧ ∀ w ∈ ws, Sw w
def Sns (n : List NNode) : Prop := n.length ≤ 1000000 ∧ ∀ x ∈ n, Sws x.f1
abbrev kWay : Kd (List NTerm) := Kd.slice 96 k96
theorem take_snoc' {α : Type} (d : α) (l : List α) (k : Nat) (h : k < l.length) : l.take (k + 1) = l.take k ++ [l.getD k d] := by
  rw [List.take_succ_eq_append_getElem h]; simp [h]
structure ClOut (w : World) (Y R : Nat) (st : Bool) (v : Value) (ws : List (List NTerm)) (v6 : Value) (wr : World) : Prop where
  y : Blk wr Y #[.bool st, v] 92
  r : Blk wr R #[.bool false, .slice none 0 0] 92
  o : kWay.R 93 wr w.heap.size (fun k => Any_ k ∧ some k ≠ v6.ownBlock) v ws
  b : Below w.heap.size w wr
theorem ClOut.quiet {w : World} {Y R : Nat} {st : Bool} {v v6 : Value} {ws : List (List NTerm)} {wr wz : World} (h : ClOut w Y R st v ws v6 wr) (q : Quiet wr wz) : ClOut w Y R st v ws v6 wz :=
  ⟨q.blk h.y (fun x => x), q.blk h.r (fun x => x), Kd.R_below h.o q.bel, below_then h.b h.b.size q.bel⟩
theorem grown_blk {w w1 : World} {row : Option Nat} (hg : w.grownBy w1 row) {b : Nat} {cs : Array Value} {t : TypeId} (h : Blk w b cs t) (hne : some b ≠ row) : Blk w1 b cs t := (hg.block b h.lt (fun e => hne e)).trans h
theorem own_not_blk {w : World} {b : Nat} {cs : Array Value} {t e : TypeId} {base size n : Nat} {v : Value} {xs : List Value} (h : Blk w b cs t) (ho : w.ownsRow base e size v n xs) (hne : t ≠ e) : some b ≠ v.ownBlock := fun q => by
  obtain ⟨cells, hc⟩ := own_typed ho b q.symm
  rw [Blk] at h; rw [h] at hc
  injection hc with hc; injection hc with _ hc
  exact hne hc
theorem ClOut.grown {w : World} {Y R : Nat} {st : Bool} {v v6 v7 : Value} {ws : List (List NTerm)} {wr wz : World} (h : ClOut w Y R st v ws v6 wr) {size n : Nat} {xs : List Value} (ho : wr.ownsRow w.heap.size 96 size v6 n xs)
    (hg : wr.grownBy wz v6.ownBlock) (hat : v7.ownBlock = v6.ownBlock ∨ ∃ b, v7.ownBlock = some b ∧ wr.heap.size ≤ b) : ClOut w Y R st v ws v7 wz :=
  ⟨grown_blk hg h.y (own_not_blk h.y ho (by decide)), grown_blk hg h.r (own_not_blk h.r ho (by decide)), Kd.R_after h.o hg hat, h.b.grown hg h.b.size (fun k hk => own_base ho k hk)⟩
def ClIn (w : World) (Y R : Nat) (st : Bool) (v : Value) (ws : List (List NTerm)) (way : List NTerm) (v6 i : Value) (wr : World) : Prop :=
  ∃ j : Nat, j ≤ way.length ∧ i = .int .i64 j ∧ k96.R 96 wr w.heap.size Any_ v6 (way.take j) ∧ ClOut w Y R st v ws v6 wr
def ClRel (w : World) (Y R : Nat) (st : Bool) (ws : List (List NTerm)) (i : Value) (wr : World) : Prop :=
  ∃ (k : Nat) (v : Value), k ≤ ws.length ∧ i = .int .i64 k ∧ ClOut w Y R st v (ws.take k) (.slice none 0 0) wr
set_option maxRecDepth 100000 in
set_option maxHeartbeats 4000000 in
theorem wClone (w : World) (x : NNode) (A : Option Addr) (c : Nat) (hC : kWay.C w A x.f1.length x.f1) (hc : x.f1.length ≤ c) (hS : Sws x.f1) :
    Calls Tryd.prog 68 #[.agg #[.bool x.f0, .slice A x.f1.length c]] w fun e w' => ∃ v, e = .returned (.agg #[.bool x.f0, v]) ∧ kWay.R 93 w' w.heap.size Any_ v x.f1 ∧ Below w.heap.size w w' := by
  obtain ⟨st, ws⟩ := x
  simp only at *
  have hm := hC.2.1
  have HC := Lib.hid hC; have HS := Lib.hid hS
  have hs1 := hS.1
  clear hC hS
  go_enter Tryd.func68, Tryd.ntmps68
  go_wp2
  generalize hY : w.heap.size + 1 + 1 = Y at *
  generalize hR : w.heap.size + 1 = R at *
  go_loopw [15] (fun i wr => ClRel w Y R st ws i wr) (fun i _ => ws.length - (intOf i).toNat)
  case atStart =>
    refine ⟨0, .slice none 0 0, Nat.zero_le _, rfl, ⟨?_, ?_, Kd.R_nil _ _ _ _ _, ?_⟩⟩
    · have e : Y = ((w.alloc (.cells #[.bool st, .slice A ws.length c] 92)).alloc (.cells #[.bool false, .slice none 0 0] 92)).heap.size := by simp; omega
      rw [e]; exact Blk.new _ _ _
    · have e : R = (w.alloc (.cells #[.bool st, .slice A ws.length c] 92)).heap.size := by simp; omega
      rw [e]; exact (Blk.new _ _ _).alloc _
    · exact (((Below.refl _ _).alloc (Nat.le_refl _) _).alloc (by simp) _).alloc (by simp <;> omega) _
  case round =>
    obtain ⟨k, v, hk, rfl, hO⟩ := hrel
    obtain ⟨wo, hwo⟩ : ∃ x, x = wr := ⟨_, rfl⟩
    subst hwo
    obtain ⟨dn, hdn⟩ : ∃ d, d = ws.take k := ⟨_, rfl⟩
    rw [← hdn] at hO
    have hdl : dn.length = k := by rw [hdn, List.length_take]; omega
    subst hdl
    obtain ⟨Av, cv, rfl⟩ := Kd.R_slice hO.o
    by_cases hlt : dn.length < ws.length
    · obtain ⟨ad, A1, c1, hA, z0, hl1, hC1⟩ := at_L5 HC.out dn.length (by omega) (by omega)
      have htk := take_snoc' [] ws dn.length hlt
      have hrd : rd_L5 ws (dn.length : Int) = ws.getD dn.length [] := rfl
      have hSw := HS.out.2 _ (getD_mem [] ws dn.length hlt)
      rw [hrd] at z0 hl1 hC1
      rw [← hdn] at htk
      generalize ws.getD dn.length [] = way at *
      simp only [Int.toNat_natCast] at z0
      replace z0 := (hO.b.cell (World.block_lt_of_cell? w _ z0)).trans z0
      subst hA
      have hm1 := hC1.2.1
      have hw1 := hSw.1
      have HDN := Lib.hid hdn
      have HTk := Lib.hid htk; have HSw := Lib.hid hSw; have HO := Lib.hid hO; have HC1 := Lib.hid hC1
      clear htk hSw hO hC1 hrd hdn
      go_wp2
      go_loopw [6, 21] (fun v6 i wr => ClIn w Y R st (.slice Av dn.length cv) dn way v6 i wr) (fun _ i _ => way.length - (intOf i).toNat)
      case atStart => exact ⟨0, Nat.zero_le _, rfl, Kd.R_nil _ _ _ _ _, HO.out⟩
      case round =>
        obtain ⟨j, hj, rfl, hRw, hOi⟩ := hrel
        obtain ⟨ed, hed⟩ : ∃ d, d = way.take j := ⟨_, rfl⟩
        rw [← hed] at hRw
        have hel : ed.length = j := by rw [hed, List.length_take]; omega
        subst hel
        obtain ⟨A6, c6, rfl⟩ := Kd.R_slice hRw
        by_cases hlj : ed.length < way.length
        · obtain ⟨ae, A5, c5, hA5, u0, u1, hl5, hC6⟩ := at_T96 (Kd.C_below HC1.out hOi.b) ed.length (by omega) (by omega)
          have hrd2 : rd_T96 way (ed.length : Int) = way.getD ed.length ⟨0, []⟩ := rfl
          have htk2 := take_snoc' ⟨0, []⟩ way ed.length hlj
          have hSm := HSw.out.2 _ (getD_mem ⟨0, []⟩ way ed.length hlj)
          rw [hrd2] at u0 u1 hl5 hC6
          rw [← hed] at htk2
          generalize way.getD ed.length ⟨0, []⟩ = m at *
          simp only [Int.toNat_natCast] at u0 u1
          subst hA5
          have hm5 := hC6.2.1
          have HSm := Lib.hid hSm; clear hSm; have HTk2 := Lib.hid htk2; have HED := Lib.hid hed; have HC6 := Lib.hid hC6; have HRw := Lib.hid hRw; have HOi := Lib.hid hOi
          clear htk2 hed hC6 hrd2 hRw hOi
          have HN : Hid (Quiet wr (wr.alloc (Obj.cells #[Value.int .i64 m.f0, Value.slice A5 m.f1.length c5] 96)).drew) := Lib.hid (by (repeat (first | exact Fr.refl _ _ | assumption | (refine Fr.quiet ?_ (by assumption)) | refine Fr.quiet ?_ HF.out | refine Fr.quiet ?_ HF2.out | refine Fr.drew ?_ | refine Fr.drewN ?_ _ | refine Fr.alloc ?_ _ | refine Fr.setCell ?_ (.inr (by first | omega | (simp; done) | (simp; omega))) _)))
          have hzb : Hid (w.heap.size ≤ (wr.alloc (Obj.cells #[Value.int .i64 m.f0, Value.slice A5 m.f1.length c5] 96)).drew.heap.size) := Lib.hid (Nat.le_trans HOi.out.b.size HN.out.size)
          have HB0 : Hid (Blk (wr.alloc (Obj.cells #[Value.int .i64 m.f0, Value.slice A5 m.f1.length c5] 96)).drew wr.heap.size #[Value.int .i64 m.f0, Value.slice A5 m.f1.length c5] 96) := Lib.hid ((Blk.new _ _ _).drew)
          have HR2 : Hid (∀ w', Quiet (wr.alloc (Obj.cells #[Value.int .i64 m.f0, Value.slice A5 m.f1.length c5] 96)).drew w' → k96.R 96 w' w.heap.size Any_ (.slice A6 ed.length c6) ed ∧ ClOut w Y R st (.slice Av dn.length cv) dn (.slice A6 ed.length c6) w') := by
            intro w' q
            have q2 := HN.out.quiet q
            exact ⟨Kd.R_below HRw.out (Quiet.bel q2), HOi.out.quiet q2⟩
          go_wp2_with fail
          go_region_law (first
              | (go_simp; go_at_call 113; refine (wCloneSh _ _ _ _ (Kd.C_below HC6.out (Quiet.bel HN.out)) hl5 HSm.out).mono ?_; rintro e w3 ⟨v3, rfl, hr3, hb3⟩; obtain ⟨A8, c8, hv8⟩ := Kd.R_slice hr3; subst hv8; have hq3 := Quiet.of hb3; have k0 := (Fr.blk hq3 HB0.out (fun x => x)).cell 0; have k1 := (Fr.blk hq3 HB0.out (fun x => x)).cell 1; simp at k0 k1; have hz3 : w.heap.size ≤ w3.heap.size := Nat.le_trans HOi.out.b.size (Nat.le_trans HN.out.size hq3.size); have HR3 := Lib.hid hr3; have HQ3 := Lib.hid hq3; clear hr3 hq3 hb3)
              | (have hq7 := HR3.out; refine rAppStep k96 (w0 := w) w.heap.size rfl _ _ 93 96 _ 32 rfl Tryd.underlying93 infoTerm rfl (by decide) (by decide) (.slice A6 ed.length c6) ed m _ rfl rfl (k96_mkM _ _ _ m (Kd.R_lower HR3.out hzb.out)) (by decide) (HR2.out _ HQ3.out).1 (HR2.out _ HQ3.out).2.b hz3 (by omega) ?_; intro v1 w4 ho hb hg hat; have HCl := Lib.hid (ClOut.grown (HR2.out _ HQ3.out).2 (Kd.R_own (HR2.out _ HQ3.out).1).choose_spec hg hat); obtain ⟨fn, hfn⟩ : ∃ d, d = ed ++ [m] := ⟨_, rfl⟩; rw [← hfn] at ho; obtain ⟨A9, c9, hv9⟩ := Kd.R_slice ho; subst hv9; have HFN := Lib.hid hfn; have HO4 := Lib.hid ho; clear hfn ho hb hg hat))
          all_goals
            go_wp2
            go_roundw
            case rel => exact ⟨ed.length + 1, by omega, by go_num, by rw [HTk2.out, ← HFN.out]; exact HO4.out, HCl.out⟩
            case measure => simp [intOf]; omega
        · have hed2 : ed = way := by rw [hed, List.take_of_length_le (by omega)]
          have HED := Lib.hid hed
          clear hed
          have y1 := hOi.y.cell 1; simp at y1
          have y0 := hOi.y.cell 0; simp at y0
          have HO2 := Lib.hid hOi; have HRw := Lib.hid hRw
          clear hOi hRw
          have HE2 := Lib.hid hed2
          clear hed2
          go_wp2_with (at_builtin; refine rApp kWay (w0 := w) w.heap.size rfl _ _ 90 93 (.slice none 0 0) 24 rfl Tryd.underlying90 infoWay rfl (by decide) (by decide) _ dn ed _ rfl rfl (Kd.M_row HRw.out) (by decide) (Kd.R_mono HO2.out.o (fun _ _ => trivial)) HO2.out.b HO2.out.b.size (by omega) ?_; intro v1 w1 ho hb hg hat; obtain ⟨fn, hfn⟩ : ∃ d, d = dn ++ [ed] := ⟨_, rfl⟩; rw [← hfn] at ho; obtain ⟨A9, c9, hv9⟩ := Kd.R_slice ho; subst hv9; have HFN := Lib.hid hfn; clear hfn; have y2 := (grown_blk hg HO2.out.y (own_not_blk HO2.out.y (Kd.R_own HO2.out.o).choose_spec (by decide))); have r2 := (grown_blk hg HO2.out.r (own_not_blk HO2.out.r (Kd.R_own HO2.out.o).choose_spec (by decide))); have yc := y2.cell 1; have yf := y2.free 1; simp at yc; have Y2 := Lib.hid y2; have R2 := Lib.hid r2; have HO3 := Lib.hid ho; have HB3 := Lib.hid hb; clear ho hb hg hat y2 r2)
          go_roundw
          case rel =>
            refine ⟨dn.length + 1, .slice A9 fn.length c9, by omega, by go_num, ?_⟩
            rw [HTk.out, ← HE2.out, ← HFN.out]
            have q1 := Y2.out.set 1 (.slice A9 fn.length c9)
            have q2 := R2.out.set_other (a := ⟨Y, 1, none⟩) (by show Y ≠ R; omega) (.slice A9 fn.length c9)
            have q3 := Kd.R_set (Kd.R_mono HO3.out (ok' := fun k => Any_ k ∧ some k ≠ (Value.slice none 0 0).ownBlock) (fun _ _ => ⟨trivial, by simp [Value.ownBlock]⟩)) Y2.out (by decide) 1 (.slice A9 fn.length c9)
            exact ⟨by simpa using q1, q2, q3, HB3.out.setCell (by show w.heap.size ≤ Y; omega) _⟩
          case measure => simp [intOf]; omega
    · have hdw : dn = ws := by rw [hdn, List.take_of_length_le (by omega)]
      subst hdw
      have y0 := hO.y.cell 0; have y1 := hO.y.cell 1; simp at y0 y1
      have r0 := hO.r.cell 0; have r1 := hO.r.cell 1; simp at r0 r1
      have f0 := hO.r.free 0; have f1 := hO.r.free 1
      have HO := Lib.hid hO
      have hRlt := hO.r.lt
      have hRw : w.heap.size ≤ R := by omega
      clear hO hdn
      go_wp2
      refine bodyPost_ret (results_cell_row rfl _ _ R 92 #[.bool st, .slice Av dn.length cv] (0, 0) _ rfl ?blk Tryd.underlying92 rfl (by kernel_rfl)) rfl ?_
      case blk =>
        have q := (HO.out.r.set 0 (.bool st)).set 1 (.slice Av dn.length cv)
        simp at q
        exact q
      refine ⟨_, rfl, ?_, ?_⟩
      · have q := Kd.R_set (Kd.R_set (Kd.R_mono HO.out.o (ok' := Any_) (fun _ _ => trivial)) HO.out.r (by decide) 0 (.bool st)) (HO.out.r.set 0 (.bool st)) (by decide) 1 (.slice Av dn.length cv)
        exact q
      · exact (HO.out.b.setCell (by exact hRw) _).setCell (by exact hRw) _
end Go.Proofs.YtadepdeckapgcaaDoor
end

section
namespace Go.Proofs.YtadepdeckapgcaaDoor
open Go.RowKit Go.Proofs.YtadepdeckapgcaaDoorW.PrintWords Go.Proofs.YtadepdeckapgcaaDoorW.PrintLast Go.Proofs.YtadepdeckapgcaaDoorW.PrintMore PWitnessTells
set_option linter.unusedSimpArgs false
set_option linter.unusedVariables false
theorem mid_eq (a b n : Nat) (h : a < b) (hb : b ≤ n) (hn : n ≤ MX) : wrap64 ((IntKind.u64.wrap (wrap64 ((a : Int) + (b : Int)))) / 2) = (((a + b) / 2 : Nat) : Int) := by
  unfold MX at hn
  rw [IntKind.wrap_u64]; unfold wrap64; omega
theorem less_f (x y : Int) : cmp_Less_int.f x y = some (decide (x < y)) := by
  unfold cmp_Less_int.f cmp_isNaN_int.f; simp
def BsOK (l : List Int) (t : Int) (r : Int × Bool) : Prop :=
  (r.2 = true → ∃ i : Nat, r.1 = i ∧ i < l.length ∧ l.getD i 0 = t) ∧ (deadC (-1) l = true → r.2 = false → t ∉ l)
theorem deadC_pairwise : ∀ (l : List Int) (last : Int), deadC last l = true → (∀ x ∈ l, last < x) ∧ l.Pairwise (· < ·)
  | [], _, _ => ⟨fun x hx => (by cases hx), .nil⟩
  | a :: r, last, h => by
    rw [deadC_cons] at h
    by_cases q : a ≤ last ∨ 64 ≤ a
    · rw [if_pos q] at h; cases h
    · rw [if_neg q] at h
      obtain ⟨h1, h2⟩ := deadC_pairwise r a h
      refine ⟨fun x hx => ?_, List.pairwise_cons.2 ⟨h1, h2⟩⟩
      rcases List.mem_cons.1 hx with rfl | hx
      · omega
      · have := h1 x hx; omega
theorem getD_lt {l : List Int} (h : l.Pairwise (· < ·)) (i j : Nat) (hij : i < j) (hj : j < l.length) : l.getD i 0 < l.getD j 0 := by
  have := List.pairwise_iff_getElem.1 h i j (by omega) hj hij
  simpa [show i < l.length by omega, hj] using this
theorem ev_bs_l0 (l : List Int) (hl : l.length ≤ MX) (t : Int) : ∀ (m a b : Nat), b - a ≤ m → a ≤ b → b ≤ l.length →
    (deadC (-1) l = true → (∀ i, i < a → l.getD i 0 < t) ∧ (∀ i, b ≤ i → i < l.length → t ≤ l.getD i 0)) →
    ∃ r, Ev (fun k => slices_BinarySearch_int_int.l0 k l t (l.length : Int) a b) r ∧ BsOK l t r := by
  intro m
  induction m with
  | zero =>
    intro a b hm hab hb hs
    obtain rfl : a = b := by omega
    by_cases h1 : a < l.length
    · by_cases h2 : rd l (a : Int) = t
      · refine ⟨((a : Int), true), Ev.step (f := fun _ => some ((a : Int), true)) (fun k => by simp only [slices_BinarySearch_int_int.l0]; rw [if_neg (by omega), if_pos (by omega), if_pos (by omega), if_pos (by omega), if_pos h2]) (Ev.now _), fun _ => ⟨a, rfl, h1, h2⟩, fun _ q => by cases q⟩
      · refine ⟨((a : Int), false), Ev.step (f := fun _ => some ((a : Int), false)) (fun k => by simp only [slices_BinarySearch_int_int.l0]; rw [if_neg (by omega), if_pos (by omega), if_pos (by omega), if_pos (by omega), if_neg h2]; simp [slices_isNaN_int.f]) (Ev.now _), (fun q => by cases q), fun hd _ hmem => ?_⟩
        obtain ⟨s1, s2⟩ := hs hd
        obtain ⟨j, hj, e⟩ := List.getElem_of_mem hmem
        have ej : l.getD j 0 = t := by simpa [hj] using e
        rcases Nat.lt_trichotomy j a with q | q | q
        · have := s1 j q; omega
        · subst q; exact h2 ej
        · have := getD_lt (deadC_pairwise l (-1) hd).2 a j q hj; have := s2 a (Nat.le_refl _) h1; omega
    · refine ⟨((a : Int), false), Ev.step (f := fun _ => some ((a : Int), false)) (fun k => by simp only [slices_BinarySearch_int_int.l0]; rw [if_neg (by omega), if_neg (by omega)]) (Ev.now _), (fun q => by cases q), fun hd _ hmem => ?_⟩
      obtain ⟨s1, s2⟩ := hs hd
      obtain ⟨j, hj, e⟩ := List.getElem_of_mem hmem
      have ej : l.getD j 0 = t := by simpa [hj] using e
      have := s1 j (by omega); omega
  | succ m ih =>
    intro a b hm hab hb hs
    by_cases h : a < b
    · have hmid := Lib.hid (mid_eq a b l.length h hb hl)
      have hrd : rd l (((a + b) / 2 : Nat) : Int) = l.getD ((a + b) / 2) 0 := rfl
      have hc : (a + b) / 2 < b := by omega
      have hca : a ≤ (a + b) / 2 := by omega
      have hw := Lib.hid (wrap_succ ((a + b) / 2) l.length (by omega) hl)
      generalize hcc : (a + b) / 2 = c at *
      have hle : ∀ i j : Nat, deadC (-1) l = true → i ≤ j → j < l.length → l.getD i 0 ≤ l.getD j 0 := fun i j hd q hj => by
        clear hmid
        rcases Nat.lt_or_eq_of_le q with q | q
        · have := getD_lt (deadC_pairwise l (-1) hd).2 i j q hj; omega
        · subst q; omega
      have g1 : (0 : Int) ≤ (c : Int) := by omega
      have g2 : (c : Int) < (l.length : Int) := by omega
      have g3 : (a : Int) < (b : Int) := by omega
      have g4 : b - (c + 1) ≤ m := by omega
      have g5 : c - a ≤ m := by omega
      have g6 : c + 1 ≤ b := by omega
      have g7 : c ≤ l.length := by omega
      clear hcc hm hab
      by_cases hlt : l.getD c 0 < t
      · obtain ⟨r, h1, h2⟩ := ih (c + 1) b g4 g6 hb (fun hd => ⟨fun i hi => by have := hle i c hd (by omega) (by omega); omega, (hs hd).2⟩)
        refine ⟨r, Ev.step (f := fun k => slices_BinarySearch_int_int.l0 k l t (l.length : Int) ((c + 1 : Nat) : Int) b) (fun k => ?_) h1, h2⟩
        simp only [slices_BinarySearch_int_int.l0]
        rw [if_pos g3, hmid.out, if_pos g1, if_pos g2, hrd, less_f, decide_eq_true hlt, hw.out]
        rfl
      · obtain ⟨r, h1, h2⟩ := ih a c g5 hca g7 (fun hd => ⟨(hs hd).1, fun i hi hil => by have := hle c i hd hi hil; omega⟩)
        refine ⟨r, Ev.step (f := fun k => slices_BinarySearch_int_int.l0 k l t (l.length : Int) a (c : Int)) (fun k => ?_) h1, h2⟩
        simp only [slices_BinarySearch_int_int.l0]
        rw [if_pos g3, hmid.out, if_pos g1, if_pos g2, hrd, less_f, decide_eq_false hlt]
        rfl
    · exact ih a b (by omega) hab hb hs
theorem wBs (w : World) (A : Option Addr) (c : Nat) (l : List Int) (t : Int) (hC : Kd.C (Kd.int .i64) w A l.length l) (hc : l.length ≤ c) :
    Calls Tryd.prog 55 #[.slice A l.length c, .int .i64 t] w fun e w' => (∃ (i : Int) (b : Bool), BsOK l t (i, b) ∧ e = .returned (.tuple #[.int .i64 i, .bool b])) ∧ ∃ n, w' = w.drewN n := by
  obtain ⟨⟨i, b⟩, h1, h2⟩ := ev_bs_l0 l (C_len hC).2 t l.length 0 l.length (by omega) (by omega) (by omega) (fun _ => ⟨fun i hi => by omega, fun i h1 h2 => by omega⟩)
  obtain ⟨k, hk⟩ := h1.rounds
  exact (slices_BinarySearch_int_int.calls k A c l t i b w hC hc hk).mono fun e w' ⟨he, hd⟩ => ⟨⟨i, b, h2, he⟩, hd.out⟩
def findL (t : Int) : Nat → List Int → Int
  | _, [] => -1
  | i, x :: r => if x = t then (i : Int) else findL t (i + 1) r
theorem findL_cons (t : Int) (i : Nat) (x : Int) (r : List Int) : findL t i (x :: r) = if x = t then (i : Int) else findL t (i + 1) r := rfl
def lackR (time : Int) (d : List Int) (n : List NNode) (t : Int) : Int :=
  if chkR time d n = 0 then (if findL t 0 d < 0 then -1 else if (n.getD (findL t 0 d).toNat z92).f1.length = 0 then -1 else lacksL (ofL 0 d) 0 ((n.getD (findL t 0 d).toNat z92).f1.getD 0 [])) else -1
theorem findL_spec (t : Int) : ∀ (l : List Int) (i : Nat), (findL t i l = -1 ∧ t ∉ l) ∨ ∃ j : Nat, findL t i l = ((i + j : Nat) : Int) ∧ j < l.length ∧ l.getD j 0 = t := by
  intro l
  induction l with
  | nil => intro i; exact .inl ⟨rfl, by simp⟩
  | cons x r ih =>
    intro i
    rw [findL_cons]
    by_cases h : x = t
    · rw [if_pos h]; exact .inr ⟨0, by simp, by simp, by simpa using h⟩
    · rw [if_neg h]
      rcases ih (i + 1) with ⟨h1, h2⟩ | ⟨j, h1, h2, h3⟩
      · exact .inl ⟨h1, by simp [Ne.symm h, h2]⟩
      · exact .inr ⟨j + 1, by rw [h1]; omega, by simpa using h2, by simpa using h3⟩
theorem bs_find (l : List Int) (t : Int) (i : Int) (b : Bool) (h : BsOK l t (i, b)) (hd : deadC (-1) l = true) : (b = true → findL t 0 l = i) ∧ (b = false → findL t 0 l = -1) := by
  have hp := (deadC_pairwise l (-1) hd).2
  constructor
  · intro hb
    obtain ⟨j, h1, h2, h3⟩ := h.1 hb
    simp only at h1
    rcases findL_spec t l 0 with ⟨_, q⟩ | ⟨k, q1, q2, q3⟩
    · exact absurd (by rw [← h3]; exact getD_mem 0 l j h2) q
    · rw [q1, h1]
      have : j = k := by
        rcases Nat.lt_trichotomy j k with q | q | q
        · have := getD_lt hp j k q q2; omega
        · exact q
        · have := getD_lt hp k j q h2; omega
      omega
  · intro hb
    rcases findL_spec t l 0 with ⟨q, _⟩ | ⟨k, q1, q2, q3⟩
    · exact q
    · exact absurd (by rw [← q3]; exact getD_mem 0 l k q2) (h.2 hd hb)
end Go.Proofs.YtadepdeckapgcaaDoor
end

section
namespace Go.Proofs.YtadepdeckapgcaaDoor
open Go.RowKit Go.Proofs.YtadepdeckapgcaaDoorW.PrintWords Go.Proofs.YtadepdeckapgcaaDoorW.PrintLast Go.Proofs.YtadepdeckapgcaaDoorW.PrintMore PWitnessTells
set_option linter.unusedSimpArgs false
set_option linter.unusedVariables false
theorem add_zero' (a : Addr) : a.add 0 = a := by unfold Addr.add; simp
theorem lacksL_range (dead : Nat) : ∀ (l : List NTerm) (i : Nat), lacksL dead i l = -1 ∨ ∃ j : Nat, lacksL dead i l = ((i + j : Nat) : Int) ∧ j < l.length := by
  intro l
  induction l with
  | nil => intro i; exact .inl rfl
  | cons m r ih =>
    intro i
    rw [lacksL_cons]
    by_cases h : comesL dead 0 m.f1 < m.f0
    · rw [if_pos h]; exact .inr ⟨0, by simp, by simp⟩
    · rw [if_neg h]
      rcases ih (i + 1) with q | ⟨j, q1, q2⟩
      · exact .inl q
      · exact .inr ⟨j + 1, by rw [q1]; omega, by simpa using q2⟩
def lackK (time : Int) (d : List Int) (n : List NNode) (t : Int) : Int := if 0 ≤ lackR time d n t then lackR time d n t else 0
def lackB (time : Int) (d : List Int) (n : List NNode) (t : Int) : Bool := decide (0 ≤ lackR time d n t)
set_option maxRecDepth 100000 in
set_option maxHeartbeats 2000000 in
theorem wLack (w : World) (time : Int) (A1 : Option Addr) (c1 : Nat) (d : List Int) (A2 : Option Addr) (c2 : Nat) (n : List NNode) (h1 : Kd.C (Kd.int .i64) w A1 d.length d) (h2 : d.length ≤ c1) (h3 : Kd.C k92 w A2 n.length n) (h4 : n.length ≤ c2) (t : Int) :
    Calls Tryd.prog 15 #[.agg #[.int .i64 time, .slice A1 d.length c1, .slice A2 n.length c2], .int .i64 t] w fun e w' => e = .returned (.tuple #[.int .i64 0, .int .i64 (lackK time d n t), .bool (lackB time d n t)]) ∧ Quiet w w' := by
  have hbx : ∀ o, Quiet w (w.alloc o) := fun o => by (repeat (first | exact Fr.refl _ _ | assumption | (refine Fr.quiet ?_ (by assumption)) | refine Fr.quiet ?_ HF.out | refine Fr.quiet ?_ HF2.out | refine Fr.drew ?_ | refine Fr.drewN ?_ _ | refine Fr.alloc ?_ _ | refine Fr.setCell ?_ (.inr (by first | omega | (simp; done) | (simp; omega))) _))
  have CH := Lib.hid (fun wz (q : Quiet w wz) => wChk wz time A1 c1 d A2 c2 n (Kd.C_below h1 q.bel) h2 (Kd.C_below h3 q.bel) h4)
  have BS := Lib.hid (fun wz (q : Quiet w wz) => wBs wz A1 c1 d t (Kd.C_below h1 q.bel) h2)
  have OF := Lib.hid (fun wz (q : Quiet w wz) => wOf wz A1 c1 d (Kd.C_below h1 q.bel) h2)
  have HN := Lib.hid h3
  have hm3 := h3.2.1
  clear h1 h3
  have none_ : lackR time d n t = -1 → Hid (lackK time d n t = 0 ∧ lackB time d n t = false) := fun q => by unfold lackK lackB; rw [q]; exact Lib.hid ⟨by simp, by simp⟩
  have hB : Hid (∀ wz, Quiet (w.alloc (.cells #[.int .i64 time, .slice A1 d.length c1, .slice A2 n.length c2] 25)) wz → wz.cell? ⟨w.heap.size, 0, none⟩ = some (.int .i64 time) ∧ wz.cell? ⟨w.heap.size, 1, none⟩ = some (.slice A1 d.length c1) ∧ wz.cell? ⟨w.heap.size, 2, none⟩ = some (.slice A2 n.length c2)) := by
    intro wz q
    exact ⟨q.cell (by simp) (fun x => x), q.cell (by simp) (fun x => x), q.cell (by simp) (fun x => x)⟩
  have hN := none_
  clear none_
  by_cases c0 : chkR time d n = 0
  · obtain ⟨hlen, hdc, _⟩ := chkR_zero _ _ _ c0
    have E0 : lackR time d n t = if findL t 0 d < 0 then -1 else if (n.getD (findL t 0 d).toNat z92).f1.length = 0 then -1 else lacksL (ofL 0 d) 0 ((n.getD (findL t 0 d).toNat z92).f1.getD 0 []) := by unfold lackR; rw [if_pos c0]
    have hdl := ofL_lt d 0 (by decide)
    rw [c0] at CH
    generalize ofL 0 d = dead at *
    have HE0 := Lib.hid E0; have HDC := Lib.hid hdc; have HLen := Lib.hid hlen; have HNo := Lib.hid hN
    clear c0 E0 hdc hlen hN
    go_enter Tryd.func15, Tryd.ntmps15
    go_wp2_with fail
    refine (BS.out _ (hbx _)).mono ?_
    rintro e w1 ⟨⟨i, b, hbs, rfl⟩, nn, rfl⟩
    obtain ⟨f1, f2⟩ := bs_find d t i b hbs HDC.out
    cases b
    · have hz : lackR time d n t = -1 := by rw [HE0.out, f2 rfl]; simp
      obtain ⟨z1, z2⟩ := (HNo.out hz).out
      have HZ := Lib.hid (And.intro z1 z2)
      clear hz z1 z2 f1 f2 hbs
      go_wp2
      go_ret3
      rw [HZ.out.1, HZ.out.2]
      exact ⟨rfl, (hbx _).drewN _⟩
    · have hf := f1 rfl
      obtain ⟨j, q1, q2, q3⟩ := hbs.1 rfl
      simp only at q1
      subst q1
      have hjn : j < n.length := by rw [← HLen.out]; exact q2
      rw [hf] at HE0
      have HE1 : lackR time d n t = if (n.getD j z92).f1.length = 0 then -1 else lacksL dead 0 ((n.getD j z92).f1.getD 0 []) := by
        rw [HE0.out, if_neg (by omega)]; rfl
      clear HE0 hf f1 f2 hbs q3
      obtain ⟨hz0, hz1, hz2⟩ := hB.out _ ((Fr.refl _ _).drewN nn)
      have hj0 : (0 : Int) ≤ (j : Int) := by omega
      have hj1 : (j : Int) < (n.length : Int) := by omega
      have HQn : Hid (Quiet w ((w.alloc (.cells #[.int .i64 time, .slice A1 d.length c1, .slice A2 n.length c2] 25)).drewN nn)) := (hbx _).drewN _
      generalize ((w.alloc (.cells #[.int .i64 time, .slice A1 d.length c1, .slice A2 n.length c2] 25)).drewN nn) = w1 at *
      have hs := HQn.out.size
      go_wp2_with fail
      refine (CH.out _ HQn.out).mono ?_
      rintro e w2 ⟨rfl, hq2⟩
      have HQ2 : Hid (Quiet w w2) := HQn.out.quiet hq2
      obtain ⟨bd, B1, d1, eB, y0, y1, l2, g2⟩ := at_T92 (Kd.C_below HN.out HQ2.out.bel) j (by omega) (by omega)
      have r2 : rd_T92 n (j : Int) = n.getD j z92 := rfl
      rw [r2] at y0 y1 l2 g2
      generalize n.getD j z92 = x at *
      simp only [Int.toNat_natCast] at y0 y1
      have hz1' := hq2.cellA hz1
      have hz2' := hq2.cellA hz2
      subst eB
      have hm2 := g2.2.1
      clear hz0 hz1 hz2 hq2 r2
      by_cases hx0 : x.f1.length = 0
      · have hz : lackR time d n t = -1 := by rw [HE1, if_pos hx0]
        obtain ⟨z1, z2⟩ := (HNo.out hz).out
        have HZ := Lib.hid (And.intro z1 z2)
        have hx0' : ((x.f1.length : Int) == 0) = true := by rw [hx0]; rfl
        clear hz z1 z2 HE1 hx0 g2
        go_wp2
        go_ret3
        rw [HZ.out.1, HZ.out.2]
        exact ⟨rfl, HQ2.out⟩
      · rw [if_neg hx0] at HE1
        have hxp : (0 : Int) < (x.f1.length : Int) := by clear hz1' hz2' HE1; omega
        obtain ⟨ad4, A4, c4, hA4, z0, hl4, hC5⟩ := at_L5 g2 0 (Int.le_refl 0) hxp
        have r3 : rd_L5 x.f1 0 = x.f1.getD 0 [] := rfl
        rw [r3] at z0 hl4 hC5
        generalize x.f1.getD 0 [] = way at *
        simp only [Int.toNat_zero] at z0
        rw [add_zero'] at z0
        have hxp' : 0 < x.f1.length := by clear hz1' hz2'; omega
        have hx0' : ((x.f1.length : Int) == 0) = false := by rw [beq_eq_false_iff_ne]; clear hz1' hz2'; omega
        subst hA4
        have LK := Lib.hid (fun wz (q : Quiet w2 wz) => wLacks wz way A4 c4 (Kd.C_below hC5 q.bel) hl4 dead hdl)
        have HE := Lib.hid HE1
        clear HE1 hC5 g2 r3 hx0
        have HS : Hid (∀ w', Quiet w2 w' → w'.cell? ⟨w.heap.size, 1, none⟩ = some (.slice A1 d.length c1) ∧ w'.cell? ⟨w.heap.size, 2, none⟩ = some (.slice (some bd) n.length c2) ∧ w'.cell? ⟨(bd.add (j * 2)).block, (bd.add (j * 2)).off + 1, none⟩ = some (.slice (some ad4) x.f1.length d1) ∧ w'.cell? ad4 = some (.slice A4 way.length c4) ∧ Quiet w2 w') :=
          fun w' q => ⟨q.cellA hz1', q.cellA hz2', q.cellA y1, q.cellA z0, q⟩
        generalize hr : lacksL dead 0 way = r at *
        have hrr : r = -1 ∨ ∃ j : Nat, r = ((0 + j : Nat) : Int) ∧ j < way.length := by rw [← hr]; exact lacksL_range dead way 0
        clear hr
        go_wp2_with fail
        clear hz1' hz2' y0 y1 z0
        go_cut [9] (fun s wx => s = .int .i64 r ∧ Quiet w2 wx)
        case first =>
          go_region_held3 (fun w' => w'.cell? ⟨w.heap.size, 1, none⟩ = some (.slice A1 d.length c1) ∧ w'.cell? ⟨w.heap.size, 2, none⟩ = some (.slice (some bd) n.length c2) ∧ w'.cell? ⟨(bd.add (j * 2)).block, (bd.add (j * 2)).off + 1, none⟩ = some (.slice (some ad4) x.f1.length d1) ∧ w'.cell? ad4 = some (.slice A4 way.length c4) ∧ Quiet w2 w')
            (exact HS.out _ (by first | assumption | exact Fr.refl _ _ | exact (Fr.refl _ _).drew))
            (first
              | (go_at_call 57; refine (OF.out _ (HQ2.out.quiet (by first | assumption | exact Fr.refl _ _ | exact (Fr.refl _ _).drew))).mono ?_; rintro e w' ⟨rfl, rfl⟩)
              | (go_at_call 56; refine (LK.out _ (by first | assumption | exact Fr.refl _ _ | exact (Fr.refl _ _).drew)).mono ?_; rintro e w' ⟨rfl, hf⟩; replace hf := hf.undrew))
          all_goals (go_wp2_with fail; go_meet)
          all_goals exact ⟨rfl, hf⟩
        case rest =>
          obtain ⟨rfl, hf⟩ := hcut
          have HF := Lib.hid hf
          clear hf
          by_cases hr0 : r < 0
          · have hz : lackR time d n t = -1 := by rw [HE.out]; rcases hrr with q | ⟨q, q1, _⟩ <;> omega
            obtain ⟨z1, z2⟩ := (HNo.out hz).out
            have HZ := Lib.hid (And.intro z1 z2)
            have hr0' := decide_eq_true hr0
            clear hz z1 z2 hrr
            go_wp2
            go_ret3
            rw [HZ.out.1, HZ.out.2]
            exact ⟨rfl, HQ2.out.quiet HF.out⟩
          · have HZ : Hid (lackK time d n t = r ∧ lackB time d n t = true) := by
              unfold lackK lackB; rw [HE.out]; exact Lib.hid ⟨if_pos (by omega), decide_eq_true (by omega)⟩
            have hr0' := decide_eq_false hr0
            clear hrr
            go_wp2
            go_ret3
            rw [HZ.out.1, HZ.out.2]
            exact ⟨rfl, HQ2.out.quiet HF.out⟩
  · have hz : lackR time d n t = -1 := by unfold lackR; rw [if_neg c0]
    obtain ⟨z1, z2⟩ := (hN hz).out
    have HZ := Lib.hid (And.intro z1 z2)
    have c1' : (chkR time d n != 0) = true := by simpa using c0
    clear hz z1 z2 hN c0
    go_enter Tryd.func15, Tryd.ntmps15
    go_wp2_with fail
    refine (BS.out _ (hbx _)).mono ?_
    rintro e w1 ⟨⟨i, b, hbs, rfl⟩, nn, rfl⟩
    obtain ⟨hz0, hz1, hz2⟩ := hB.out _ ((Fr.refl _ _).drewN nn)
    clear hbs
    cases b
    · go_wp2
      go_ret3
      rw [HZ.out.1, HZ.out.2]
      exact ⟨rfl, (hbx _).drewN _⟩
    · go_wp2_with (go_at_call 40; refine (CH.out _ ((hbx _).drewN _)).mono ?_; rintro e w' ⟨rfl, hf⟩; have HF := Lib.hid hf; clear hf)
      go_ret3
      rw [HZ.out.1, HZ.out.2]
      exact ⟨rfl, ((hbx _).drewN _).quiet HF.out⟩
end Go.Proofs.YtadepdeckapgcaaDoor
end

section
namespace Go.Proofs.YtadepdeckapgcaaDoor
open Go.RowKit Go.Proofs.YtadepdeckapgcaaDoorW.PrintWords Go.Proofs.YtadepdeckapgcaaDoorW.PrintLast Go.Proofs.YtadepdeckapgcaaDoorW.PrintMore PWitnessTells
set_option linter.unusedSimpArgs false
set_option linter.unusedVariables false
theorem infoInt : (Tryd.prog.info? 3).map (fun i => (i.zero, i.size, i.bytes)) = some (some (.int .i64 0), 1, 8) := by kernel_rfl
def partZ (s : Nat) (d : List Int) (n : List NNode) : List (Int × NNode) := (d.zip n).filter fun q => hasB s q.1
def partT (time : Int) (d : List Int) (n : List NNode) : Int := if chkR time d n = 0 then time else 0
def partD (s : Nat) (time : Int) (d : List Int) (n : List NNode) : List Int := if chkR time d n = 0 then (partZ s d n).map Prod.fst else []
def partN (s : Nat) (time : Int) (d : List Int) (n : List NNode) : List NNode := if chkR time d n = 0 then (partZ s d n).map Prod.snd else []
theorem zip_getD (d : List Int) (n : List NNode) (k : Nat) (h : k < d.length) (hl : d.length = n.length) : (d.zip n).getD k (0, z92) = (d.getD k 0, n.getD k z92) := by
  have h1 : k < (d.zip n).length := by simp; omega
  have h2 : k < n.length := by omega
  rw [List.getD_eq_getElem?_getD, List.getElem?_eq_getElem h1]
  simp [h, h2]
theorem part_step (s : Nat) (d : List Int) (n : List NNode) (k : Nat) (h : k < d.length) (hl : d.length = n.length) :
    ((d.zip n).take (k + 1)).filter (fun q => hasB s q.1) = ((d.zip n).take k).filter (fun q => hasB s q.1) ++ (if hasB s (d.getD k 0) then [(d.getD k 0, n.getD k z92)] else []) := by
  rw [take_snoc' (0, z92) (d.zip n) k (by simp; omega), List.filter_append, zip_getD d n k h hl]
  congr 1
  by_cases q : hasB s (d.getD k 0) = true
  · rw [List.filter_cons_of_pos (by exact q), List.filter_nil, if_pos q]
  · rw [List.filter_cons_of_neg (by exact q), List.filter_nil, if_neg q]
structure PtAt (w : World) (R Y : Nat) (time : Int) (xs : Array Value) (vd vn : Value) (dd : List Int) (nn : List NNode) (wr : World) : Prop where
  x : Blk wr w.heap.size xs 25
  r : Blk wr R #[.int .i64 0, .slice none 0 0, .slice none 0 0] 25
  y : Blk wr Y #[.int .i64 time, vd, vn] 25
  od : (Kd.int .i64).R 3 wr w.heap.size Any_ vd dd
  on : k92.R 92 wr w.heap.size Any_ vn nn
  b : Below w.heap.size w wr
theorem PtAt.quiet {w : World} {R Y : Nat} {time : Int} {xs : Array Value} {vd vn : Value} {dd : List Int} {nn : List NNode} {wr wz : World} (h : PtAt w R Y time xs vd vn dd nn wr) (q : Quiet wr wz) : PtAt w R Y time xs vd vn dd nn wz :=
  ⟨q.blk h.x (fun x => x), q.blk h.r (fun x => x), q.blk h.y (fun x => x), Kd.R_below h.od q.bel, Kd.R_below h.on q.bel, below_then h.b h.b.size q.bel⟩
theorem PtAt.growD {w : World} {R Y : Nat} {time : Int} {xs : Array Value} {vd vn v1 : Value} {dd de : List Int} {nn : List NNode} {wr wz : World} (h : PtAt w R Y time xs vd vn dd nn wr) (hRY : R ≠ Y) (hXY : w.heap.size < Y) (hg : wr.grownBy wz vd.ownBlock) (ho : (Kd.int .i64).R 3 wz w.heap.size Any_ v1 de) :
    PtAt w R Y time xs v1 vn de nn (wz.setCell ⟨Y, 1, none⟩ v1) := by
  obtain ⟨inner, own⟩ := Kd.R_own h.od
  have y2 := grown_blk hg h.y (own_not_blk h.y own (by decide))
  have o2 := Kd.R_grown (Kd.R_apartR h.on h.od (by decide)) hg (fun k hk => hk.2)
  refine ⟨(grown_blk hg h.x (own_not_blk h.x own (by decide))).set_other (by show Y ≠ _; omega) _, (grown_blk hg h.r (own_not_blk h.r own (by decide))).set_other (by show Y ≠ _; omega) _, by simpa using y2.set 1 v1, Kd.R_set ho y2 (by decide) 1 v1, Kd.R_set (Kd.R_drop o2) y2 (by decide) 1 v1, (h.b.grown hg h.b.size (fun k hk => own_base own k hk)).setCell (by show w.heap.size ≤ Y; omega) _⟩
theorem PtAt.growN {w : World} {R Y : Nat} {time : Int} {xs : Array Value} {vd vn v1 : Value} {dd : List Int} {nn ne : List NNode} {wr wz : World} (h : PtAt w R Y time xs vd vn dd nn wr) (hRY : R ≠ Y) (hXY : w.heap.size < Y) (hg : wr.grownBy wz vn.ownBlock) (ho : k92.R 92 wz w.heap.size Any_ v1 ne) :
    PtAt w R Y time xs vd v1 dd ne (wz.setCell ⟨Y, 2, none⟩ v1) := by
  obtain ⟨inner, own⟩ := Kd.R_own h.on
  have y2 := grown_blk hg h.y (own_not_blk h.y own (by decide))
  have o2 := Kd.R_grown (Kd.R_apartR h.od h.on (by decide)) hg (fun k hk => hk.2)
  refine ⟨(grown_blk hg h.x (own_not_blk h.x own (by decide))).set_other (by show Y ≠ _; omega) _, (grown_blk hg h.r (own_not_blk h.r own (by decide))).set_other (by show Y ≠ _; omega) _, by simpa using y2.set 2 v1, Kd.R_set (Kd.R_drop o2) y2 (by decide) 2 v1, Kd.R_set ho y2 (by decide) 2 v1, (h.b.grown hg h.b.size (fun k hk => own_base own k hk)).setCell (by show w.heap.size ≤ Y; omega) _⟩
def PtRel (w : World) (R Y : Nat) (time : Int) (xs : Array Value) (s : Nat) (d : List Int) (n : List NNode) (i : Value) (wr : World) : Prop :=
  ∃ (k : Nat) (vd vn : Value), k ≤ d.length ∧ i = .int .i64 k ∧ PtAt w R Y time xs vd vn ((((d.zip n).take k).filter (fun q => hasB s q.1)).map Prod.fst) ((((d.zip n).take k).filter (fun q => hasB s q.1)).map Prod.snd) wr
set_option maxRecDepth 100000 in
set_option maxHeartbeats 400000 in
theorem wPart (w : World) (time : Int) (A1 : Option Addr) (c1 : Nat) (d : List Int) (A2 : Option Addr) (c2 : Nat) (n : List NNode) (h1 : Kd.C (Kd.int .i64) w A1 d.length d) (h2 : d.length ≤ c1) (h3 : Kd.C k92 w A2 n.length n) (h4 : n.length ≤ c2)
    (A3 : Option Addr) (c3 : Nat) (l : List Int) (h5 : Kd.C (Kd.int .i64) w A3 l.length l) (h6 : l.length ≤ c3) (hS : Sns n) :
    Calls Tryd.prog 25 #[.agg #[.int .i64 time, .slice A1 d.length c1, .slice A2 n.length c2], .slice A3 l.length c3] w fun e w' =>
      ∃ v1 v2, e = .returned (.agg #[.int .i64 (partT time d n), v1, v2]) ∧ (Kd.int .i64).R 3 w' w.heap.size Any_ v1 (partD (ofL 0 l) time d n) ∧ k92.R 92 w' w.heap.size Any_ v2 (partN (ofL 0 l) time d n) ∧ Below w.heap.size w w' := by
  have hm1 := h1.2.1
  have hm3 := h3.2.1
  have hbx : ∀ o o', Quiet w ((w.alloc o).alloc o') := fun o o' => by (repeat (first | exact Fr.refl _ _ | assumption | (refine Fr.quiet ?_ (by assumption)) | refine Fr.quiet ?_ HF.out | refine Fr.quiet ?_ HF2.out | refine Fr.drew ?_ | refine Fr.drewN ?_ _ | refine Fr.alloc ?_ _ | refine Fr.setCell ?_ (.inr (by first | omega | (simp; done) | (simp; omega))) _))
  have CH := Lib.hid (fun o o' => wChk ((w.alloc o).alloc o') time A1 c1 d A2 c2 n (Kd.C_below h1 (hbx o o').bel) h2 (Kd.C_below h3 (hbx o o').bel) h4)
  have OF := Lib.hid (fun wz (q : Quiet w wz) => wOf wz A3 c3 l (Kd.C_below h5 q.bel) h6)
  have HD := Lib.hid h1; have HN := Lib.hid h3; have HS := Lib.hid hS
  clear h1 h3 h5 hS
  have HX0 : Hid (Blk ((w.alloc (.cells #[.int .i64 time, .slice A1 d.length c1, .slice A2 n.length c2] 25)).alloc (.cells #[.int .i64 0, .slice none 0 0, .slice none 0 0] 25)) w.heap.size #[.int .i64 time, .slice A1 d.length c1, .slice A2 n.length c2] 25) := Lib.hid ((Blk.new _ _ _).alloc _)
  have HR0 : Hid (Blk ((w.alloc (.cells #[.int .i64 time, .slice A1 d.length c1, .slice A2 n.length c2] 25)).alloc (.cells #[.int .i64 0, .slice none 0 0, .slice none 0 0] 25)) (w.heap.size + 1) #[.int .i64 0, .slice none 0 0, .slice none 0 0] 25) := Lib.hid (by
    have q := Blk.new (w.alloc (.cells #[.int .i64 time, .slice A1 d.length c1, .slice A2 n.length c2] 25)) #[.int .i64 0, .slice none 0 0, .slice none 0 0] 25
    simpa using q)
  by_cases c0 : chkR time d n = 0
  · have HLn := Lib.hid (chkR_zero _ _ _ c0).1
    have hdb : d.length ≤ 1000000 := by have := HLn.out; have := HS.out.1; omega
    have ET : Hid (partT time d n = time) := Lib.hid (if_pos c0)
    have ED : Hid (partD (ofL 0 l) time d n = (partZ (ofL 0 l) d n).map Prod.fst) := Lib.hid (if_pos c0)
    have EN : Hid (partN (ofL 0 l) time d n = (partZ (ofL 0 l) d n).map Prod.snd) := Lib.hid (if_pos c0)
    have hsl := ofL_lt l 0 (by decide)
    have EZ : Hid (partZ (ofL 0 l) d n = ((d.zip n).take d.length).filter fun q => hasB (ofL 0 l) q.1) := Lib.hid (by have := HLn.out; rw [List.take_of_length_le (by simp; omega)]; rfl)
    rw [c0] at CH
    generalize ofL 0 l = s at *
    clear c0
    go_enter Tryd.func25, Tryd.ntmps25
    go_wp2_with fail
    refine (CH.out _ _).mono ?_
    rintro e w1 ⟨rfl, hq1⟩
    have HX1 := Lib.hid (Fr.blk hq1 HX0.out (fun x => x))
    have HR1 := Lib.hid (Fr.blk hq1 HR0.out (fun x => x))
    have hR1 : w.heap.size + 1 < w1.heap.size := HR1.out.lt
    have HQ1 := Lib.hid ((hbx _ _).quiet hq1)
    have x0 := HX1.out.cell 0; have x1 := HX1.out.cell 1; have x2 := HX1.out.cell 2
    simp at x0 x1 x2
    have HQd : Hid (Quiet w w1.drew) := Lib.hid HQ1.out.drew
    have HQa : Hid (∀ o, Quiet w (w1.alloc o).drew) := Lib.hid (fun o => (HQ1.out.alloc o).drew)
    have hX1 : w.heap.size < w1.heap.size := HX1.out.lt
    have xa : ∀ o, (w1.alloc o).cell? ⟨w.heap.size, 0, none⟩ = some (.int .i64 time) := fun o => by simpa using (HX1.out.alloc o).cell 0
    clear hq1 HX0 HR0
    have HP0 : Hid (PtAt w (w.heap.size + 1) w1.heap.size time #[.int .i64 time, .slice A1 d.length c1, .slice A2 n.length c2] (.slice none 0 0) (.slice none 0 0) [] [] (w1.alloc (.cells #[.int .i64 time, .slice none 0 0, .slice none 0 0] 25)).drew) := Lib.hid ⟨(HX1.out.alloc _).drew, (HR1.out.alloc _).drew, (Blk.new _ _ _).drew, Kd.R_nil _ _ _ _ _, Kd.R_nil _ _ _ _ _, ((Quiet.bel HQ1.out).alloc HQ1.out.size _).drew⟩
    go_wp2_with fail
    go_cut [5, 6] (fun p q wx => p = .pointer (some ⟨w1.heap.size, 0, none⟩) ∧ q = .int .u64 (s : Nat) ∧ PtAt w (w.heap.size + 1) w1.heap.size time #[.int .i64 time, .slice A1 d.length c1, .slice A2 n.length c2] (.slice none 0 0) (.slice none 0 0) [] [] wx)
    case first =>
      go_region_law (first
        | (go_simp; go_at_call 57; refine (OF.out _ (by first | exact HQd.out | exact HQa.out _)).mono ?_; rintro e w' ⟨rfl, rfl⟩))
      all_goals
        go_wp2_with fail
        go_meet
        exact ⟨rfl, rfl, HP0.out⟩
    case rest =>
      obtain ⟨rfl, rfl, hP⟩ := hcut
      generalize w1.heap.size = Y at *
      have HP := Lib.hid hP
      have z0 := hP.x.cell 0; have z1 := hP.x.cell 1; have z2 := hP.x.cell 2
      simp at z0 z1 z2
      clear hP HP0 xa x0 x1 x2 HQd HQa HX1 HR1 HQ1 CH OF
      go_wp2
      go_loopw [21] (fun i wr => PtRel w (w.heap.size + 1) Y time #[.int .i64 time, .slice A1 d.length c1, .slice A2 n.length c2] s d n i wr) (fun i _ => d.length - (intOf i).toNat)
      case atStart => exact ⟨0, _, _, Nat.zero_le _, rfl, HP.out⟩
      case round =>
        obtain ⟨k, vd, vn, hk, rfl, hP⟩ := hrel
        obtain ⟨zk, hzk⟩ : ∃ z, z = ((d.zip n).take k).filter (fun q => hasB s q.1) := ⟨_, rfl⟩
        rw [← hzk] at hP
        have hzl : zk.length ≤ k := by rw [hzk]; exact Nat.le_trans (List.length_filter_le _ _) (List.length_take_le _ _)
        obtain ⟨dd, hdd⟩ : ∃ z, z = zk.map Prod.fst := ⟨_, rfl⟩
        obtain ⟨nn, hnn⟩ : ∃ z, z = zk.map Prod.snd := ⟨_, rfl⟩
        rw [← hdd, ← hnn] at hP
        have hdl : dd.length ≤ k := by rw [hdd, List.length_map]; exact hzl
        have hnl : nn.length ≤ k := by rw [hnn, List.length_map]; exact hzl
        obtain ⟨Ad, cd, rfl⟩ := Kd.R_slice hP.od
        obtain ⟨An, cn, rfl⟩ := Kd.R_slice hP.on
        have HZ := Lib.hid hzk; have HDD := Lib.hid hdd; have HNN := Lib.hid hnn; have HP2 := Lib.hid hP
        have y0 := hP.y.cell 0; have y1 := hP.y.cell 1; have y2 := hP.y.cell 2
        have v0 := hP.x.cell 0; have v1 := hP.x.cell 1; have v2 := hP.x.cell 2
        simp at y0 y1 y2 v0 v1 v2
        by_cases hlt : k < d.length
        · obtain ⟨ad, hA, h0⟩ := at_ints (Kd.C_below HD.out hP.b) k hlt
          have ST := Lib.hid (part_step s d n k hlt HLn.out)
          have hkn : k < n.length := by have := HLn.out; omega
          have hrd : rd_T92 n (k : Int) = n.getD k z92 := rfl
          have hSx := HS.out.2 _ (getD_mem z92 n k hkn)
          generalize d.getD k 0 = t at *
          generalize n.getD k z92 = x at *
          subst hA
          have HRD := Lib.hid hrd; have HSx := Lib.hid hSx
          clear hP hzk hdd hnn hzl z0 z1 z2 HP hrd hSx
          cases hb : hasB s t
          · rw [hb] at ST
            have ST2 := Lib.hid ST.out
            go_wp2_with (go_at_call 62; refine (wHas _ _ hsl _).mono ?_; rintro e w' ⟨rfl, rfl⟩)
            go_roundw
            case rel =>
              refine ⟨k + 1, .slice Ad dd.length cd, .slice An nn.length cn, by omega, by go_num, ?_⟩
              rw [ST.out, ← HZ.out]
              simp only [Bool.false_eq_true, if_false, List.append_nil]
              rw [← HDD.out, ← HNN.out]
              exact HP2.out
            case measure => simp [intOf]; omega
          · rw [hb, if_pos rfl] at ST
            have hRY : w.heap.size + 1 ≠ Y := by omega
            have hYY : w.heap.size < Y := by omega
            go_wp2_with (first | (go_at_call 62; refine (wHas _ _ hsl _).mono ?_; rintro e w' ⟨rfl, rfl⟩) | (at_builtin; refine rApp (Kd.int .i64) (w0 := w) w.heap.size rfl _ _ 22 3 (.int .i64 0) 8 rfl Tryd.underlying22 infoInt rfl (by decide) (by decide) (.slice Ad dd.length cd) dd t _ rfl rfl rfl (by intro q hq; simp [Kd.int, Kd.scalar] at hq) HP2.out.od HP2.out.b HP2.out.b.size (by omega) ?_; intro v1 w4 ho _ hg _; obtain ⟨de, hde⟩ : ∃ z, z = dd ++ [t] := ⟨_, rfl⟩; rw [← hde] at ho; obtain ⟨Ae, ce, hve⟩ := Kd.R_slice ho; subst hve; have HDE := Lib.hid hde; have HPg := Lib.hid (PtAt.growD HP2.out hRY hYY hg ho); have q2 := grown_blk hg HP2.out.y (own_not_blk HP2.out.y (Kd.R_own HP2.out.od).choose_spec (by decide)); have qc := q2.cell 1; have qf := q2.free 1; simp at qc; clear hde ho hg q2))
            generalize w4.setCell ⟨Y, 1, none⟩ (.slice Ae de.length ce) = w5 at *
            obtain ⟨bd, B1, d1, hB, u0, u1, hl1, hC1⟩ := at_T92 (Kd.C_below HN.out HPg.out.b) k (by omega) (by omega)
            rw [HRD.out] at u0 u1 hl1 hC1
            simp only [Int.toNat_natCast] at u0 u1
            subst hB
            have HC1 := Lib.hid hC1
            have p2 := HPg.out.y.cell 2; have r2 := HPg.out.x.cell 2
            simp at p2 r2
            have HN5 : Hid (Quiet w5 w5.drew) := Lib.hid (Fr.refl _ _).drew
            have hz5 : w.heap.size ≤ w5.drew.heap.size := HPg.out.b.size
            clear hC1 y0 y1 y2 v0 v1 v2 qc qf
            go_region_law (first
              | (go_simp; go_at_call 68; refine (wClone _ x B1 d1 (Kd.C_below HC1.out (Quiet.bel HN5.out)) hl1 HSx.out).mono ?_; rintro e w6 ⟨v6, rfl, hr6, hb6⟩; obtain ⟨A6, c6, hv6⟩ := Kd.R_slice hr6; subst hv6; have HP6 := Lib.hid (HPg.out.quiet (HN5.out.quiet (Quiet.of hb6))); have k2 := HP6.out.y.cell 2; simp at k2; have k2a : ∀ o, (w6.alloc o).cell? ⟨Y, 2, none⟩ = some (.slice An nn.length cn) := (fun o => by simpa using (HP6.out.y.alloc o).cell 2); have hY6 : Y < w6.heap.size := HP6.out.y.lt; have HR6 := Lib.hid hr6; clear hr6 hb6)
              | (have hq7 := HR6.out; refine rAppStep k92 (w0 := w) w.heap.size rfl _ _ 23 92 _ 32 rfl Tryd.underlying23 infoNode rfl (by decide) (by decide) (.slice An nn.length cn) nn x _ rfl rfl (k92_mkM _ _ _ x (Kd.R_lower HR6.out hz5)) (by decide) HP6.out.on HP6.out.b HP6.out.b.size (by omega) ?_; intro v7 w7 ho _ hg _; obtain ⟨ne, hne⟩ : ∃ z, z = nn ++ [x] := ⟨_, rfl⟩; rw [← hne] at ho; obtain ⟨A7, c7, hv7⟩ := Kd.R_slice ho; subst hv7; have HNE := Lib.hid hne; have HP7 := Lib.hid (PtAt.growN HP6.out hRY hYY hg ho); have q2 := grown_blk hg HP6.out.y (own_not_blk HP6.out.y (Kd.R_own HP6.out.on).choose_spec (by decide)); have qc := q2.cell 2; have qf := q2.free 2; simp at qc; clear hne ho hg q2))
            all_goals
              go_wp2_with fail
              go_roundw
              case rel =>
                refine ⟨k + 1, .slice Ae de.length ce, .slice A7 ne.length c7, by omega, by go_num, ?_⟩
                rw [ST.out, ← HZ.out, List.map_append, List.map_append, ← HDD.out, ← HNN.out, List.map_cons, List.map_cons, List.map_nil, List.map_nil, ← HDE.out, ← HNE.out]
                exact HP7.out
              case measure => simp [intOf]; omega
        · have hzz : partZ s d n = zk := by rw [EZ.out, HZ.out, show k = d.length by omega]
          have HZZ := Lib.hid hzz
          have r0 := hP.r.cell 0; have r1 := hP.r.cell 1; have r2 := hP.r.cell 2
          have f0 := hP.r.free 0; have f1 := hP.r.free 1; have f2 := hP.r.free 2
          simp at r0 r1 r2
          clear hP hzk hdd hnn hzz z0 z1 z2 HP
          go_wp2
          refine bodyPost_ret (results_cell_row rfl _ _ (w.heap.size + 1) 25 #[.int .i64 time, .slice Ad dd.length cd, .slice An nn.length cn] (0, 0) _ rfl ?blk Tryd.underlying25 rfl (by kernel_rfl)) rfl ?_
          case blk =>
            have q := ((HP2.out.r.set 0 (.int .i64 time)).set 1 (.slice Ad dd.length cd)).set 2 (.slice An nn.length cn)
            simp at q
            exact q
          refine ⟨.slice Ad dd.length cd, .slice An nn.length cn, by rw [ET.out], ?_, ?_, ?_⟩
          · rw [ED.out, HZZ.out, ← HDD.out]
            exact Kd.R_set (Kd.R_set (Kd.R_set HP2.out.od HP2.out.r (by decide) 0 (.int .i64 time)) (HP2.out.r.set 0 (.int .i64 time)) (by decide) 1 (.slice Ad dd.length cd)) ((HP2.out.r.set 0 (.int .i64 time)).set 1 (.slice Ad dd.length cd)) (by decide) 2 (.slice An nn.length cn)
          · rw [EN.out, HZZ.out, ← HNN.out]
            exact Kd.R_set (Kd.R_set (Kd.R_set HP2.out.on HP2.out.r (by decide) 0 (.int .i64 time)) (HP2.out.r.set 0 (.int .i64 time)) (by decide) 1 (.slice Ad dd.length cd)) ((HP2.out.r.set 0 (.int .i64 time)).set 1 (.slice Ad dd.length cd)) (by decide) 2 (.slice An nn.length cn)
          · exact ((HP2.out.b.setCell (by show w.heap.size ≤ w.heap.size + 1; omega) _).setCell (by show w.heap.size ≤ w.heap.size + 1; omega) _).setCell (by show w.heap.size ≤ w.heap.size + 1; omega) _
  · have ET : Hid (partT time d n = 0) := Lib.hid (if_neg c0)
    have ED : Hid (partD (ofL 0 l) time d n = []) := Lib.hid (if_neg c0)
    have EN : Hid (partN (ofL 0 l) time d n = []) := Lib.hid (if_neg c0)
    have c1' : (chkR time d n != 0) = true := by simpa using c0
    clear c0
    go_enter Tryd.func25, Tryd.ntmps25
    go_wp2_with fail
    refine (CH.out _ _).mono ?_
    rintro e w1 ⟨rfl, hq1⟩
    have HR1 := Lib.hid (Fr.blk hq1 HR0.out (fun x => x))
    have r0 := HR1.out.cell 0; have r1 := HR1.out.cell 1; have r2 := HR1.out.cell 2
    have f0 := HR1.out.free 0; have f1 := HR1.out.free 1; have f2 := HR1.out.free 2
    simp at r0 r1 r2
    have HQ1 := Lib.hid ((hbx _ _).quiet hq1)
    clear hq1
    go_wp2
    refine bodyPost_ret (results_cell_row rfl _ _ (w.heap.size + 1) 25 #[.int .i64 0, .slice none 0 0, .slice none 0 0] (0, 0) _ rfl ?blk Tryd.underlying25 rfl (by kernel_rfl)) rfl ?_
    case blk =>
      have q := ((HR1.out.set 0 (.int .i64 0)).set 1 (.slice none 0 0)).set 2 (.slice none 0 0)
      simp at q
      exact q
    refine ⟨.slice none 0 0, .slice none 0 0, by rw [ET.out], ?_, ?_, ?_⟩
    · rw [ED.out]; exact Kd.R_nil _ _ _ _ _
    · rw [EN.out]; exact Kd.R_nil _ _ _ _ _
    · exact (((Quiet.bel HQ1.out).setCell (by show w.heap.size ≤ w.heap.size + 1; omega) _).setCell (by show w.heap.size ≤ w.heap.size + 1; omega) _).setCell (by show w.heap.size ≤ w.heap.size + 1; omega) _
end Go.Proofs.YtadepdeckapgcaaDoor
end
