/- LawTraceParses, part 7: what the proof stands on (merged by wip/shake.py out of the session's texts and of what the print wrote for this claim). -/
import Derived.Test.YtadepdeckapgcaaDoorZpF

section
namespace Go.Proofs.YtadepdeckapgcaaDoor.PRb
open Go.RowKit Go.Proofs.YtadepdeckapgcaaDoor.Orc Go.Proofs.YtadepdeckapgcaaDoor.PTr Go.Proofs.YtadepdeckapgcaaDoorW.PrintWords Go.Proofs.YtadepdeckapgcaaDoorW.PrintLast Go.Proofs.YtadepdeckapgcaaDoorW.PrintMore
attribute [local go_sem] max2_int min2_int max_two min_two max_three min_three max_four min_four
set_option linter.unusedVariables false
set_option linter.unusedSimpArgs false
mutual
def logjamref41_read.j0 : Nat → List ByteArray → Bool → Option (Int × Int × Int × Int × Bool)
 | 0, _, _ => none
 | k + 1, x4, x26 => if x26 = true then (none) else (if (x4.length : Int) < 3 then (none) else (if 0 < (x4.length : Int) then ((logjamref41_number.f k (rdOf ByteArray.empty x4 0)).bind fun bt107 => (if 1 < (x4.length : Int) then (if (rdOf ByteArray.empty x4 1).toList = ([111, 112] : List UInt8) then (logjamref41_read.j1 k x4 bt107.2 ((x4.length : Int) == 4) 0 bt107.1 0 0) else (logjamref41_read.j1 k x4 bt107.2 false 0 bt107.1 0 0)) else (none))) else (none)))
def logjamref41_read.j1 : Nat → List ByteArray → Bool → Bool → Int → Int → Int → Int → Option (Int × Int × Int × Int × Bool)
 | 0, _, _, _, _, _, _, _ => none
 | k + 1, x4, x8, x58, x110000, x110001, x110002, x110003 => if x58 = true then (none) else (if 1 < (x4.length : Int) then (if (rdOf ByteArray.empty x4 1).toList = ([101, 110, 100] : List UInt8) then (logjamref41_read.j2 k x4 x8 ((x4.length : Int) == 4) x110000 x110001 x110002 x110003) else (logjamref41_read.j2 k x4 x8 false x110000 x110001 x110002 x110003)) else (none))
def logjamref41_read.j2 : Nat → List ByteArray → Bool → Bool → Int → Int → Int → Int → Option (Int × Int × Int × Int × Bool)
 | 0, _, _, _, _, _, _, _ => none
 | k + 1, x4, x8, x92, x110000, x110001, x110002, x110003 => if x92 = true then (none) else (if 1 < (x4.length : Int) then (if (rdOf ByteArray.empty x4 1).toList = ([98, 108, 111, 99, 107] : List UInt8) then (logjamref41_read.j3 k x4 x8 ((x4.length : Int) == 3) x110000 x110001 x110002 x110003) else (logjamref41_read.j3 k x4 x8 false x110000 x110001 x110002 x110003)) else (none))
def logjamref41_read.j3 : Nat → List ByteArray → Bool → Bool → Int → Int → Int → Int → Option (Int × Int × Int × Int × Bool)
 | 0, _, _, _, _, _, _, _ => none
 | k + 1, x4, x8, x126, x110000, x110001, x110002, x110003 => if x126 = true then (if 2 < (x4.length : Int) then ((logjamref06_Of.f k (rdOf ByteArray.empty x4 2)).bind fun t114 => (if x8 = true then (some (3, x110001, t114, x110003, decide (t114 ≥ 0))) else (some (3, x110001, t114, x110003, false)))) else (none)) else (if 2 < (x4.length : Int) then ((logjamref41_number.f k (rdOf ByteArray.empty x4 2)).bind fun bt116 => (if 1 < (x4.length : Int) then (if (rdOf ByteArray.empty x4 1).toList = ([111, 117, 116] : List UInt8) then (logjamref41_read.j4 k x4 x8 bt116.2 2 x110001 bt116.1 x110003) else (logjamref41_read.j4 k x4 x8 bt116.2 x110000 x110001 bt116.1 x110003)) else (none))) else (none))
def logjamref41_read.j4 : Nat → List ByteArray → Bool → Bool → Int → Int → Int → Int → Option (Int × Int × Int × Int × Bool)
 | 0, _, _, _, _, _, _, _ => none
 | k + 1, x4, x8, x15, x110000, x110001, x110002, x110003 => if 1 < (x4.length : Int) then (if (rdOf ByteArray.empty x4 1).toList = ([119, 97, 107, 101] : List UInt8) then (logjamref41_read.j5 k x4 x8 x15 4 x110001 x110002 x110003) else (logjamref41_read.j5 k x4 x8 x15 x110000 x110001 x110002 x110003)) else (none)
def logjamref41_read.j5 : Nat → List ByteArray → Bool → Bool → Int → Int → Int → Int → Option (Int × Int × Int × Int × Bool)
 | 0, _, _, _, _, _, _, _ => none
 | k + 1, x4, x8, x15, x110000, x110001, x110002, x110003 => if 1 < (x4.length : Int) then (if (rdOf ByteArray.empty x4 1).toList = ([97, 98, 111, 114, 116] : List UInt8) then (logjamref41_read.j6 k x4 x8 x15 7 x110001 x110002 x110003) else (logjamref41_read.j6 k x4 x8 x15 x110000 x110001 x110002 x110003)) else (none)
def logjamref41_read.j6 : Nat → List ByteArray → Bool → Bool → Int → Int → Int → Int → Option (Int × Int × Int × Int × Bool)
 | 0, _, _, _, _, _, _, _ => none
 | k + 1, x4, x8, x15, x110000, x110001, x110002, x110003 => if x8 = true then (if x15 = true then (if (x4.length : Int) = 3 then (logjamref41_read.j7 k (decide (x110000 > 0)) x110000 x110001 x110002 x110003) else (logjamref41_read.j7 k false x110000 x110001 x110002 x110003)) else (logjamref41_read.j7 k false x110000 x110001 x110002 x110003)) else (logjamref41_read.j7 k false x110000 x110001 x110002 x110003)
def logjamref41_read.j7 : Nat → Bool → Int → Int → Int → Int → Option (Int × Int × Int × Int × Bool)
 | 0, _, _, _, _, _ => none
 | k + 1, x3, x102000, x102001, x102002, x102003 => some (x102000, x102001, x102002, x102003, x3)
end
def logjamref41_read.f (k : Nat) (a0 : ByteArray) : Option (Int × Int × Int × Int × Bool) := (logjamref41_split.f k a0).bind fun t102 => (if (t102.length : Int) = 2 then (if 0 < (t102.length : Int) then (logjamref41_read.j0 k t102 ((rdOf ByteArray.empty t102 0).toList == ([116, 105, 99, 107] : List UInt8))) else (none)) else (logjamref41_read.j0 k t102 false))
def logjamref41_read.T19 : Bool × List (List Nat × List Nat) := (true, [([], []), ([], []), ([1], [1]), ([2], [2]), ([3, 2], [2, 3]), ([4, 2], [2, 4]), ([2, 5], [2, 5]), ([0, 2, 0], [0]), ([6, 7, 0, 1, 2, 3, 4, 5, 6, 7], [6])])
def logjamref41_read.B19 : List Nat := [0, 0, 2, 6, 14, 30, 62, 7, 255]
theorem logjamref41_read.tab19 : rtab .any (opsOf Tryd.f98 19) = logjamref41_read.T19 := by kernel_rfl
theorem logjamref41_read.bits19 : waitsOk logjamref41_read.T19.2 logjamref41_read.B19 = true := by kernel_rfl
def logjamref41_read.T28 : Bool × List (List Nat × List Nat) := (true, [([], []), ([], []), ([1], [1]), ([2], [2]), ([2, 3], [2, 3]), ([4, 2], [4]), ([5], [5]), ([6, 5], [5, 6]), ([7, 5], [5, 7]), ([5, 8], [5, 8]), ([9, 5], [9]), ([10], [10]), ([11, 10], [10, 11]), ([12, 10], [10, 12]), ([10, 13], [10, 13]), ([0, 10, 0], [0]), ([14, 15, 0, 1, 2, 3, 4, 5, 6, 7, 8, 9, 10, 11, 12, 13, 14, 15], [14])])
def logjamref41_read.B28 : List Nat := [0, 0, 2, 6, 14, 30, 62, 126, 254, 510, 1022, 2046, 4094, 8190, 16382, 2047, 65535]
theorem logjamref41_read.tab28 : rtab .any (opsOf Tryd.f98 28) = logjamref41_read.T28 := by kernel_rfl
theorem logjamref41_read.bits28 : waitsOk logjamref41_read.T28.2 logjamref41_read.B28 = true := by kernel_rfl
set_option maxHeartbeats 8000000 in
set_option maxRecDepth 100000 in
theorem logjamref41_read.calls (k : Nat) (a0 : ByteArray) (r1 : Int) (r2 : Int) (r3 : Int) (r4 : Int) (r5 : Bool) (w : World) (h : logjamref41_read.f k a0 = some (r1, r2, r3, r4, r5)) :
  Calls Tryd.prog 98 #[.string a0] w fun e w' => e = .returned (.tuple #[.agg #[.int .i64 r1, .int .i64 r2, .int .i64 r3, .int .i64 r4], .bool r5]) ∧ Below w.heap.size w w' := by
 have hu72 := Tryd.underlying72
 have HB := Aside0.mk (Below.refl w.heap.size w)
 have H : ((logjamref41_split.f k a0).bind fun t102 => (if (t102.length : Int) = 2 then (if 0 < (t102.length : Int) then (logjamref41_read.j0 k t102 ((rdOf ByteArray.empty t102 0).toList == ([116, 105, 99, 107] : List UInt8))) else (none)) else (logjamref41_read.j0 k t102 false))) = some (r1, r2, r3, r4, r5) := h
 clear h
 replace H := Option.bind_eq_some_iff.mp H
 obtain ⟨t102, A20, H⟩ := H
 replace H : (if (t102.length : Int) = 2 then (if 0 < (t102.length : Int) then (logjamref41_read.j0 k t102 ((rdOf ByteArray.empty t102 0).toList == ([116, 105, 99, 107] : List UInt8))) else (none)) else (logjamref41_read.j0 k t102 false)) = some (r1, r2, r3, r4, r5) := H
 have A2 := Aside0.mk A20
 clear A20
 have HC3 := Aside0.mk H
 clear H
 go_enter Tryd.func98, Tryd.ntmps98
 go_upto_region 2 with (first | ((with_reducible refine gate_dst (N := 2) rfl ?_); (try (refine gate_guard (by rfl) ?_; dsimp only)); refine box_event ?hg (N := 2) ?hd (cs := #[.int .i64 0, .int .i64 0, .int .i64 0, .int .i64 0]) (t := 72) ?hr ?_; (case hd => rfl); (case hg => rfl); (case hr => first | (go_simp; done) | (go_simp; rfl)); intro gb101 hg w4 hbox hb; have n0_ := Aside0.mk (below_step (by repeat (first | (with_reducible first | exact HB.out | apply below_alloc | apply pw_below_drewN | apply below_drew1) | exact HB.out)) hb); have n1_ := Aside0.mk (hbox); have n2_ := Aside0.mk ((by rw [hg]; exact (below_size (by repeat (first | (with_reducible first | exact HB.out | apply below_alloc | apply pw_below_drewN | apply below_drew1) | exact HB.out))) : w.heap.size ≤ gb101)); have n3_ := Aside0.mk ((by rw [hg]; exact (below_size (by repeat (first | (with_reducible first | exact HB.out | apply below_alloc | apply pw_below_drewN | apply below_drew1) | exact HB.out))) : w.heap.size ≤ gb101)); clear HB; have HB := n0_; have BK101 := n1_; have GW101 := n2_; have GE101 := n3_; clear n0_ n1_ n2_ n3_; clear hb hbox hg) | ((with_reducible refine gate_callee (f := 136) rfl ?_); refine goesL_ (some 17) rfl rfl Tryd.func136 (by kernel_rfl) rfl #[.string a0] rfl (by (try simp only [List.map_toArray, List.map_cons, List.map_nil]); first | done | rfl | (simp only [List.length_drop, List.length_take]; rfl)) ?_; (with_reducible refine (logjamref41_split.calls k a0 t102 _ A2.out).mono ?_); rintro e w5 ⟨v103, rfl, ho0, hb⟩; refine ⟨_, rfl, ?_⟩; have n0_ := Aside0.mk (Kd.R_lower ho0 (below_size (by repeat (first | (with_reducible first | exact HB.out | apply below_alloc | apply pw_below_drewN | apply below_drew1 | refine below_set ?_ GE101.out) | exact HB.out)))); have n1_ := Aside0.mk (blk_below (g := gb101) (o := .cells #[.int .i64 0, .int .i64 0, .int .i64 0, .int .i64 0] 72 (0, 0)) (by (with_reducible repeat (first | refine blk_drewN ?_ _ | refine blk_drew ?_ | refine blk_alloc ?_ _)); exact BK101.out) hb); have n2_ := Aside0.mk (below_step (by repeat (first | (with_reducible first | exact HB.out | apply below_alloc | apply pw_below_drewN | apply below_drew1 | refine below_set ?_ GE101.out) | exact HB.out)) hb); clear BK101; clear HB; have HO104 := n0_; have BK101 := n1_; have HB := n2_; clear n0_ n1_ n2_; (try clear hb); (try clear hb2); (try clear hk); (try clear hi); (try clear ho0)))
 (try simp only [Act.put, List.setIfInBounds_toArray, List.set_cons_zero, List.set_cons_succ])
 go_cut [26] (fun v26 wc => ∃ (kq : Nat) (x26_2 : Bool), v26 = .bool x26_2 ∧ Aside0 (logjamref41_read.j0 kq t102 x26_2 = some (r1, r2, r3, r4, r5)) ∧ Aside0 (kq ≤ k) ∧ Aside0 (Kd.R Kd.string 9 wc w.heap.size (fun _ => True) v103 t102) ∧ Aside0 (wc.heap[gb101]? = some (.cells #[.int .i64 0, .int .i64 0, .int .i64 0, .int .i64 0] 72 (0, 0))) ∧ Aside0 (Below w.heap.size w wc))
 case first => as_aux_lemma =>
  have H := HC3.out
  clear HC3
  by_cases c6 : (t102.length : Int) = 2
  ·rw [if_pos c6] at H
   have c6b0 : ((t102.length : Int) == 2) = true := beq_iff_eq.mpr c6
   have c6b1 : ((t102.length : Int) != 2) = false := bne_eq_false_iff_eq.mpr c6
   clear c6
   (first | rw [c6b0] | (simp only [i64_w, i32_w]; rw [c6b0]) | skip)
   by_cases c7 : 0 < (t102.length : Int)
   ·rw [if_pos c7] at H
    have c7b0 : decide (0 < (t102.length : Int)) = true := decide_eq_true c7
    have c7b1 : decide (0 < t102.length) = true := decide_eq_true (by omega)
    clear c7
    as_aux_lemma =>
     have H' := Aside0.mk H
     clear H
     obtain ⟨Ao8, co8, eo8⟩ := Kd.R_slice HO104.out
     subst eo8
     have p105 : 0 ≤ (0 : Int) := (by omega)
     have q105 : 0 < (t102.length : Int) := of_decide_eq_true (by first | (with_reducible assumption) | assumption)
     obtain ⟨ad105, e105, hx105_0⟩ := Kd.at_string (Kd.R_reads' HO104.out).2.2 0 p105 q105
     cases e105
     have qi105 : (0 < t102.length) = True := eq_true (by omega)
     (try rw [show ((0 : Int)).toNat = 0 from rfl] at hx105_0)
     (try rw [Addr.add_zero'] at hx105_0)
     replace p105 := eq_true p105
     replace q105 := eq_true q105
     go_wp2
     go_meet
     case rel => exact ⟨_, (((rdOf ByteArray.empty t102 0).toList == ([116, 105, 99, 107] : List UInt8))), (by first | rfl | (simp; done) | (simp only [emptyNe_, emptyEq_]; done) | (simp [*]; done)), H', ⟨by first | omega | exact Nat.le_refl _⟩, ⟨by (with_reducible repeat (first | apply Kd.R_alloc | apply Kd.R_drewN | apply Kd.R_drew)); exact HO104.out⟩, ⟨by (with_reducible repeat (first | refine blk_drewN ?_ _ | refine blk_drew ?_ | refine blk_alloc ?_ _)); exact BK101.out⟩, ⟨by repeat (first | (with_reducible first | exact HB.out | apply below_alloc | apply pw_below_drewN | apply below_drew1 | refine below_set ?_ GE101.out) | exact HB.out)⟩⟩
   ·rw [if_neg c7] at H
    exact absurd H (by simp)
  ·rw [if_neg c6] at H
   have c6b0 : ((t102.length : Int) == 2) = false := beq_eq_false_iff_ne.mpr c6
   have c6b1 : ((t102.length : Int) != 2) = true := bne_iff_ne.mpr c6
   (first | rw [c6b0] | (simp only [i64_w, i32_w]; rw [c6b0]) | skip)
   as_aux_lemma =>
    have H' := Aside0.mk H
    clear H
    obtain ⟨Ao9, co9, eo9⟩ := Kd.R_slice HO104.out
    subst eo9
    go_wp2
    go_meet
    case rel => exact ⟨_, (false), (by first | rfl | (simp; done) | (simp only [emptyNe_, emptyEq_]; done) | (simp [*]; done)), H', ⟨by first | omega | exact Nat.le_refl _⟩, ⟨by (with_reducible repeat (first | apply Kd.R_alloc | apply Kd.R_drewN | apply Kd.R_drew)); exact HO104.out⟩, ⟨by (with_reducible repeat (first | refine blk_drewN ?_ _ | refine blk_drew ?_ | refine blk_alloc ?_ _)); exact BK101.out⟩, ⟨by repeat (first | (with_reducible first | exact HB.out | apply below_alloc | apply pw_below_drewN | apply below_drew1 | refine below_set ?_ GE101.out) | exact HB.out)⟩⟩
 case rest => as_aux_lemma =>
  clear HC3; try clear c1; try clear p1; try clear q1; try clear hx1; try clear qi1; try clear p2; try clear c6; try clear c6b0; try clear c6b1; try clear c7; try clear c7b0; try clear c7b1; try clear c9; try clear hx105_0; try clear p105; try clear q105
  obtain ⟨kq, x26_2, rfl, HA, HJ2, HO_4, BK101, HB⟩ := hcut
  cases kq with
  | zero => exact absurd HA.out (by simp [logjamref41_read.j0])
  | succ kj2 =>
   have H := HA.out
   clear HA
   simp only [logjamref41_read.j0] at H
   by_cases c10 : x26_2 = true
   ·subst c10
    have H1 : (none) = some (r1, r2, r3, r4, r5) := by rw [if_pos rfl] at H; exact H
    clear H
    have H := H1
    clear H1
    exact absurd H (by simp)
   ·replace c10 := Bool.eq_false_iff.mpr c10
    subst c10
    have H1 : (if (t102.length : Int) < 3 then (none) else (if 0 < (t102.length : Int) then ((logjamref41_number.f kj2 (rdOf ByteArray.empty t102 0)).bind fun bt107 => (if 1 < (t102.length : Int) then (if (rdOf ByteArray.empty t102 1).toList = ([111, 112] : List UInt8) then (logjamref41_read.j1 kj2 t102 bt107.2 ((t102.length : Int) == 4) 0 bt107.1 0 0) else (logjamref41_read.j1 kj2 t102 bt107.2 false 0 bt107.1 0 0)) else (none))) else (none))) = some (r1, r2, r3, r4, r5) := by rw [if_neg (show ¬ (false = true) by decide)] at H; exact H
    clear H
    have H := H1
    clear H1
    by_cases c11 : (t102.length : Int) < 3
    ·rw [if_pos c11] at H
     exact absurd H (by simp)
    ·rw [if_neg c11] at H
     have c11b0 : decide ((t102.length : Int) < 3) = false := decide_eq_false c11
     have c11b1 : decide (t102.length < 3) = false := decide_eq_false (by omega)
     clear c11
     by_cases c12 : 0 < (t102.length : Int)
     ·rw [if_pos c12] at H
      have c12b0 : decide (0 < (t102.length : Int)) = true := decide_eq_true c12
      have c12b1 : decide (0 < t102.length) = true := decide_eq_true (by omega)
      clear c12
      replace H := Option.bind_eq_some_iff.mp H
      obtain ⟨⟨t107, t108⟩, A130, H⟩ := H
      replace H : (if 1 < (t102.length : Int) then (if (rdOf ByteArray.empty t102 1).toList = ([111, 112] : List UInt8) then (logjamref41_read.j1 kj2 t102 t108 ((t102.length : Int) == 4) 0 t107 0 0) else (logjamref41_read.j1 kj2 t102 t108 false 0 t107 0 0)) else (none)) = some (r1, r2, r3, r4, r5) := H
      have A13 := Aside0.mk A130
      clear A130
      have HC14 := Aside0.mk H
      clear H
      obtain ⟨Ao15, co15, eo15⟩ := Kd.R_slice HO_4.out
      subst eo15
      have p106 : 0 ≤ (0 : Int) := (by omega)
      have q106 : 0 < (t102.length : Int) := of_decide_eq_true (by first | (with_reducible assumption) | assumption)
      obtain ⟨ad106, e106, hx106_0⟩ := Kd.at_string (Kd.R_reads' HO_4.out).2.2 0 p106 q106
      cases e106
      have qi106 : (0 < t102.length) = True := eq_true (by omega)
      (try rw [show ((0 : Int)).toNat = 0 from rfl] at hx106_0)
      (try rw [Addr.add_zero'] at hx106_0)
      replace p106 := eq_true p106
      replace q106 := eq_true q106
      go_upto_region 9 with (first | ((with_reducible refine gate_callee (f := 137) rfl ?_); refine goesL_ (some 45) rfl rfl Tryd.func137 (by kernel_rfl) rfl #[.string (rdOf ByteArray.empty t102 0)] rfl (by (try simp only [List.map_toArray, List.map_cons, List.map_nil]); first | done | rfl | (simp only [List.length_drop, List.length_take]; rfl)) ?_; (with_reducible refine (logjamref41_number.calls kj2 (rdOf ByteArray.empty t102 0) t107 t108 _ A13.out).mono ?_); rintro e w16 ⟨rfl, hb⟩; refine ⟨_, rfl, ?_⟩; have n0_ := Aside0.mk (Kd.R_below (by (with_reducible repeat (first | apply Kd.R_alloc | apply Kd.R_drewN | apply Kd.R_drew)); exact HO_4.out) hb); have n1_ := Aside0.mk (blk_below (g := gb101) (o := .cells #[.int .i64 0, .int .i64 0, .int .i64 0, .int .i64 0] 72 (0, 0)) (by (with_reducible repeat (first | refine blk_drewN ?_ _ | refine blk_drew ?_ | refine blk_alloc ?_ _)); exact BK101.out) hb); have n2_ := Aside0.mk (below_step (by repeat (first | (with_reducible first | exact HB.out | apply below_alloc | apply pw_below_drewN | apply below_drew1 | refine below_set ?_ GE101.out) | exact HB.out)) hb); clear HO_4; clear BK101; clear HB; have HO_4 := n0_; have BK101 := n1_; have HB := n2_; clear n0_ n1_ n2_; (try clear hb); (try clear hb2); (try clear hk); (try clear hi)) | ((with_reducible refine gate_dst (N := 9) rfl ?_); (try (refine gate_guard (by rfl) ?_; dsimp only)); refine box_event ?hg (N := 9) ?hd (cs := #[.int .i64 0, .int .i64 0, .int .i64 0, .int .i64 0]) (t := 72) ?hr ?_; (case hd => rfl); (case hg => rfl); (case hr => first | (go_simp; done) | (go_simp; rfl)); intro gb109 hg w17 hbox hb; have n0_ := Aside0.mk (Kd.R_below (by (with_reducible repeat (first | apply Kd.R_alloc | apply Kd.R_drewN | apply Kd.R_drew)); exact HO_4.out) hb); have n1_ := Aside0.mk (blk_below (g := gb101) (o := .cells #[.int .i64 0, .int .i64 0, .int .i64 0, .int .i64 0] 72 (0, 0)) (by (with_reducible repeat (first | refine blk_drewN ?_ _ | refine blk_drew ?_ | refine blk_alloc ?_ _)); exact BK101.out) hb); have n2_ := Aside0.mk (below_step (by repeat (first | (with_reducible first | exact HB.out | apply below_alloc | apply pw_below_drewN | apply below_drew1 | refine below_set ?_ GE101.out) | exact HB.out)) hb); have n3_ := Aside0.mk (hbox); have n4_ := Aside0.mk ((by rw [hg]; exact (below_size (by repeat (first | (with_reducible first | exact HB.out | apply below_alloc | apply pw_below_drewN | apply below_drew1 | refine below_set ?_ GE101.out) | exact HB.out))) : w.heap.size ≤ gb109)); have n5_ := Aside0.mk ((by rw [hg]; exact (below_size (by repeat (first | (with_reducible first | exact HB.out | apply below_alloc | apply pw_below_drewN | apply below_drew1 | refine below_set ?_ GE101.out) | exact HB.out))) : w.heap.size ≤ gb109)); have n6_ := Aside0.mk ((by rw [hg]; exact Nat.ne_of_lt (blk_lt (g := gb101) (o := .cells #[.int .i64 0, .int .i64 0, .int .i64 0, .int .i64 0] 72 (0, 0)) (by (with_reducible repeat (first | refine blk_drewN ?_ _ | refine blk_drew ?_ | refine blk_alloc ?_ _)); exact BK101.out)) : gb101 ≠ gb109)); have n7_ := Aside0.mk ((by rw [hg]; exact Nat.ne_of_gt (blk_lt (g := gb101) (o := .cells #[.int .i64 0, .int .i64 0, .int .i64 0, .int .i64 0] 72 (0, 0)) (by (with_reducible repeat (first | refine blk_drewN ?_ _ | refine blk_drew ?_ | refine blk_alloc ?_ _)); exact BK101.out)) : gb109 ≠ gb101)); clear HO_4; clear BK101; clear HB; have HO_4 := n0_; have BK101 := n1_; have HB := n2_; have BK109 := n3_; have GW109 := n4_; have GE109 := n5_; have NB101_109 := n6_; have NB109_101 := n7_; clear n0_ n1_ n2_ n3_ n4_ n5_ n6_ n7_; clear hb hbox hg; have hnb18 := NB109_101.out; have hnc18 := NB101_109.out; have hcz19_0 : w17.cell? ⟨gb109, 0, none⟩ = some (.int .i64 0) := (blk_cell BK109.out 0).trans rfl; have hcz19_1 : w17.cell? ⟨gb109, 1, none⟩ = some (.int .i64 0) := (blk_cell BK109.out 1).trans rfl; have hcz19_2 : w17.cell? ⟨gb109, 2, none⟩ = some (.int .i64 0) := (blk_cell BK109.out 2).trans rfl; have hcz19_3 : w17.cell? ⟨gb109, 3, none⟩ = some (.int .i64 0) := (blk_cell BK109.out 3).trans rfl; have hfz19_0 := blk_frozen BK109.out 0; have hfz19_1 := blk_frozen BK109.out 1; have hfz19_2 := blk_frozen BK109.out 2; have hfz19_3 := blk_frozen BK109.out 3))
      (try simp only [Act.put, List.setIfInBounds_toArray, List.set_cons_zero, List.set_cons_succ])
      go_cut [58] (fun v58 wc => ∃ (kq : Nat) (x58_13 : Bool), v58 = .bool x58_13 ∧ Aside0 (logjamref41_read.j1 kq t102 t108 x58_13 0 t107 0 0 = some (r1, r2, r3, r4, r5)) ∧ Aside0 (kq ≤ kj2) ∧ Aside0 (Kd.R Kd.string 9 wc w.heap.size (fun _ => True) (.slice (some ad106) t102.length co15) t102) ∧ Aside0 (wc.heap[gb101]? = some (.cells #[.int .i64 0, .int .i64 0, .int .i64 0, .int .i64 0] 72 (0, 0))) ∧ Aside0 (wc.heap[gb109]? = some (.cells #[.int .i64 0, .int .i64 t107, .int .i64 0, .int .i64 0] 72 (0, 0))) ∧ Aside0 (Below w.heap.size w wc))
      case first => as_aux_lemma =>
       have H := HC14.out
       clear HC14
       by_cases c20 : 1 < (t102.length : Int)
       ·rw [if_pos c20] at H
        have c20b0 : decide (1 < (t102.length : Int)) = true := decide_eq_true c20
        have c20b1 : decide (1 < t102.length) = true := decide_eq_true (by omega)
        clear c20
        (first | rw [c20b0] | (simp only [i64_w, i32_w]; rw [c20b0]) | skip)
        by_cases c21 : (rdOf ByteArray.empty t102 1).toList = ([111, 112] : List UInt8)
        ·rw [if_pos c21] at H
         have c21b0 : ((rdOf ByteArray.empty t102 1).toList == ([111, 112] : List UInt8)) = true := beq_iff_eq.mpr c21
         have c21b1 : ((rdOf ByteArray.empty t102 1).toList != ([111, 112] : List UInt8)) = false := bne_eq_false_iff_eq.mpr c21
         clear c21
         as_aux_lemma =>
          have H' := Aside0.mk H
          clear H
          have p110 : 0 ≤ (1 : Int) := (by omega)
          have q110 : 1 < (t102.length : Int) := of_decide_eq_true (by first | (with_reducible assumption) | assumption)
          obtain ⟨ad110, e110, hx110_0⟩ := Kd.at_string (Kd.R_reads' HO_4.out).2.2 1 p110 q110
          obtain rfl : ad106 = ad110 := (by injection e110)
          (try simp only [show (1 : Int).toNat = 1 from rfl, Nat.reduceMul, Nat.reduceEqDiff, Go.Addr.add, ↓reduceIte] at hx110_0)
          have qi110 : (1 < t102.length) = True := eq_true (by omega)
          (try rw [show ((1 : Int)).toNat = 1 from rfl] at hx110_0)
          have hn110_0 : ad106.block ≠ gb109 := Kd.own_blk (Kd.R_ne HO_4.out BK109.out (by decide))
          have hn110_1 : ad106.block ≠ gb109 := Kd.own_blk (Kd.R_ne HO_4.out BK109.out (by decide))
          have hn110_2 : ad106.block ≠ gb109 := Kd.own_blk (Kd.R_ne HO_4.out BK109.out (by decide))
          have hn110_3 : ad106.block ≠ gb109 := Kd.own_blk (Kd.R_ne HO_4.out BK109.out (by decide))
          replace hx110_0 := (cell_far (p := ⟨gb109, 0, none⟩) (by first | (rw [add_block]; exact hn110_0) | (show (Addr.add _ _).block ≠ _; rw [add_block]; exact hn110_0) | exact hn110_0) (.int .i64 0)).trans hx110_0
          replace hx110_0 := (cell_far (p := ⟨gb109, 1, none⟩) (by first | (rw [add_block]; exact hn110_1) | (show (Addr.add _ _).block ≠ _; rw [add_block]; exact hn110_1) | exact hn110_1) (.int .i64 t107)).trans hx110_0
          replace hx110_0 := (cell_far (p := ⟨gb109, 2, none⟩) (by first | (rw [add_block]; exact hn110_2) | (show (Addr.add _ _).block ≠ _; rw [add_block]; exact hn110_2) | exact hn110_2) (.int .i64 0)).trans hx110_0
          replace hx110_0 := (cell_far (p := ⟨gb109, 3, none⟩) (by first | (rw [add_block]; exact hn110_3) | (show (Addr.add _ _).block ≠ _; rw [add_block]; exact hn110_3) | exact hn110_3) (.int .i64 0)).trans hx110_0
          clear hn110_0; clear hn110_1; clear hn110_2; clear hn110_3
          replace p110 := eq_true p110
          replace q110 := eq_true q110
          go_wp2
          go_meet
          case rel => exact ⟨_, (((t102.length : Int) == 4)), (by first | rfl | (simp; done) | (simp only [emptyNe_, emptyEq_]; done) | (simp [*]; done)), H', ⟨by have := HJ2.out; first | omega | exact Nat.le_refl _⟩, ⟨by (with_reducible repeat (first | apply Kd.R_alloc | apply Kd.R_drewN | apply Kd.R_drew)); exact Kd.R_mono (Kd.R_far (p := ⟨gb109, 3, none⟩) (Kd.R_far (p := ⟨gb109, 2, none⟩) (Kd.R_far (p := ⟨gb109, 1, none⟩) (Kd.R_far (p := ⟨gb109, 0, none⟩) (Kd.R_types HO_4.out BK109.out (by decide)) (fun _ hk => hk.2) (.int .i64 0)) (fun _ hk => hk.2) (.int .i64 t107)) (fun _ hk => hk.2) (.int .i64 0)) (fun _ hk => hk.2) (.int .i64 0)) (fun _ hk => trivial)⟩, ⟨by (with_reducible repeat (first | refine blk_drewN ?_ _ | refine blk_drew ?_ | refine blk_alloc ?_ _)); refine blk_far ?_ NB101_109.out _; (with_reducible repeat (first | refine blk_drewN ?_ _ | refine blk_drew ?_ | refine blk_alloc ?_ _)); refine blk_far ?_ NB101_109.out _; (with_reducible repeat (first | refine blk_drewN ?_ _ | refine blk_drew ?_ | refine blk_alloc ?_ _)); refine blk_far ?_ NB101_109.out _; (with_reducible repeat (first | refine blk_drewN ?_ _ | refine blk_drew ?_ | refine blk_alloc ?_ _)); refine blk_far ?_ NB101_109.out _; (with_reducible repeat (first | refine blk_drewN ?_ _ | refine blk_drew ?_ | refine blk_alloc ?_ _)); exact BK101.out⟩, ⟨by (with_reducible repeat (first | refine blk_drewN ?_ _ | refine blk_drew ?_ | refine blk_alloc ?_ _)); refine blk_put (cs := #[.int .i64 0, .int .i64 t107, .int .i64 0, .int .i64 0]) ?_ 3 _ rfl; (with_reducible repeat (first | refine blk_drewN ?_ _ | refine blk_drew ?_ | refine blk_alloc ?_ _)); refine blk_put (cs := #[.int .i64 0, .int .i64 t107, .int .i64 0, .int .i64 0]) ?_ 2 _ rfl; (with_reducible repeat (first | refine blk_drewN ?_ _ | refine blk_drew ?_ | refine blk_alloc ?_ _)); refine blk_put (cs := #[.int .i64 0, .int .i64 0, .int .i64 0, .int .i64 0]) ?_ 1 _ rfl; (with_reducible repeat (first | refine blk_drewN ?_ _ | refine blk_drew ?_ | refine blk_alloc ?_ _)); refine blk_put (cs := #[.int .i64 0, .int .i64 0, .int .i64 0, .int .i64 0]) ?_ 0 _ rfl; (with_reducible repeat (first | refine blk_drewN ?_ _ | refine blk_drew ?_ | refine blk_alloc ?_ _)); exact BK109.out⟩, ⟨by repeat (first | (with_reducible first | exact HB.out | apply below_alloc | apply pw_below_drewN | apply below_drew1 | refine below_set ?_ GE101.out | refine below_set ?_ GE109.out) | exact HB.out)⟩⟩
        ·rw [if_neg c21] at H
         have c21b0 : ((rdOf ByteArray.empty t102 1).toList == ([111, 112] : List UInt8)) = false := beq_eq_false_iff_ne.mpr c21
         have c21b1 : ((rdOf ByteArray.empty t102 1).toList != ([111, 112] : List UInt8)) = true := bne_iff_ne.mpr c21
         as_aux_lemma =>
          have H' := Aside0.mk H
          clear H
          have p110 : 0 ≤ (1 : Int) := (by omega)
          have q110 : 1 < (t102.length : Int) := of_decide_eq_true (by first | (with_reducible assumption) | assumption)
          obtain ⟨ad110, e110, hx110_0⟩ := Kd.at_string (Kd.R_reads' HO_4.out).2.2 1 p110 q110
          obtain rfl : ad106 = ad110 := (by injection e110)
          (try simp only [show (1 : Int).toNat = 1 from rfl, Nat.reduceMul, Nat.reduceEqDiff, Go.Addr.add, ↓reduceIte] at hx110_0)
          have qi110 : (1 < t102.length) = True := eq_true (by omega)
          (try rw [show ((1 : Int)).toNat = 1 from rfl] at hx110_0)
          have hn110_0 : ad106.block ≠ gb109 := Kd.own_blk (Kd.R_ne HO_4.out BK109.out (by decide))
          have hn110_1 : ad106.block ≠ gb109 := Kd.own_blk (Kd.R_ne HO_4.out BK109.out (by decide))
          have hn110_2 : ad106.block ≠ gb109 := Kd.own_blk (Kd.R_ne HO_4.out BK109.out (by decide))
          have hn110_3 : ad106.block ≠ gb109 := Kd.own_blk (Kd.R_ne HO_4.out BK109.out (by decide))
          replace hx110_0 := (cell_far (p := ⟨gb109, 0, none⟩) (by first | (rw [add_block]; exact hn110_0) | (show (Addr.add _ _).block ≠ _; rw [add_block]; exact hn110_0) | exact hn110_0) (.int .i64 0)).trans hx110_0
          replace hx110_0 := (cell_far (p := ⟨gb109, 1, none⟩) (by first | (rw [add_block]; exact hn110_1) | (show (Addr.add _ _).block ≠ _; rw [add_block]; exact hn110_1) | exact hn110_1) (.int .i64 t107)).trans hx110_0
          replace hx110_0 := (cell_far (p := ⟨gb109, 2, none⟩) (by first | (rw [add_block]; exact hn110_2) | (show (Addr.add _ _).block ≠ _; rw [add_block]; exact hn110_2) | exact hn110_2) (.int .i64 0)).trans hx110_0
          replace hx110_0 := (cell_far (p := ⟨gb109, 3, none⟩) (by first | (rw [add_block]; exact hn110_3) | (show (Addr.add _ _).block ≠ _; rw [add_block]; exact hn110_3) | exact hn110_3) (.int .i64 0)).trans hx110_0
          clear hn110_0; clear hn110_1; clear hn110_2; clear hn110_3
          replace p110 := eq_true p110
          replace q110 := eq_true q110
          go_wp2
          go_meet
          case rel => exact ⟨_, (false), (by first | rfl | (simp; done) | (simp only [emptyNe_, emptyEq_]; done) | (simp [*]; done)), H', ⟨by have := HJ2.out; first | omega | exact Nat.le_refl _⟩, ⟨by (with_reducible repeat (first | apply Kd.R_alloc | apply Kd.R_drewN | apply Kd.R_drew)); exact Kd.R_mono (Kd.R_far (p := ⟨gb109, 3, none⟩) (Kd.R_far (p := ⟨gb109, 2, none⟩) (Kd.R_far (p := ⟨gb109, 1, none⟩) (Kd.R_far (p := ⟨gb109, 0, none⟩) (Kd.R_types HO_4.out BK109.out (by decide)) (fun _ hk => hk.2) (.int .i64 0)) (fun _ hk => hk.2) (.int .i64 t107)) (fun _ hk => hk.2) (.int .i64 0)) (fun _ hk => hk.2) (.int .i64 0)) (fun _ hk => trivial)⟩, ⟨by (with_reducible repeat (first | refine blk_drewN ?_ _ | refine blk_drew ?_ | refine blk_alloc ?_ _)); refine blk_far ?_ NB101_109.out _; (with_reducible repeat (first | refine blk_drewN ?_ _ | refine blk_drew ?_ | refine blk_alloc ?_ _)); refine blk_far ?_ NB101_109.out _; (with_reducible repeat (first | refine blk_drewN ?_ _ | refine blk_drew ?_ | refine blk_alloc ?_ _)); refine blk_far ?_ NB101_109.out _; (with_reducible repeat (first | refine blk_drewN ?_ _ | refine blk_drew ?_ | refine blk_alloc ?_ _)); refine blk_far ?_ NB101_109.out _; (with_reducible repeat (first | refine blk_drewN ?_ _ | refine blk_drew ?_ | refine blk_alloc ?_ _)); exact BK101.out⟩, ⟨by (with_reducible repeat (first | refine blk_drewN ?_ _ | refine blk_drew ?_ | refine blk_alloc ?_ _)); refine blk_put (cs := #[.int .i64 0, .int .i64 t107, .int .i64 0, .int .i64 0]) ?_ 3 _ rfl; (with_reducible repeat (first | refine blk_drewN ?_ _ | refine blk_drew ?_ | refine blk_alloc ?_ _)); refine blk_put (cs := #[.int .i64 0, .int .i64 t107, .int .i64 0, .int .i64 0]) ?_ 2 _ rfl; (with_reducible repeat (first | refine blk_drewN ?_ _ | refine blk_drew ?_ | refine blk_alloc ?_ _)); refine blk_put (cs := #[.int .i64 0, .int .i64 0, .int .i64 0, .int .i64 0]) ?_ 1 _ rfl; (with_reducible repeat (first | refine blk_drewN ?_ _ | refine blk_drew ?_ | refine blk_alloc ?_ _)); refine blk_put (cs := #[.int .i64 0, .int .i64 0, .int .i64 0, .int .i64 0]) ?_ 0 _ rfl; (with_reducible repeat (first | refine blk_drewN ?_ _ | refine blk_drew ?_ | refine blk_alloc ?_ _)); exact BK109.out⟩, ⟨by repeat (first | (with_reducible first | exact HB.out | apply below_alloc | apply pw_below_drewN | apply below_drew1 | refine below_set ?_ GE101.out | refine below_set ?_ GE109.out) | exact HB.out)⟩⟩
       ·rw [if_neg c20] at H
        exact absurd H (by simp)
      case rest => as_aux_lemma =>
       clear HC14; try clear c1; try clear p1; try clear q1; try clear hx1; try clear qi1; try clear c2; try clear p2; try clear c6; try clear c6b0; try clear c6b1; try clear c7; try clear c7b0; try clear c7b1; try clear c9; try clear c10; try clear p10; try clear q10; try clear hx10; try clear qi10; try clear c11; try clear c11b0; try clear c11b1; try clear p11; try clear q11; try clear hx11; try clear qi11; try clear c12; try clear c12b0; try clear c12b1; try clear c13; try clear c18; try clear c20; try clear c20b0; try clear c20b1; try clear c21; try clear c21b0; try clear c21b1; try clear hcz19_0; try clear hcz19_1; try clear hcz19_2; try clear hcz19_3; try clear hfz19_0; try clear hfz19_1; try clear hfz19_2; try clear hfz19_3; try clear hx105_0; try clear hx106_0; try clear hx110_0; try clear p1; try clear p105; try clear p106; try clear p110; try clear p2; try clear q1; try clear q105; try clear q106; try clear q110
       obtain ⟨kq, x58_13, rfl, HA, HJ13, HO_4, BK101, BK109, HB⟩ := hcut
       cases kq with
       | zero => exact absurd HA.out (by simp [logjamref41_read.j1])
       | succ kj13 =>
        have H := HA.out
        clear HA
        simp only [logjamref41_read.j1] at H
        by_cases c22 : x58_13 = true
        ·subst c22
         have H1 : (none) = some (r1, r2, r3, r4, r5) := by rw [if_pos rfl] at H; exact H
         clear H
         have H := H1
         clear H1
         exact absurd H (by simp)
        ·replace c22 := Bool.eq_false_iff.mpr c22
         subst c22
         have H1 : (if 1 < (t102.length : Int) then (if (rdOf ByteArray.empty t102 1).toList = ([101, 110, 100] : List UInt8) then (logjamref41_read.j2 kj13 t102 t108 ((t102.length : Int) == 4) 0 t107 0 0) else (logjamref41_read.j2 kj13 t102 t108 false 0 t107 0 0)) else (none)) = some (r1, r2, r3, r4, r5) := by rw [if_neg (show ¬ (false = true) by decide)] at H; exact H
         clear H
         have H := H1
         clear H1
         have HC23 := Aside0.mk H
         clear H
         go_upto_region 13 with (fail)
         go_cut [92] (fun v92 wc => ∃ (kq : Nat) (x92_22 : Bool), v92 = .bool x92_22 ∧ Aside0 (logjamref41_read.j2 kq t102 t108 x92_22 0 t107 0 0 = some (r1, r2, r3, r4, r5)) ∧ Aside0 (kq ≤ kj13) ∧ Aside0 (Kd.R Kd.string 9 wc w.heap.size (fun _ => True) (.slice (some ad106) t102.length co15) t102) ∧ Aside0 (wc.heap[gb101]? = some (.cells #[.int .i64 0, .int .i64 0, .int .i64 0, .int .i64 0] 72 (0, 0))) ∧ Aside0 (wc.heap[gb109]? = some (.cells #[.int .i64 0, .int .i64 t107, .int .i64 0, .int .i64 0] 72 (0, 0))) ∧ Aside0 (Below w.heap.size w wc))
         case first => as_aux_lemma =>
          have H := HC23.out
          clear HC23
          by_cases c24 : 1 < (t102.length : Int)
          ·rw [if_pos c24] at H
           have c24b0 : decide (1 < (t102.length : Int)) = true := decide_eq_true c24
           have c24b1 : decide (1 < t102.length) = true := decide_eq_true (by omega)
           clear c24
           (first | rw [c24b0] | (simp only [i64_w, i32_w]; rw [c24b0]) | skip)
           by_cases c25 : (rdOf ByteArray.empty t102 1).toList = ([101, 110, 100] : List UInt8)
           ·rw [if_pos c25] at H
            have c25b0 : ((rdOf ByteArray.empty t102 1).toList == ([101, 110, 100] : List UInt8)) = true := beq_iff_eq.mpr c25
            have c25b1 : ((rdOf ByteArray.empty t102 1).toList != ([101, 110, 100] : List UInt8)) = false := bne_eq_false_iff_eq.mpr c25
            clear c25
            as_aux_lemma =>
             have H' := Aside0.mk H
             clear H
             have p111 : 0 ≤ (1 : Int) := (by omega)
             have q111 : 1 < (t102.length : Int) := of_decide_eq_true (by first | (with_reducible assumption) | assumption)
             obtain ⟨ad111, e111, hx111_0⟩ := Kd.at_string (Kd.R_reads' HO_4.out).2.2 1 p111 q111
             obtain rfl : ad106 = ad111 := (by injection e111)
             (try simp only [show (1 : Int).toNat = 1 from rfl, Nat.reduceMul, Nat.reduceEqDiff, Go.Addr.add, ↓reduceIte] at hx111_0)
             have qi111 : (1 < t102.length) = True := eq_true (by omega)
             (try rw [show ((1 : Int)).toNat = 1 from rfl] at hx111_0)
             replace p111 := eq_true p111
             replace q111 := eq_true q111
             go_wp2
             go_meet
             case rel => exact ⟨_, (((t102.length : Int) == 4)), (by first | rfl | (simp; done) | (simp only [emptyNe_, emptyEq_]; done) | (simp [*]; done)), H', ⟨by have := HJ2.out; have := HJ13.out; first | omega | exact Nat.le_refl _⟩, ⟨by (with_reducible repeat (first | apply Kd.R_alloc | apply Kd.R_drewN | apply Kd.R_drew)); exact HO_4.out⟩, ⟨by (with_reducible repeat (first | refine blk_drewN ?_ _ | refine blk_drew ?_ | refine blk_alloc ?_ _)); exact BK101.out⟩, ⟨by (with_reducible repeat (first | refine blk_drewN ?_ _ | refine blk_drew ?_ | refine blk_alloc ?_ _)); exact BK109.out⟩, ⟨by repeat (first | (with_reducible first | exact HB.out | apply below_alloc | apply pw_below_drewN | apply below_drew1 | refine below_set ?_ GE101.out | refine below_set ?_ GE109.out) | exact HB.out)⟩⟩
           ·rw [if_neg c25] at H
            have c25b0 : ((rdOf ByteArray.empty t102 1).toList == ([101, 110, 100] : List UInt8)) = false := beq_eq_false_iff_ne.mpr c25
            have c25b1 : ((rdOf ByteArray.empty t102 1).toList != ([101, 110, 100] : List UInt8)) = true := bne_iff_ne.mpr c25
            as_aux_lemma =>
             have H' := Aside0.mk H
             clear H
             have p111 : 0 ≤ (1 : Int) := (by omega)
             have q111 : 1 < (t102.length : Int) := of_decide_eq_true (by first | (with_reducible assumption) | assumption)
             obtain ⟨ad111, e111, hx111_0⟩ := Kd.at_string (Kd.R_reads' HO_4.out).2.2 1 p111 q111
             obtain rfl : ad106 = ad111 := (by injection e111)
             (try simp only [show (1 : Int).toNat = 1 from rfl, Nat.reduceMul, Nat.reduceEqDiff, Go.Addr.add, ↓reduceIte] at hx111_0)
             have qi111 : (1 < t102.length) = True := eq_true (by omega)
             (try rw [show ((1 : Int)).toNat = 1 from rfl] at hx111_0)
             replace p111 := eq_true p111
             replace q111 := eq_true q111
             go_wp2
             go_meet
             case rel => exact ⟨_, (false), (by first | rfl | (simp; done) | (simp only [emptyNe_, emptyEq_]; done) | (simp [*]; done)), H', ⟨by have := HJ2.out; have := HJ13.out; first | omega | exact Nat.le_refl _⟩, ⟨by (with_reducible repeat (first | apply Kd.R_alloc | apply Kd.R_drewN | apply Kd.R_drew)); exact HO_4.out⟩, ⟨by (with_reducible repeat (first | refine blk_drewN ?_ _ | refine blk_drew ?_ | refine blk_alloc ?_ _)); exact BK101.out⟩, ⟨by (with_reducible repeat (first | refine blk_drewN ?_ _ | refine blk_drew ?_ | refine blk_alloc ?_ _)); exact BK109.out⟩, ⟨by repeat (first | (with_reducible first | exact HB.out | apply below_alloc | apply pw_below_drewN | apply below_drew1 | refine below_set ?_ GE101.out | refine below_set ?_ GE109.out) | exact HB.out)⟩⟩
          ·rw [if_neg c24] at H
           exact absurd H (by simp)
         case rest => as_aux_lemma =>
          clear HC23; try clear c1; try clear p1; try clear q1; try clear hx1; try clear qi1; try clear c2; try clear p2; try clear c6; try clear c6b0; try clear c6b1; try clear c7; try clear c7b0; try clear c7b1; try clear c9; try clear c10; try clear p10; try clear q10; try clear hx10; try clear qi10; try clear c11; try clear c11b0; try clear c11b1; try clear p11; try clear q11; try clear hx11; try clear qi11; try clear c12; try clear c12b0; try clear c12b1; try clear c13; try clear c18; try clear c20; try clear c20b0; try clear c20b1; try clear c21; try clear c21b0; try clear c21b1; try clear c22; try clear c24; try clear c24b0; try clear c24b1; try clear c25; try clear c25b0; try clear c25b1; try clear hcz19_0; try clear hcz19_1; try clear hcz19_2; try clear hcz19_3; try clear hfz19_0; try clear hfz19_1; try clear hfz19_2; try clear hfz19_3; try clear hx105_0; try clear hx106_0; try clear hx110_0; try clear hx111_0; try clear p1; try clear p10; try clear p105; try clear p106; try clear p11; try clear p110; try clear p111; try clear p2; try clear q1; try clear q10; try clear q105; try clear q106; try clear q11; try clear q110; try clear q111
          obtain ⟨kq, x92_22, rfl, HA, HJ22, HO_4, BK101, BK109, HB⟩ := hcut
          cases kq with
          | zero => exact absurd HA.out (by simp [logjamref41_read.j2])
          | succ kj22 =>
           have H := HA.out
           clear HA
           simp only [logjamref41_read.j2] at H
           by_cases c26 : x92_22 = true
           ·subst c26
            have H1 : (none) = some (r1, r2, r3, r4, r5) := by rw [if_pos rfl] at H; exact H
            clear H
            have H := H1
            clear H1
            exact absurd H (by simp)
           ·replace c26 := Bool.eq_false_iff.mpr c26
            subst c26
            have H1 : (if 1 < (t102.length : Int) then (if (rdOf ByteArray.empty t102 1).toList = ([98, 108, 111, 99, 107] : List UInt8) then (logjamref41_read.j3 kj22 t102 t108 ((t102.length : Int) == 3) 0 t107 0 0) else (logjamref41_read.j3 kj22 t102 t108 false 0 t107 0 0)) else (none)) = some (r1, r2, r3, r4, r5) := by rw [if_neg (show ¬ (false = true) by decide)] at H; exact H
            clear H
            have H := H1
            clear H1
            have HC27 := Aside0.mk H
            clear H
            go_upto_region 17 with (fail)
            go_cut [126] (fun v126 wc => ∃ (kq : Nat) (x126_26 : Bool), v126 = .bool x126_26 ∧ Aside0 (logjamref41_read.j3 kq t102 t108 x126_26 0 t107 0 0 = some (r1, r2, r3, r4, r5)) ∧ Aside0 (kq ≤ kj22) ∧ Aside0 (Kd.R Kd.string 9 wc w.heap.size (fun _ => True) (.slice (some ad106) t102.length co15) t102) ∧ Aside0 (wc.heap[gb101]? = some (.cells #[.int .i64 0, .int .i64 0, .int .i64 0, .int .i64 0] 72 (0, 0))) ∧ Aside0 (wc.heap[gb109]? = some (.cells #[.int .i64 0, .int .i64 t107, .int .i64 0, .int .i64 0] 72 (0, 0))) ∧ Aside0 (Below w.heap.size w wc))
            case first => as_aux_lemma =>
             have H := HC27.out
             clear HC27
             by_cases c28 : 1 < (t102.length : Int)
             ·rw [if_pos c28] at H
              have c28b0 : decide (1 < (t102.length : Int)) = true := decide_eq_true c28
              have c28b1 : decide (1 < t102.length) = true := decide_eq_true (by omega)
              clear c28
              (first | rw [c28b0] | (simp only [i64_w, i32_w]; rw [c28b0]) | skip)
              by_cases c29 : (rdOf ByteArray.empty t102 1).toList = ([98, 108, 111, 99, 107] : List UInt8)
              ·rw [if_pos c29] at H
               have c29b0 : ((rdOf ByteArray.empty t102 1).toList == ([98, 108, 111, 99, 107] : List UInt8)) = true := beq_iff_eq.mpr c29
               have c29b1 : ((rdOf ByteArray.empty t102 1).toList != ([98, 108, 111, 99, 107] : List UInt8)) = false := bne_eq_false_iff_eq.mpr c29
               clear c29
               as_aux_lemma =>
                have H' := Aside0.mk H
                clear H
                have p112 : 0 ≤ (1 : Int) := (by omega)
                have q112 : 1 < (t102.length : Int) := of_decide_eq_true (by first | (with_reducible assumption) | assumption)
                obtain ⟨ad112, e112, hx112_0⟩ := Kd.at_string (Kd.R_reads' HO_4.out).2.2 1 p112 q112
                obtain rfl : ad106 = ad112 := (by injection e112)
                (try simp only [show (1 : Int).toNat = 1 from rfl, Nat.reduceMul, Nat.reduceEqDiff, Go.Addr.add, ↓reduceIte] at hx112_0)
                have qi112 : (1 < t102.length) = True := eq_true (by omega)
                (try rw [show ((1 : Int)).toNat = 1 from rfl] at hx112_0)
                replace p112 := eq_true p112
                replace q112 := eq_true q112
                go_wp2
                go_meet
                case rel => exact ⟨_, (((t102.length : Int) == 3)), (by first | rfl | (simp; done) | (simp only [emptyNe_, emptyEq_]; done) | (simp [*]; done)), H', ⟨by have := HJ2.out; have := HJ13.out; have := HJ22.out; first | omega | exact Nat.le_refl _⟩, ⟨by (with_reducible repeat (first | apply Kd.R_alloc | apply Kd.R_drewN | apply Kd.R_drew)); exact HO_4.out⟩, ⟨by (with_reducible repeat (first | refine blk_drewN ?_ _ | refine blk_drew ?_ | refine blk_alloc ?_ _)); exact BK101.out⟩, ⟨by (with_reducible repeat (first | refine blk_drewN ?_ _ | refine blk_drew ?_ | refine blk_alloc ?_ _)); exact BK109.out⟩, ⟨by repeat (first | (with_reducible first | exact HB.out | apply below_alloc | apply pw_below_drewN | apply below_drew1 | refine below_set ?_ GE101.out | refine below_set ?_ GE109.out) | exact HB.out)⟩⟩
              ·rw [if_neg c29] at H
               have c29b0 : ((rdOf ByteArray.empty t102 1).toList == ([98, 108, 111, 99, 107] : List UInt8)) = false := beq_eq_false_iff_ne.mpr c29
               have c29b1 : ((rdOf ByteArray.empty t102 1).toList != ([98, 108, 111, 99, 107] : List UInt8)) = true := bne_iff_ne.mpr c29
               as_aux_lemma =>
                have H' := Aside0.mk H
                clear H
                have p112 : 0 ≤ (1 : Int) := (by omega)
                have q112 : 1 < (t102.length : Int) := of_decide_eq_true (by first | (with_reducible assumption) | assumption)
                obtain ⟨ad112, e112, hx112_0⟩ := Kd.at_string (Kd.R_reads' HO_4.out).2.2 1 p112 q112
                obtain rfl : ad106 = ad112 := (by injection e112)
                (try simp only [show (1 : Int).toNat = 1 from rfl, Nat.reduceMul, Nat.reduceEqDiff, Go.Addr.add, ↓reduceIte] at hx112_0)
                have qi112 : (1 < t102.length) = True := eq_true (by omega)
                (try rw [show ((1 : Int)).toNat = 1 from rfl] at hx112_0)
                replace p112 := eq_true p112
                replace q112 := eq_true q112
                go_wp2
                go_meet
                case rel => exact ⟨_, (false), (by first | rfl | (simp; done) | (simp only [emptyNe_, emptyEq_]; done) | (simp [*]; done)), H', ⟨by have := HJ2.out; have := HJ13.out; have := HJ22.out; first | omega | exact Nat.le_refl _⟩, ⟨by (with_reducible repeat (first | apply Kd.R_alloc | apply Kd.R_drewN | apply Kd.R_drew)); exact HO_4.out⟩, ⟨by (with_reducible repeat (first | refine blk_drewN ?_ _ | refine blk_drew ?_ | refine blk_alloc ?_ _)); exact BK101.out⟩, ⟨by (with_reducible repeat (first | refine blk_drewN ?_ _ | refine blk_drew ?_ | refine blk_alloc ?_ _)); exact BK109.out⟩, ⟨by repeat (first | (with_reducible first | exact HB.out | apply below_alloc | apply pw_below_drewN | apply below_drew1 | refine below_set ?_ GE101.out | refine below_set ?_ GE109.out) | exact HB.out)⟩⟩
             ·rw [if_neg c28] at H
              exact absurd H (by simp)
            case rest => as_aux_lemma =>
             clear HC27; try clear c1; try clear p1; try clear q1; try clear hx1; try clear qi1; try clear c2; try clear p2; try clear c6; try clear c6b0; try clear c6b1; try clear c7; try clear c7b0; try clear c7b1; try clear c9; try clear c10; try clear p10; try clear q10; try clear hx10; try clear qi10; try clear c11; try clear c11b0; try clear c11b1; try clear p11; try clear q11; try clear hx11; try clear qi11; try clear c12; try clear c12b0; try clear c12b1; try clear c13; try clear c18; try clear c20; try clear c20b0; try clear c20b1; try clear c21; try clear c21b0; try clear c21b1; try clear c22; try clear c24; try clear c24b0; try clear c24b1; try clear c25; try clear c25b0; try clear c25b1; try clear c26; try clear c28; try clear c28b0; try clear c28b1; try clear c29; try clear c29b0; try clear c29b1; try clear hcz19_0; try clear hcz19_1; try clear hcz19_2; try clear hcz19_3; try clear hfz19_0; try clear hfz19_1; try clear hfz19_2; try clear hfz19_3; try clear hx105_0; try clear hx106_0; try clear hx110_0; try clear hx111_0; try clear hx112_0; try clear p1; try clear p10; try clear p105; try clear p106; try clear p11; try clear p110; try clear p111; try clear p112; try clear p2; try clear q1; try clear q10; try clear q105; try clear q106; try clear q11; try clear q110; try clear q111; try clear q112
             obtain ⟨kq, x126_26, rfl, HA, HJ26, HO_4, BK101, BK109, HB⟩ := hcut
             cases kq with
             | zero => exact absurd HA.out (by simp [logjamref41_read.j3])
             | succ kj26 =>
              have H := HA.out
              clear HA
              simp only [logjamref41_read.j3] at H
              by_cases c30 : x126_26 = true
              ·subst c30
               have H1 : (if 2 < (t102.length : Int) then ((logjamref06_Of.f kj26 (rdOf ByteArray.empty t102 2)).bind fun t114 => (if t108 = true then (some (3, t107, t114, 0, decide (t114 ≥ 0))) else (some (3, t107, t114, 0, false)))) else (none)) = some (r1, r2, r3, r4, r5) := by rw [if_pos rfl] at H; exact H
               clear H
               have H := H1
               clear H1
               by_cases c31 : 2 < (t102.length : Int)
               ·rw [if_pos c31] at H
                have c31b0 : decide (2 < (t102.length : Int)) = true := decide_eq_true c31
                have c31b1 : decide (2 < t102.length) = true := decide_eq_true (by omega)
                clear c31
                replace H := Option.bind_eq_some_iff.mp H
                obtain ⟨t114, A320, H⟩ := H
                replace H : (if t108 = true then (some (3, t107, t114, 0, decide (t114 ≥ 0))) else (some (3, t107, t114, 0, false))) = some (r1, r2, r3, r4, r5) := H
                have A32 := Aside0.mk A320
                clear A320
                by_cases c33 : t108 = true
                ·subst c33
                 have H1 : (some (3, t107, t114, 0, decide (t114 ≥ 0))) = some (r1, r2, r3, r4, r5) := by rw [if_pos rfl] at H; exact H
                 clear H
                 have H := H1
                 clear H1
                 as_aux_lemma =>
                  simp only [Option.some.injEq, Prod.mk.injEq] at H
                  obtain ⟨rfl, rfl, rfl, rfl, rfl⟩ := H
                  have p113 : 0 ≤ (2 : Int) := (by omega)
                  have q113 : 2 < (t102.length : Int) := of_decide_eq_true (by first | (with_reducible assumption) | assumption)
                  obtain ⟨ad113, e113, hx113_0⟩ := Kd.at_string (Kd.R_reads' HO_4.out).2.2 2 p113 q113
                  obtain rfl : ad106 = ad113 := (by injection e113)
                  (try simp only [show (2 : Int).toNat = 2 from rfl, Nat.reduceMul, Nat.reduceEqDiff, Go.Addr.add, ↓reduceIte] at hx113_0)
                  have qi113 : (2 < t102.length) = True := eq_true (by omega)
                  (try rw [show ((2 : Int)).toNat = 2 from rfl] at hx113_0)
                  replace p113 := eq_true p113
                  replace q113 := eq_true q113
                  try go_wp2_with (first | ((with_reducible refine gate_callee (f := 138) rfl ?_); refine goesL_ (some 130) rfl rfl Tryd.func138 (by kernel_rfl) rfl #[.string (rdOf ByteArray.empty t102 2)] rfl (by (try simp only [List.map_toArray, List.map_cons, List.map_nil]); first | done | rfl | (simp only [List.length_drop, List.length_take]; rfl)) ?_; (with_reducible refine (logjamref06_Of.calls kj26 (rdOf ByteArray.empty t102 2) t114 _ A32.out).mono ?_); rintro e w34 ⟨rfl, hb⟩; refine ⟨_, rfl, ?_⟩; have n0_ := Aside0.mk (Kd.R_below (by (with_reducible repeat (first | apply Kd.R_alloc | apply Kd.R_drewN | apply Kd.R_drew)); exact HO_4.out) hb); have n1_ := Aside0.mk (blk_below (g := gb101) (o := .cells #[.int .i64 0, .int .i64 0, .int .i64 0, .int .i64 0] 72 (0, 0)) (by (with_reducible repeat (first | refine blk_drewN ?_ _ | refine blk_drew ?_ | refine blk_alloc ?_ _)); exact BK101.out) hb); have n2_ := Aside0.mk (blk_below (g := gb109) (o := .cells #[.int .i64 0, .int .i64 t107, .int .i64 0, .int .i64 0] 72 (0, 0)) (by (with_reducible repeat (first | refine blk_drewN ?_ _ | refine blk_drew ?_ | refine blk_alloc ?_ _)); exact BK109.out) hb); have n3_ := Aside0.mk (below_step (by repeat (first | (with_reducible first | exact HB.out | apply below_alloc | apply pw_below_drewN | apply below_drew1 | refine below_set ?_ GE101.out | refine below_set ?_ GE109.out) | exact HB.out)) hb); clear HO_4; clear BK101; clear BK109; clear HB; have HO_4 := n0_; have BK101 := n1_; have BK109 := n2_; have HB := n3_; clear n0_ n1_ n2_ n3_; (try clear hb); (try clear hb2); (try clear hk); (try clear hi); have hnb35 := NB109_101.out; have hnc35 := NB101_109.out; have hcz36_0 : w34.cell? ⟨gb109, 0, none⟩ = some (.int .i64 0) := (blk_cell BK109.out 0).trans rfl; have hcz36_1 : w34.cell? ⟨gb109, 1, none⟩ = some (.int .i64 t107) := (blk_cell BK109.out 1).trans rfl; have hcz36_2 : w34.cell? ⟨gb109, 2, none⟩ = some (.int .i64 0) := (blk_cell BK109.out 2).trans rfl; have hcz36_3 : w34.cell? ⟨gb109, 3, none⟩ = some (.int .i64 0) := (blk_cell BK109.out 3).trans rfl; have hfz36_0 := blk_frozen BK109.out 0; have hfz36_1 := blk_frozen BK109.out 1; have hfz36_2 := blk_frozen BK109.out 2; have hfz36_3 := blk_frozen BK109.out 3))
                  have n0_ : Aside0 (Kd.R Kd.string 9 ((w34.setCell ⟨gb109, 0, none⟩ (.int .i64 3)).setCell ⟨gb109, 2, none⟩ (.int .i64 t114)) w.heap.size (fun _ => True) (.slice (some ad106) t102.length co15) t102) := ⟨by (with_reducible repeat (first | apply Kd.R_alloc | apply Kd.R_drewN | apply Kd.R_drew)); exact Kd.R_mono (Kd.R_far (p := ⟨gb109, 2, none⟩) (Kd.R_far (p := ⟨gb109, 0, none⟩) (Kd.R_types HO_4.out BK109.out (by decide)) (fun _ hk => hk.2) (.int .i64 3)) (fun _ hk => hk.2) (.int .i64 t114)) (fun _ hk => trivial)⟩
                  have n1_ : Aside0 (((w34.setCell ⟨gb109, 0, none⟩ (.int .i64 3)).setCell ⟨gb109, 2, none⟩ (.int .i64 t114)).heap[gb101]? = some (.cells #[.int .i64 0, .int .i64 0, .int .i64 0, .int .i64 0] 72 (0, 0))) := ⟨by (with_reducible repeat (first | refine blk_drewN ?_ _ | refine blk_drew ?_ | refine blk_alloc ?_ _)); refine blk_far ?_ NB101_109.out _; (with_reducible repeat (first | refine blk_drewN ?_ _ | refine blk_drew ?_ | refine blk_alloc ?_ _)); refine blk_far ?_ NB101_109.out _; (with_reducible repeat (first | refine blk_drewN ?_ _ | refine blk_drew ?_ | refine blk_alloc ?_ _)); exact BK101.out⟩
                  have n2_ : Aside0 (((w34.setCell ⟨gb109, 0, none⟩ (.int .i64 3)).setCell ⟨gb109, 2, none⟩ (.int .i64 t114)).heap[gb109]? = some (.cells #[.int .i64 3, .int .i64 t107, .int .i64 t114, .int .i64 0] 72 (0, 0))) := ⟨by (with_reducible repeat (first | refine blk_drewN ?_ _ | refine blk_drew ?_ | refine blk_alloc ?_ _)); refine blk_put (cs := #[.int .i64 3, .int .i64 t107, .int .i64 0, .int .i64 0]) ?_ 2 _ rfl; (with_reducible repeat (first | refine blk_drewN ?_ _ | refine blk_drew ?_ | refine blk_alloc ?_ _)); refine blk_put (cs := #[.int .i64 0, .int .i64 t107, .int .i64 0, .int .i64 0]) ?_ 0 _ rfl; (with_reducible repeat (first | refine blk_drewN ?_ _ | refine blk_drew ?_ | refine blk_alloc ?_ _)); exact BK109.out⟩
                  have n3_ : Aside0 (Below w.heap.size w ((w34.setCell ⟨gb109, 0, none⟩ (.int .i64 3)).setCell ⟨gb109, 2, none⟩ (.int .i64 t114))) := ⟨by repeat (first | (with_reducible first | exact HB.out | apply below_alloc | apply pw_below_drewN | apply below_drew1 | refine below_set ?_ GE101.out | refine below_set ?_ GE109.out) | exact HB.out)⟩
                  (try clear HO_4); (try clear BK101); (try clear BK109); (try clear HB)
                  generalize ((w34.setCell ⟨gb109, 0, none⟩ (.int .i64 3)).setCell ⟨gb109, 2, none⟩ (.int .i64 t114)) = w37 at n0_ n1_ n2_ n3_ ⊢
                  have HO_4 := n0_; have BK101 := n1_
                  have BK109 := n2_; have HB := n3_
                  clear n0_ n1_ n2_ n3_
                  have n0_ := Aside0.mk (Kd.R_drew HO_4.out)
                  have n1_ := Aside0.mk (blk_drew BK101.out)
                  have n2_ := Aside0.mk (blk_drew BK109.out)
                  have n3_ := Aside0.mk (below_drew1 HB.out)
                  clear HO_4; clear BK101; clear BK109; clear HB; have HO_4 := n0_; have BK101 := n1_; have BK109 := n2_; have HB := n3_; clear n0_ n1_ n2_ n3_
                  refine start_ (n := 9) (S := fun w' => w'.cell? ⟨gb109, 0, none⟩ = some (.int .i64 3) ∧ w'.cell? ⟨gb109, 1, none⟩ = some (.int .i64 t107) ∧ w'.cell? ⟨gb109, 2, none⟩ = some (.int .i64 t114) ∧ w'.cell? ⟨gb109, 3, none⟩ = some (.int .i64 0)) (ds := []) #[false, false, false, false, false, false, false, false, false] (by kernel_rfl) rfl rfl ⟨(blk_cell BK109.out 0).trans rfl, (blk_cell BK109.out 1).trans rfl, (blk_cell BK109.out 2).trans rfl, (blk_cell BK109.out 3).trans rfl⟩ (fun hHeld => ?_); refine with_tabW logjamref41_read.tab19 logjamref41_read.bits19 (fun HT_ HW_ => ?_)
                  generalize w37.drew = w38 at HO_4 BK101 BK109 HB hHeld ⊢
                  refine pure_ (i := 1) (N := some 134) (v := ?_) (a' := ?_) #[false, true, false, false, false, false, false, false, false] rfl rfl (any_of HT_.out (by kernel_rfl)) (fun _ _ _ h => h) (Or.inl ⟨by rfl, ?_⟩) ?_ ?_
                  rotate_left
                  ·intro w'
                   go_simp
                   with_reducible rfl
                  rotate_left
                  ·simp only [Act.put, List.setIfInBounds_toArray, List.set_cons_zero, List.set_cons_succ, i64_w, i32_w]
                   rfl
                  refine pure_ (i := 2) (N := some 135) (v := ?_) (a' := ?_) #[false, true, true, false, false, false, false, false, false] rfl rfl (any_of HT_.out (by kernel_rfl)) (fun _ _ _ h => h) (Or.inl ⟨by rfl, ?_⟩) ?_ ?_
                  rotate_left
                  ·intro w'
                   go_simp
                   with_reducible rfl
                  rotate_left
                  ·simp only [Act.put, List.setIfInBounds_toArray, List.set_cons_zero, List.set_cons_succ, i64_w, i32_w]
                   rfl
                  refine pure_ (i := 3) (N := some 136) (v := ?_) (a' := ?_) #[false, true, true, true, false, false, false, false, false] rfl rfl (any_of HT_.out (by kernel_rfl)) (fun _ _ _ h => h) (Or.inl ⟨by rfl, ?_⟩) ?_ ?_
                  rotate_left
                  ·intro w'
                   go_simp
                   with_reducible rfl
                  rotate_left
                  ·simp only [Act.put, List.setIfInBounds_toArray, List.set_cons_zero, List.set_cons_succ, i64_w, i32_w]
                   rfl
                  refine take_ (i := 0) (N := some 133) (v := ?_) (a' := ?_) #[true, true, true, true, false, false, false, false, false] rfl rfl (take_ofW HT_.out HW_.out (by kernel_rfl)) (fun _ _ _ h => h) (Or.inl ⟨by rfl, ?_⟩) hHeld ?_ ?_
                  rotate_left
                  ·rintro w' ⟨s0, s1, s2, s3⟩
                   go_simp
                   with_reducible rfl
                  rotate_left
                  ·simp only [Act.put, List.setIfInBounds_toArray, List.set_cons_zero, List.set_cons_succ, i64_w, i32_w]
                   rfl
                  refine take_ (i := 4) (N := some 137) (v := ?_) (a' := ?_) #[true, true, true, true, true, false, false, false, false] rfl rfl (take_ofW HT_.out HW_.out (by kernel_rfl)) (fun _ _ _ h => h) (Or.inl ⟨by rfl, ?_⟩) hHeld ?_ ?_
                  rotate_left
                  ·rintro w' ⟨s0, s1, s2, s3⟩
                   go_simp
                   with_reducible rfl
                  rotate_left
                  ·simp only [Act.put, List.setIfInBounds_toArray, List.set_cons_zero, List.set_cons_succ, i64_w, i32_w]
                   rfl
                  refine pure_ (i := 5) (N := some 138) (v := ?_) (a' := ?_) #[true, true, true, true, true, true, false, false, false] rfl rfl (any_of HT_.out (by kernel_rfl)) (fun _ _ _ h => h) (Or.inl ⟨by rfl, ?_⟩) ?_ ?_
                  rotate_left
                  ·intro w'
                   go_simp
                   with_reducible rfl
                  rotate_left
                  ·simp only [Act.put, List.setIfInBounds_toArray, List.set_cons_zero, List.set_cons_succ, i64_w, i32_w]
                   rfl
                  refine pure_ (i := 6) (N := some 139) (v := ?_) (a' := ?_) #[true, true, true, true, true, true, true, false, false] rfl rfl (any_of HT_.out (by kernel_rfl)) (fun _ _ _ h => h) (Or.inl ⟨by rfl, ?_⟩) ?_ ?_
                  rotate_left
                  ·intro w'
                   go_simp
                   with_reducible rfl
                  rotate_left
                  ·simp only [Act.put, List.setIfInBounds_toArray, List.set_cons_zero, List.set_cons_succ, i64_w, i32_w]
                   rfl
                  refine one_ (i := 7) (N := none) #[true, true, true, true, true, true, true, true, false] rfl rfl (one_of HT_.out (by kernel_rfl)) (by decide) (fun K hK => ?_)
                  have hs39 : w38.cell? ⟨gb101, 0, none⟩ = some (.int .i64 0) := (blk_cell BK101.out 0).trans rfl
                  have hfs39 := blk_frozen BK101.out 0
                  have hns39_1 := NB109_101.out
                  have hms39_1 := NB101_109.out
                  have hs40 : w38.cell? ⟨gb101, 1, none⟩ = some (.int .i64 0) := (blk_cell BK101.out 1).trans rfl
                  have hfs40 := blk_frozen BK101.out 1
                  have hns40_1 := NB109_101.out
                  have hms40_1 := NB101_109.out
                  have hs41 : w38.cell? ⟨gb101, 2, none⟩ = some (.int .i64 0) := (blk_cell BK101.out 2).trans rfl
                  have hfs41 := blk_frozen BK101.out 2
                  have hns41_1 := NB109_101.out
                  have hms41_1 := NB101_109.out
                  have hs42 : w38.cell? ⟨gb101, 3, none⟩ = some (.int .i64 0) := (blk_cell BK101.out 3).trans rfl
                  have hfs42 := blk_frozen BK101.out 3
                  have hns42_1 := NB109_101.out
                  have hms42_1 := NB101_109.out
                  refine skip_ (w1 := ?_) (by rfl) rfl ?_ ?_
                  rotate_left
                  ·go_simp
                   rfl
                  refine hK.out _ _ ⟨((cell_far (p := ⟨gb101, _, none⟩) NB109_101.out _).trans (((cell_far (p := ⟨gb101, _, none⟩) NB109_101.out _).trans (((cell_far (p := ⟨gb101, _, none⟩) NB109_101.out _).trans (((cell_far (p := ⟨gb101, _, none⟩) NB109_101.out _).trans (hHeld.1)))))))), ((cell_far (p := ⟨gb101, _, none⟩) NB109_101.out _).trans (((cell_far (p := ⟨gb101, _, none⟩) NB109_101.out _).trans (((cell_far (p := ⟨gb101, _, none⟩) NB109_101.out _).trans (((cell_far (p := ⟨gb101, _, none⟩) NB109_101.out _).trans (hHeld.2.1)))))))), ((cell_far (p := ⟨gb101, _, none⟩) NB109_101.out _).trans (((cell_far (p := ⟨gb101, _, none⟩) NB109_101.out _).trans (((cell_far (p := ⟨gb101, _, none⟩) NB109_101.out _).trans (((cell_far (p := ⟨gb101, _, none⟩) NB109_101.out _).trans (hHeld.2.2.1)))))))), ((cell_far (p := ⟨gb101, _, none⟩) NB109_101.out _).trans (((cell_far (p := ⟨gb101, _, none⟩) NB109_101.out _).trans (((cell_far (p := ⟨gb101, _, none⟩) NB109_101.out _).trans (((cell_far (p := ⟨gb101, _, none⟩) NB109_101.out _).trans (hHeld.2.2.2))))))))⟩ (fun hHeld => ?_)
                  clear hK K
                  refine pure_ (i := 8) (N := some 3) (v := ?_) (a' := ?_) #[true, true, true, true, true, true, true, true, true] rfl rfl (any_of HT_.out (by kernel_rfl)) (fun _ _ _ h => h) (Or.inl ⟨by rfl, ?_⟩) ?_ ?_
                  rotate_left
                  ·intro w'
                   go_simp
                   with_reducible rfl
                  rotate_left
                  ·simp only [Act.put, List.setIfInBounds_toArray, List.set_cons_zero, List.set_cons_succ, i64_w, i32_w]
                   rfl
                  refine done_ (done_of HT_.out (by kernel_rfl)) ?_
                  try go_wp2
                  refine bodyPost_ret (results_ct rfl _ _ gb101 72 #[.int .i64 3, .int .i64 t107, .int .i64 t114, .int .i64 0] (0, 0) _ rfl (by (with_reducible repeat (first | refine blk_drewN ?_ _ | refine blk_drew ?_ | refine blk_alloc ?_ _)); refine blk_put (cs := #[.int .i64 3, .int .i64 t107, .int .i64 t114, .int .i64 0]) ?_ 3 _ rfl; (with_reducible repeat (first | refine blk_drewN ?_ _ | refine blk_drew ?_ | refine blk_alloc ?_ _)); refine blk_put (cs := #[.int .i64 3, .int .i64 t107, .int .i64 0, .int .i64 0]) ?_ 2 _ rfl; (with_reducible repeat (first | refine blk_drewN ?_ _ | refine blk_drew ?_ | refine blk_alloc ?_ _)); refine blk_put (cs := #[.int .i64 3, .int .i64 0, .int .i64 0, .int .i64 0]) ?_ 1 _ rfl; (with_reducible repeat (first | refine blk_drewN ?_ _ | refine blk_drew ?_ | refine blk_alloc ?_ _)); refine blk_put (cs := #[.int .i64 0, .int .i64 0, .int .i64 0, .int .i64 0]) ?_ 0 _ rfl; (with_reducible repeat (first | refine blk_drewN ?_ _ | refine blk_drew ?_ | refine blk_alloc ?_ _)); exact BK101.out) Tryd.underlying72 rfl (by kernel_rfl)) rfl ?_
                  exact ⟨by first | rfl | (simp [errW_none, errW_some] <;> rfl) | (simp [*, errW_none, errW_some] <;> rfl), by repeat (first | (with_reducible first | exact HB.out | apply below_alloc | apply pw_below_drewN | apply below_drew1 | refine below_set ?_ GE101.out | refine below_set ?_ GE109.out) | exact HB.out)⟩
                ·replace c33 := Bool.eq_false_iff.mpr c33
                 subst c33
                 have H1 : (some (3, t107, t114, 0, false)) = some (r1, r2, r3, r4, r5) := by rw [if_neg (show ¬ (false = true) by decide)] at H; exact H
                 clear H
                 have H := H1
                 clear H1
                 as_aux_lemma =>
                  simp only [Option.some.injEq, Prod.mk.injEq] at H
                  obtain ⟨rfl, rfl, rfl, rfl, rfl⟩ := H
                  have p113 : 0 ≤ (2 : Int) := (by omega)
                  have q113 : 2 < (t102.length : Int) := of_decide_eq_true (by first | (with_reducible assumption) | assumption)
                  obtain ⟨ad113, e113, hx113_0⟩ := Kd.at_string (Kd.R_reads' HO_4.out).2.2 2 p113 q113
                  obtain rfl : ad106 = ad113 := (by injection e113)
                  (try simp only [show (2 : Int).toNat = 2 from rfl, Nat.reduceMul, Nat.reduceEqDiff, Go.Addr.add, ↓reduceIte] at hx113_0)
                  have qi113 : (2 < t102.length) = True := eq_true (by omega)
                  (try rw [show ((2 : Int)).toNat = 2 from rfl] at hx113_0)
                  replace p113 := eq_true p113
                  replace q113 := eq_true q113
                  try go_wp2_with (first | ((with_reducible refine gate_callee (f := 138) rfl ?_); refine goesL_ (some 130) rfl rfl Tryd.func138 (by kernel_rfl) rfl #[.string (rdOf ByteArray.empty t102 2)] rfl (by (try simp only [List.map_toArray, List.map_cons, List.map_nil]); first | done | rfl | (simp only [List.length_drop, List.length_take]; rfl)) ?_; (with_reducible refine (logjamref06_Of.calls kj26 (rdOf ByteArray.empty t102 2) t114 _ A32.out).mono ?_); rintro e w43 ⟨rfl, hb⟩; refine ⟨_, rfl, ?_⟩; have n0_ := Aside0.mk (Kd.R_below (by (with_reducible repeat (first | apply Kd.R_alloc | apply Kd.R_drewN | apply Kd.R_drew)); exact HO_4.out) hb); have n1_ := Aside0.mk (blk_below (g := gb101) (o := .cells #[.int .i64 0, .int .i64 0, .int .i64 0, .int .i64 0] 72 (0, 0)) (by (with_reducible repeat (first | refine blk_drewN ?_ _ | refine blk_drew ?_ | refine blk_alloc ?_ _)); exact BK101.out) hb); have n2_ := Aside0.mk (blk_below (g := gb109) (o := .cells #[.int .i64 0, .int .i64 t107, .int .i64 0, .int .i64 0] 72 (0, 0)) (by (with_reducible repeat (first | refine blk_drewN ?_ _ | refine blk_drew ?_ | refine blk_alloc ?_ _)); exact BK109.out) hb); have n3_ := Aside0.mk (below_step (by repeat (first | (with_reducible first | exact HB.out | apply below_alloc | apply pw_below_drewN | apply below_drew1 | refine below_set ?_ GE101.out | refine below_set ?_ GE109.out) | exact HB.out)) hb); clear HO_4; clear BK101; clear BK109; clear HB; have HO_4 := n0_; have BK101 := n1_; have BK109 := n2_; have HB := n3_; clear n0_ n1_ n2_ n3_; (try clear hb); (try clear hb2); (try clear hk); (try clear hi); have hnb44 := NB109_101.out; have hnc44 := NB101_109.out; have hcz45_0 : w43.cell? ⟨gb109, 0, none⟩ = some (.int .i64 0) := (blk_cell BK109.out 0).trans rfl; have hcz45_1 : w43.cell? ⟨gb109, 1, none⟩ = some (.int .i64 t107) := (blk_cell BK109.out 1).trans rfl; have hcz45_2 : w43.cell? ⟨gb109, 2, none⟩ = some (.int .i64 0) := (blk_cell BK109.out 2).trans rfl; have hcz45_3 : w43.cell? ⟨gb109, 3, none⟩ = some (.int .i64 0) := (blk_cell BK109.out 3).trans rfl; have hfz45_0 := blk_frozen BK109.out 0; have hfz45_1 := blk_frozen BK109.out 1; have hfz45_2 := blk_frozen BK109.out 2; have hfz45_3 := blk_frozen BK109.out 3))
                  have n0_ : Aside0 (Kd.R Kd.string 9 ((w43.setCell ⟨gb109, 0, none⟩ (.int .i64 3)).setCell ⟨gb109, 2, none⟩ (.int .i64 t114)) w.heap.size (fun _ => True) (.slice (some ad106) t102.length co15) t102) := ⟨by (with_reducible repeat (first | apply Kd.R_alloc | apply Kd.R_drewN | apply Kd.R_drew)); exact Kd.R_mono (Kd.R_far (p := ⟨gb109, 2, none⟩) (Kd.R_far (p := ⟨gb109, 0, none⟩) (Kd.R_types HO_4.out BK109.out (by decide)) (fun _ hk => hk.2) (.int .i64 3)) (fun _ hk => hk.2) (.int .i64 t114)) (fun _ hk => trivial)⟩
                  have n1_ : Aside0 (((w43.setCell ⟨gb109, 0, none⟩ (.int .i64 3)).setCell ⟨gb109, 2, none⟩ (.int .i64 t114)).heap[gb101]? = some (.cells #[.int .i64 0, .int .i64 0, .int .i64 0, .int .i64 0] 72 (0, 0))) := ⟨by (with_reducible repeat (first | refine blk_drewN ?_ _ | refine blk_drew ?_ | refine blk_alloc ?_ _)); refine blk_far ?_ NB101_109.out _; (with_reducible repeat (first | refine blk_drewN ?_ _ | refine blk_drew ?_ | refine blk_alloc ?_ _)); refine blk_far ?_ NB101_109.out _; (with_reducible repeat (first | refine blk_drewN ?_ _ | refine blk_drew ?_ | refine blk_alloc ?_ _)); exact BK101.out⟩
                  have n2_ : Aside0 (((w43.setCell ⟨gb109, 0, none⟩ (.int .i64 3)).setCell ⟨gb109, 2, none⟩ (.int .i64 t114)).heap[gb109]? = some (.cells #[.int .i64 3, .int .i64 t107, .int .i64 t114, .int .i64 0] 72 (0, 0))) := ⟨by (with_reducible repeat (first | refine blk_drewN ?_ _ | refine blk_drew ?_ | refine blk_alloc ?_ _)); refine blk_put (cs := #[.int .i64 3, .int .i64 t107, .int .i64 0, .int .i64 0]) ?_ 2 _ rfl; (with_reducible repeat (first | refine blk_drewN ?_ _ | refine blk_drew ?_ | refine blk_alloc ?_ _)); refine blk_put (cs := #[.int .i64 0, .int .i64 t107, .int .i64 0, .int .i64 0]) ?_ 0 _ rfl; (with_reducible repeat (first | refine blk_drewN ?_ _ | refine blk_drew ?_ | refine blk_alloc ?_ _)); exact BK109.out⟩
                  have n3_ : Aside0 (Below w.heap.size w ((w43.setCell ⟨gb109, 0, none⟩ (.int .i64 3)).setCell ⟨gb109, 2, none⟩ (.int .i64 t114))) := ⟨by repeat (first | (with_reducible first | exact HB.out | apply below_alloc | apply pw_below_drewN | apply below_drew1 | refine below_set ?_ GE101.out | refine below_set ?_ GE109.out) | exact HB.out)⟩
                  (try clear HO_4); (try clear BK101); (try clear BK109); (try clear HB)
                  generalize ((w43.setCell ⟨gb109, 0, none⟩ (.int .i64 3)).setCell ⟨gb109, 2, none⟩ (.int .i64 t114)) = w46 at n0_ n1_ n2_ n3_ ⊢
                  have HO_4 := n0_; have BK101 := n1_
                  have BK109 := n2_; have HB := n3_
                  clear n0_ n1_ n2_ n3_
                  have n0_ := Aside0.mk (Kd.R_drew HO_4.out)
                  have n1_ := Aside0.mk (blk_drew BK101.out)
                  have n2_ := Aside0.mk (blk_drew BK109.out)
                  have n3_ := Aside0.mk (below_drew1 HB.out)
                  clear HO_4; clear BK101; clear BK109; clear HB; have HO_4 := n0_; have BK101 := n1_; have BK109 := n2_; have HB := n3_; clear n0_ n1_ n2_ n3_
                  refine start_ (n := 9) (S := fun w' => w'.cell? ⟨gb109, 0, none⟩ = some (.int .i64 3) ∧ w'.cell? ⟨gb109, 1, none⟩ = some (.int .i64 t107) ∧ w'.cell? ⟨gb109, 2, none⟩ = some (.int .i64 t114) ∧ w'.cell? ⟨gb109, 3, none⟩ = some (.int .i64 0)) (ds := []) #[false, false, false, false, false, false, false, false, false] (by kernel_rfl) rfl rfl ⟨(blk_cell BK109.out 0).trans rfl, (blk_cell BK109.out 1).trans rfl, (blk_cell BK109.out 2).trans rfl, (blk_cell BK109.out 3).trans rfl⟩ (fun hHeld => ?_); refine with_tabW logjamref41_read.tab19 logjamref41_read.bits19 (fun HT_ HW_ => ?_)
                  generalize w46.drew = w47 at HO_4 BK101 BK109 HB hHeld ⊢
                  refine pure_ (i := 1) (N := some 134) (v := ?_) (a' := ?_) #[false, true, false, false, false, false, false, false, false] rfl rfl (any_of HT_.out (by kernel_rfl)) (fun _ _ _ h => h) (Or.inl ⟨by rfl, ?_⟩) ?_ ?_
                  rotate_left
                  ·intro w'
                   go_simp
                   with_reducible rfl
                  rotate_left
                  ·simp only [Act.put, List.setIfInBounds_toArray, List.set_cons_zero, List.set_cons_succ, i64_w, i32_w]
                   rfl
                  refine pure_ (i := 2) (N := some 135) (v := ?_) (a' := ?_) #[false, true, true, false, false, false, false, false, false] rfl rfl (any_of HT_.out (by kernel_rfl)) (fun _ _ _ h => h) (Or.inl ⟨by rfl, ?_⟩) ?_ ?_
                  rotate_left
                  ·intro w'
                   go_simp
                   with_reducible rfl
                  rotate_left
                  ·simp only [Act.put, List.setIfInBounds_toArray, List.set_cons_zero, List.set_cons_succ, i64_w, i32_w]
                   rfl
                  refine pure_ (i := 3) (N := some 136) (v := undef) (a' := ?_) #[false, true, true, true, false, false, false, false, false] rfl rfl (any_of HT_.out (by kernel_rfl)) (fun _ _ _ h => h) (Or.inr ⟨by rfl, rfl⟩) ?_ ?_
                  rotate_left
                  ·simp only [Act.put, List.setIfInBounds_toArray, List.set_cons_zero, List.set_cons_succ, i64_w, i32_w]
                   rfl
                  refine pure_ (i := 4) (N := some 137) (v := undef) (a' := ?_) #[false, true, true, true, true, false, false, false, false] rfl rfl (any_of HT_.out (by kernel_rfl)) (fun _ _ _ h => h) (Or.inr ⟨by rfl, rfl⟩) ?_ ?_
                  rotate_left
                  ·simp only [Act.put, List.setIfInBounds_toArray, List.set_cons_zero, List.set_cons_succ, i64_w, i32_w]
                   rfl
                  refine pure_ (i := 5) (N := some 138) (v := undef) (a' := ?_) #[false, true, true, true, true, true, false, false, false] rfl rfl (any_of HT_.out (by kernel_rfl)) (fun _ _ _ h => h) (Or.inr ⟨by rfl, rfl⟩) ?_ ?_
                  rotate_left
                  ·simp only [Act.put, List.setIfInBounds_toArray, List.set_cons_zero, List.set_cons_succ, i64_w, i32_w]
                   rfl
                  refine pure_ (i := 6) (N := some 139) (v := ?_) (a' := ?_) #[false, true, true, true, true, true, true, false, false] rfl rfl (any_of HT_.out (by kernel_rfl)) (fun _ _ _ h => h) (Or.inl ⟨by rfl, ?_⟩) ?_ ?_
                  rotate_left
                  ·intro w'
                   go_simp
                   with_reducible rfl
                  rotate_left
                  ·simp only [Act.put, List.setIfInBounds_toArray, List.set_cons_zero, List.set_cons_succ, i64_w, i32_w]
                   rfl
                  refine take_ (i := 0) (N := some 133) (v := ?_) (a' := ?_) #[true, true, true, true, true, true, true, false, false] rfl rfl (take_ofW HT_.out HW_.out (by kernel_rfl)) (fun _ _ _ h => h) (Or.inl ⟨by rfl, ?_⟩) hHeld ?_ ?_
                  rotate_left
                  ·rintro w' ⟨s0, s1, s2, s3⟩
                   go_simp
                   with_reducible rfl
                  rotate_left
                  ·simp only [Act.put, List.setIfInBounds_toArray, List.set_cons_zero, List.set_cons_succ, i64_w, i32_w]
                   rfl
                  refine one_ (i := 7) (N := none) #[true, true, true, true, true, true, true, true, false] rfl rfl (one_of HT_.out (by kernel_rfl)) (by decide) (fun K hK => ?_)
                  have hs48 : w47.cell? ⟨gb101, 0, none⟩ = some (.int .i64 0) := (blk_cell BK101.out 0).trans rfl
                  have hfs48 := blk_frozen BK101.out 0
                  have hns48_1 := NB109_101.out
                  have hms48_1 := NB101_109.out
                  have hs49 : w47.cell? ⟨gb101, 1, none⟩ = some (.int .i64 0) := (blk_cell BK101.out 1).trans rfl
                  have hfs49 := blk_frozen BK101.out 1
                  have hns49_1 := NB109_101.out
                  have hms49_1 := NB101_109.out
                  have hs50 : w47.cell? ⟨gb101, 2, none⟩ = some (.int .i64 0) := (blk_cell BK101.out 2).trans rfl
                  have hfs50 := blk_frozen BK101.out 2
                  have hns50_1 := NB109_101.out
                  have hms50_1 := NB101_109.out
                  have hs51 : w47.cell? ⟨gb101, 3, none⟩ = some (.int .i64 0) := (blk_cell BK101.out 3).trans rfl
                  have hfs51 := blk_frozen BK101.out 3
                  have hns51_1 := NB109_101.out
                  have hms51_1 := NB101_109.out
                  refine skip_ (w1 := ?_) (by rfl) rfl ?_ ?_
                  rotate_left
                  ·go_simp
                   rfl
                  refine hK.out _ _ ⟨((cell_far (p := ⟨gb101, _, none⟩) NB109_101.out _).trans (((cell_far (p := ⟨gb101, _, none⟩) NB109_101.out _).trans (((cell_far (p := ⟨gb101, _, none⟩) NB109_101.out _).trans (((cell_far (p := ⟨gb101, _, none⟩) NB109_101.out _).trans (hHeld.1)))))))), ((cell_far (p := ⟨gb101, _, none⟩) NB109_101.out _).trans (((cell_far (p := ⟨gb101, _, none⟩) NB109_101.out _).trans (((cell_far (p := ⟨gb101, _, none⟩) NB109_101.out _).trans (((cell_far (p := ⟨gb101, _, none⟩) NB109_101.out _).trans (hHeld.2.1)))))))), ((cell_far (p := ⟨gb101, _, none⟩) NB109_101.out _).trans (((cell_far (p := ⟨gb101, _, none⟩) NB109_101.out _).trans (((cell_far (p := ⟨gb101, _, none⟩) NB109_101.out _).trans (((cell_far (p := ⟨gb101, _, none⟩) NB109_101.out _).trans (hHeld.2.2.1)))))))), ((cell_far (p := ⟨gb101, _, none⟩) NB109_101.out _).trans (((cell_far (p := ⟨gb101, _, none⟩) NB109_101.out _).trans (((cell_far (p := ⟨gb101, _, none⟩) NB109_101.out _).trans (((cell_far (p := ⟨gb101, _, none⟩) NB109_101.out _).trans (hHeld.2.2.2))))))))⟩ (fun hHeld => ?_)
                  clear hK K
                  refine pure_ (i := 8) (N := some 3) (v := ?_) (a' := ?_) #[true, true, true, true, true, true, true, true, true] rfl rfl (any_of HT_.out (by kernel_rfl)) (fun _ _ _ h => h) (Or.inl ⟨by rfl, ?_⟩) ?_ ?_
                  rotate_left
                  ·intro w'
                   go_simp
                   with_reducible rfl
                  rotate_left
                  ·simp only [Act.put, List.setIfInBounds_toArray, List.set_cons_zero, List.set_cons_succ, i64_w, i32_w]
                   rfl
                  refine done_ (done_of HT_.out (by kernel_rfl)) ?_
                  try go_wp2
                  refine bodyPost_ret (results_ct rfl _ _ gb101 72 #[.int .i64 3, .int .i64 t107, .int .i64 t114, .int .i64 0] (0, 0) _ rfl (by (with_reducible repeat (first | refine blk_drewN ?_ _ | refine blk_drew ?_ | refine blk_alloc ?_ _)); refine blk_put (cs := #[.int .i64 3, .int .i64 t107, .int .i64 t114, .int .i64 0]) ?_ 3 _ rfl; (with_reducible repeat (first | refine blk_drewN ?_ _ | refine blk_drew ?_ | refine blk_alloc ?_ _)); refine blk_put (cs := #[.int .i64 3, .int .i64 t107, .int .i64 0, .int .i64 0]) ?_ 2 _ rfl; (with_reducible repeat (first | refine blk_drewN ?_ _ | refine blk_drew ?_ | refine blk_alloc ?_ _)); refine blk_put (cs := #[.int .i64 3, .int .i64 0, .int .i64 0, .int .i64 0]) ?_ 1 _ rfl; (with_reducible repeat (first | refine blk_drewN ?_ _ | refine blk_drew ?_ | refine blk_alloc ?_ _)); refine blk_put (cs := #[.int .i64 0, .int .i64 0, .int .i64 0, .int .i64 0]) ?_ 0 _ rfl; (with_reducible repeat (first | refine blk_drewN ?_ _ | refine blk_drew ?_ | refine blk_alloc ?_ _)); exact BK101.out) Tryd.underlying72 rfl (by kernel_rfl)) rfl ?_
                  exact ⟨by first | rfl | (simp [errW_none, errW_some] <;> rfl) | (simp [*, errW_none, errW_some] <;> rfl), by repeat (first | (with_reducible first | exact HB.out | apply below_alloc | apply pw_below_drewN | apply below_drew1 | refine below_set ?_ GE101.out | refine below_set ?_ GE109.out) | exact HB.out)⟩
               ·rw [if_neg c31] at H
                exact absurd H (by simp)
              ·replace c30 := Bool.eq_false_iff.mpr c30
               subst c30
               have H1 : (if 2 < (t102.length : Int) then ((logjamref41_number.f kj26 (rdOf ByteArray.empty t102 2)).bind fun bt116 => (if 1 < (t102.length : Int) then (if (rdOf ByteArray.empty t102 1).toList = ([111, 117, 116] : List UInt8) then (logjamref41_read.j4 kj26 t102 t108 bt116.2 2 t107 bt116.1 0) else (logjamref41_read.j4 kj26 t102 t108 bt116.2 0 t107 bt116.1 0)) else (none))) else (none)) = some (r1, r2, r3, r4, r5) := by rw [if_neg (show ¬ (false = true) by decide)] at H; exact H
               clear H
               have H := H1
               clear H1
               by_cases c52 : 2 < (t102.length : Int)
               ·rw [if_pos c52] at H
                have c52b0 : decide (2 < (t102.length : Int)) = true := decide_eq_true c52
                have c52b1 : decide (2 < t102.length) = true := decide_eq_true (by omega)
                clear c52
                replace H := Option.bind_eq_some_iff.mp H
                obtain ⟨⟨t116, t117⟩, A530, H⟩ := H
                replace H : (if 1 < (t102.length : Int) then (if (rdOf ByteArray.empty t102 1).toList = ([111, 117, 116] : List UInt8) then (logjamref41_read.j4 kj26 t102 t108 t117 2 t107 t116 0) else (logjamref41_read.j4 kj26 t102 t108 t117 0 t107 t116 0)) else (none)) = some (r1, r2, r3, r4, r5) := H
                have A53 := Aside0.mk A530
                clear A530
                by_cases c54 : 1 < (t102.length : Int)
                ·rw [if_pos c54] at H
                 have c54b0 : decide (1 < (t102.length : Int)) = true := decide_eq_true c54
                 have c54b1 : decide (1 < t102.length) = true := decide_eq_true (by omega)
                 clear c54
                 have HC55 := Aside0.mk H
                 clear H
                 have p115 : 0 ≤ (2 : Int) := (by omega)
                 have q115 : 2 < (t102.length : Int) := of_decide_eq_true (by first | (with_reducible assumption) | assumption)
                 obtain ⟨ad115, e115, hx115_0⟩ := Kd.at_string (Kd.R_reads' HO_4.out).2.2 2 p115 q115
                 obtain rfl : ad106 = ad115 := (by injection e115)
                 (try simp only [show (2 : Int).toNat = 2 from rfl, Nat.reduceMul, Nat.reduceEqDiff, Go.Addr.add, ↓reduceIte] at hx115_0)
                 have qi115 : (2 < t102.length) = True := eq_true (by omega)
                 (try rw [show ((2 : Int)).toNat = 2 from rfl] at hx115_0)
                 replace p115 := eq_true p115
                 replace q115 := eq_true q115
                 go_upto_if 152 with (first | ((with_reducible refine gate_callee (f := 137) rfl ?_); refine goesL_ (some 144) rfl rfl Tryd.func137 (by kernel_rfl) rfl #[.string (rdOf ByteArray.empty t102 2)] rfl (by (try simp only [List.map_toArray, List.map_cons, List.map_nil]); first | done | rfl | (simp only [List.length_drop, List.length_take]; rfl)) ?_; (with_reducible refine (logjamref41_number.calls kj26 (rdOf ByteArray.empty t102 2) t116 t117 _ A53.out).mono ?_); rintro e w56 ⟨rfl, hb⟩; refine ⟨_, rfl, ?_⟩; have n0_ := Aside0.mk (Kd.R_below (by (with_reducible repeat (first | apply Kd.R_alloc | apply Kd.R_drewN | apply Kd.R_drew)); exact HO_4.out) hb); have n1_ := Aside0.mk (blk_below (g := gb101) (o := .cells #[.int .i64 0, .int .i64 0, .int .i64 0, .int .i64 0] 72 (0, 0)) (by (with_reducible repeat (first | refine blk_drewN ?_ _ | refine blk_drew ?_ | refine blk_alloc ?_ _)); exact BK101.out) hb); have n2_ := Aside0.mk (blk_below (g := gb109) (o := .cells #[.int .i64 0, .int .i64 t107, .int .i64 0, .int .i64 0] 72 (0, 0)) (by (with_reducible repeat (first | refine blk_drewN ?_ _ | refine blk_drew ?_ | refine blk_alloc ?_ _)); exact BK109.out) hb); have n3_ := Aside0.mk (below_step (by repeat (first | (with_reducible first | exact HB.out | apply below_alloc | apply pw_below_drewN | apply below_drew1 | refine below_set ?_ GE101.out | refine below_set ?_ GE109.out) | exact HB.out)) hb); clear HO_4; clear BK101; clear BK109; clear HB; have HO_4 := n0_; have BK101 := n1_; have BK109 := n2_; have HB := n3_; clear n0_ n1_ n2_ n3_; (try clear hb); (try clear hb2); (try clear hk); (try clear hi); have hnb57 := NB109_101.out; have hnc57 := NB101_109.out; have hcz58_0 : w56.cell? ⟨gb109, 0, none⟩ = some (.int .i64 0) := (blk_cell BK109.out 0).trans rfl; have hcz58_1 : w56.cell? ⟨gb109, 1, none⟩ = some (.int .i64 t107) := (blk_cell BK109.out 1).trans rfl; have hcz58_2 : w56.cell? ⟨gb109, 2, none⟩ = some (.int .i64 0) := (blk_cell BK109.out 2).trans rfl; have hcz58_3 : w56.cell? ⟨gb109, 3, none⟩ = some (.int .i64 0) := (blk_cell BK109.out 3).trans rfl; have hfz58_0 := blk_frozen BK109.out 0; have hfz58_1 := blk_frozen BK109.out 1; have hfz58_2 := blk_frozen BK109.out 2; have hfz58_3 := blk_frozen BK109.out 3; have p118 : 0 ≤ (1 : Int) := (by omega); have q118 : 1 < (t102.length : Int) := of_decide_eq_true (by first | (with_reducible assumption) | assumption); obtain ⟨ad118, e118, hx118_0⟩ := Kd.at_string (Kd.R_reads' HO_4.out).2.2 1 p118 q118; obtain rfl : ad106 = ad118 := (by injection e118); (try simp only [show (1 : Int).toNat = 1 from rfl, Nat.reduceMul, Nat.reduceEqDiff, Go.Addr.add, ↓reduceIte] at hx118_0); have qi118 : (1 < t102.length) = True := eq_true (by omega); (try rw [show ((1 : Int)).toNat = 1 from rfl] at hx118_0); have hn118_0 : ad106.block ≠ gb109 := Kd.own_blk (Kd.R_ne HO_4.out BK109.out (by decide)); replace hx118_0 := (cell_far (p := ⟨gb109, 2, none⟩) (by first | (rw [add_block]; exact hn118_0) | (show (Addr.add _ _).block ≠ _; rw [add_block]; exact hn118_0) | exact hn118_0) (.int .i64 t116)).trans hx118_0; clear hn118_0; replace p118 := eq_true p118; replace q118 := eq_true q118))
                 (try simp only [Act.put, List.setIfInBounds_toArray, List.set_cons_zero, List.set_cons_succ])
                 go_cut [] (fun wc => ∃ (kq : Nat) (x110000_54 : Int), Aside0 (logjamref41_read.j4 kq t102 t108 t117 x110000_54 t107 t116 0 = some (r1, r2, r3, r4, r5)) ∧ Aside0 (kq ≤ kj26) ∧ Aside0 (Kd.R Kd.string 9 wc w.heap.size (fun _ => True) (.slice (some ad106) t102.length co15) t102) ∧ Aside0 (wc.heap[gb101]? = some (.cells #[.int .i64 0, .int .i64 0, .int .i64 0, .int .i64 0] 72 (0, 0))) ∧ Aside0 (wc.heap[gb109]? = some (.cells #[.int .i64 x110000_54, .int .i64 t107, .int .i64 t116, .int .i64 0] 72 (0, 0))) ∧ Aside0 (Below w.heap.size w wc))
                 case first => as_aux_lemma =>
                  have H := HC55.out
                  clear HC55
                  by_cases c59 : (rdOf ByteArray.empty t102 1).toList = ([111, 117, 116] : List UInt8)
                  ·rw [if_pos c59] at H
                   have c59b0 : ((rdOf ByteArray.empty t102 1).toList == ([111, 117, 116] : List UInt8)) = true := beq_iff_eq.mpr c59
                   have c59b1 : ((rdOf ByteArray.empty t102 1).toList != ([111, 117, 116] : List UInt8)) = false := bne_eq_false_iff_eq.mpr c59
                   clear c59
                   (first | rw [c59b0] | (simp only [i64_w, i32_w]; rw [c59b0]) | skip)
                   as_aux_lemma =>
                    have H' := Aside0.mk H
                    clear H
                    have hnb60 := NB109_101.out
                    have hnc60 := NB101_109.out
                    have hcz61_0 : w56.cell? ⟨gb109, 0, none⟩ = some (.int .i64 0) := (blk_cell BK109.out 0).trans rfl
                    have hcz61_1 : w56.cell? ⟨gb109, 1, none⟩ = some (.int .i64 t107) := (blk_cell BK109.out 1).trans rfl
                    have hcz61_2 : w56.cell? ⟨gb109, 2, none⟩ = some (.int .i64 0) := (blk_cell BK109.out 2).trans rfl
                    have hcz61_3 : w56.cell? ⟨gb109, 3, none⟩ = some (.int .i64 0) := (blk_cell BK109.out 3).trans rfl
                    have hfz61_0 := blk_frozen BK109.out 0
                    have hfz61_1 := blk_frozen BK109.out 1
                    have hfz61_2 := blk_frozen BK109.out 2
                    have hfz61_3 := blk_frozen BK109.out 3
                    go_wp2
                    go_meet
                    case rel => exact ⟨_, (2), H', ⟨by have := HJ2.out; have := HJ13.out; have := HJ22.out; have := HJ26.out; first | omega | exact Nat.le_refl _⟩, ⟨by (with_reducible repeat (first | apply Kd.R_alloc | apply Kd.R_drewN | apply Kd.R_drew)); exact Kd.R_mono (Kd.R_far (p := ⟨gb109, 0, none⟩) (Kd.R_far (p := ⟨gb109, 2, none⟩) (Kd.R_types HO_4.out BK109.out (by decide)) (fun _ hk => hk.2) (.int .i64 t116)) (fun _ hk => hk.2) (.int .i64 2)) (fun _ hk => trivial)⟩, ⟨by (with_reducible repeat (first | refine blk_drewN ?_ _ | refine blk_drew ?_ | refine blk_alloc ?_ _)); refine blk_far ?_ NB101_109.out _; (with_reducible repeat (first | refine blk_drewN ?_ _ | refine blk_drew ?_ | refine blk_alloc ?_ _)); refine blk_far ?_ NB101_109.out _; (with_reducible repeat (first | refine blk_drewN ?_ _ | refine blk_drew ?_ | refine blk_alloc ?_ _)); exact BK101.out⟩, ⟨by (with_reducible repeat (first | refine blk_drewN ?_ _ | refine blk_drew ?_ | refine blk_alloc ?_ _)); refine blk_put (cs := #[.int .i64 0, .int .i64 t107, .int .i64 t116, .int .i64 0]) ?_ 0 _ rfl; (with_reducible repeat (first | refine blk_drewN ?_ _ | refine blk_drew ?_ | refine blk_alloc ?_ _)); refine blk_put (cs := #[.int .i64 0, .int .i64 t107, .int .i64 0, .int .i64 0]) ?_ 2 _ rfl; (with_reducible repeat (first | refine blk_drewN ?_ _ | refine blk_drew ?_ | refine blk_alloc ?_ _)); exact BK109.out⟩, ⟨by repeat (first | (with_reducible first | exact HB.out | apply below_alloc | apply pw_below_drewN | apply below_drew1 | refine below_set ?_ GE101.out | refine below_set ?_ GE109.out) | exact HB.out)⟩⟩
                  ·rw [if_neg c59] at H
                   have c59b0 : ((rdOf ByteArray.empty t102 1).toList == ([111, 117, 116] : List UInt8)) = false := beq_eq_false_iff_ne.mpr c59
                   have c59b1 : ((rdOf ByteArray.empty t102 1).toList != ([111, 117, 116] : List UInt8)) = true := bne_iff_ne.mpr c59
                   (first | rw [c59b0] | (simp only [i64_w, i32_w]; rw [c59b0]) | skip)
                   as_aux_lemma =>
                    have H' := Aside0.mk H
                    clear H
                    go_wp2
                    go_meet
                    case rel => exact ⟨_, (0), H', ⟨by have := HJ2.out; have := HJ13.out; have := HJ22.out; have := HJ26.out; first | omega | exact Nat.le_refl _⟩, ⟨by (with_reducible repeat (first | apply Kd.R_alloc | apply Kd.R_drewN | apply Kd.R_drew)); exact Kd.R_mono (Kd.R_far (p := ⟨gb109, 2, none⟩) (Kd.R_types HO_4.out BK109.out (by decide)) (fun _ hk => hk.2) (.int .i64 t116)) (fun _ hk => trivial)⟩, ⟨by (with_reducible repeat (first | refine blk_drewN ?_ _ | refine blk_drew ?_ | refine blk_alloc ?_ _)); refine blk_far ?_ NB101_109.out _; (with_reducible repeat (first | refine blk_drewN ?_ _ | refine blk_drew ?_ | refine blk_alloc ?_ _)); exact BK101.out⟩, ⟨by (with_reducible repeat (first | refine blk_drewN ?_ _ | refine blk_drew ?_ | refine blk_alloc ?_ _)); refine blk_put (cs := #[.int .i64 0, .int .i64 t107, .int .i64 0, .int .i64 0]) ?_ 2 _ rfl; (with_reducible repeat (first | refine blk_drewN ?_ _ | refine blk_drew ?_ | refine blk_alloc ?_ _)); exact BK109.out⟩, ⟨by repeat (first | (with_reducible first | exact HB.out | apply below_alloc | apply pw_below_drewN | apply below_drew1 | refine below_set ?_ GE101.out | refine below_set ?_ GE109.out) | exact HB.out)⟩⟩
                 case rest => as_aux_lemma =>
                  clear HC55; try clear c1; try clear p1; try clear q1; try clear hx1; try clear qi1; try clear c2; try clear p2; try clear c3; try clear c4; try clear c5; try clear c6; try clear c6b0; try clear c6b1; try clear c7; try clear c7b0; try clear c7b1; try clear c9; try clear c10; try clear p10; try clear q10; try clear hx10; try clear qi10; try clear c11; try clear c11b0; try clear c11b1; try clear p11; try clear q11; try clear hx11; try clear qi11; try clear c12; try clear c12b0; try clear c12b1; try clear c13; try clear c18; try clear c20; try clear c20b0; try clear c20b1; try clear c21; try clear c21b0; try clear c21b1; try clear c22; try clear c24; try clear c24b0; try clear c24b1; try clear c25; try clear c25b0; try clear c25b1; try clear c26; try clear c28; try clear c28b0; try clear c28b1; try clear c29; try clear c29b0; try clear c29b1; try clear c30; try clear c31; try clear c31b0; try clear c31b1; try clear c33; try clear c35; try clear c44; try clear c52; try clear c52b0; try clear c52b1; try clear c54; try clear c54b0; try clear c54b1; try clear c57; try clear c59; try clear c59b0; try clear c59b1; try clear c60; try clear hcz19_0; try clear hcz19_1; try clear hcz19_2; try clear hcz19_3; try clear hcz36_0; try clear hcz36_1; try clear hcz36_2; try clear hcz36_3; try clear hcz45_0; try clear hcz45_1; try clear hcz45_2; try clear hcz45_3; try clear hcz58_0; try clear hcz58_1; try clear hcz58_2; try clear hcz58_3; try clear hcz61_0; try clear hcz61_1; try clear hcz61_2; try clear hcz61_3; try clear hfz19_0; try clear hfz19_1; try clear hfz19_2; try clear hfz19_3; try clear hfz36_0; try clear hfz36_1; try clear hfz36_2; try clear hfz36_3; try clear hfz45_0; try clear hfz45_1; try clear hfz45_2; try clear hfz45_3; try clear hfz58_0; try clear hfz58_1; try clear hfz58_2; try clear hfz58_3; try clear hfz61_0; try clear hfz61_1; try clear hfz61_2; try clear hfz61_3; try clear hx105_0; try clear hx106_0; try clear hx110_0; try clear hx111_0; try clear hx112_0; try clear hx113_0; try clear hx115_0; try clear hx118_0; try clear p1; try clear p10; try clear p105; try clear p106; try clear p11; try clear p110; try clear p111; try clear p112; try clear p113; try clear p115; try clear p118; try clear p2; try clear q1; try clear q10; try clear q105; try clear q106; try clear q11; try clear q110; try clear q111; try clear q112; try clear q113; try clear q115; try clear q118
                  obtain ⟨kq, x110000_54, HA, HJ54, HO_4, BK101, BK109, HB⟩ := hcut
                  cases kq with
                  | zero => exact absurd HA.out (by simp [logjamref41_read.j4])
                  | succ kj54 =>
                   have H := HA.out
                   clear HA
                   simp only [logjamref41_read.j4] at H
                   by_cases c62 : 1 < (t102.length : Int)
                   ·rw [if_pos c62] at H
                    have c62b0 : decide (1 < (t102.length : Int)) = true := decide_eq_true c62
                    have c62b1 : decide (1 < t102.length) = true := decide_eq_true (by omega)
                    clear c62
                    have HC63 := Aside0.mk H
                    clear H
                    have p119 : 0 ≤ (1 : Int) := (by omega)
                    have q119 : 1 < (t102.length : Int) := of_decide_eq_true (by first | (with_reducible assumption) | assumption)
                    obtain ⟨ad119, e119, hx119_0⟩ := Kd.at_string (Kd.R_reads' HO_4.out).2.2 1 p119 q119
                    obtain rfl : ad106 = ad119 := (by injection e119)
                    (try simp only [show (1 : Int).toNat = 1 from rfl, Nat.reduceMul, Nat.reduceEqDiff, Go.Addr.add, ↓reduceIte] at hx119_0)
                    have qi119 : (1 < t102.length) = True := eq_true (by omega)
                    (try rw [show ((1 : Int)).toNat = 1 from rfl] at hx119_0)
                    replace p119 := eq_true p119
                    replace q119 := eq_true q119
                    go_upto_if 157 with (fail)
                    go_cut [] (fun wc => ∃ (kq : Nat) (x110000_62 : Int), Aside0 (logjamref41_read.j5 kq t102 t108 t117 x110000_62 t107 t116 0 = some (r1, r2, r3, r4, r5)) ∧ Aside0 (kq ≤ kj54) ∧ Aside0 (Kd.R Kd.string 9 wc w.heap.size (fun _ => True) (.slice (some ad106) t102.length co15) t102) ∧ Aside0 (wc.heap[gb101]? = some (.cells #[.int .i64 0, .int .i64 0, .int .i64 0, .int .i64 0] 72 (0, 0))) ∧ Aside0 (wc.heap[gb109]? = some (.cells #[.int .i64 x110000_62, .int .i64 t107, .int .i64 t116, .int .i64 0] 72 (0, 0))) ∧ Aside0 (Below w.heap.size w wc))
                    case first => as_aux_lemma =>
                     have H := HC63.out
                     clear HC63
                     by_cases c64 : (rdOf ByteArray.empty t102 1).toList = ([119, 97, 107, 101] : List UInt8)
                     ·rw [if_pos c64] at H
                      have c64b0 : ((rdOf ByteArray.empty t102 1).toList == ([119, 97, 107, 101] : List UInt8)) = true := beq_iff_eq.mpr c64
                      have c64b1 : ((rdOf ByteArray.empty t102 1).toList != ([119, 97, 107, 101] : List UInt8)) = false := bne_eq_false_iff_eq.mpr c64
                      clear c64
                      (first | rw [c64b0] | (simp only [i64_w, i32_w]; rw [c64b0]) | skip)
                      as_aux_lemma =>
                       have H' := Aside0.mk H
                       clear H
                       have hnb65 := NB109_101.out
                       have hnc65 := NB101_109.out
                       have hcz66_0 : wc.cell? ⟨gb109, 0, none⟩ = some (.int .i64 x110000_54) := (blk_cell BK109.out 0).trans rfl
                       have hcz66_1 : wc.cell? ⟨gb109, 1, none⟩ = some (.int .i64 t107) := (blk_cell BK109.out 1).trans rfl
                       have hcz66_2 : wc.cell? ⟨gb109, 2, none⟩ = some (.int .i64 t116) := (blk_cell BK109.out 2).trans rfl
                       have hcz66_3 : wc.cell? ⟨gb109, 3, none⟩ = some (.int .i64 0) := (blk_cell BK109.out 3).trans rfl
                       have hfz66_0 := blk_frozen BK109.out 0
                       have hfz66_1 := blk_frozen BK109.out 1
                       have hfz66_2 := blk_frozen BK109.out 2
                       have hfz66_3 := blk_frozen BK109.out 3
                       go_wp2
                       go_meet
                       case rel => exact ⟨_, (4), H', ⟨by have := HJ2.out; have := HJ13.out; have := HJ22.out; have := HJ26.out; have := HJ54.out; first | omega | exact Nat.le_refl _⟩, ⟨by (with_reducible repeat (first | apply Kd.R_alloc | apply Kd.R_drewN | apply Kd.R_drew)); exact Kd.R_mono (Kd.R_far (p := ⟨gb109, 0, none⟩) (Kd.R_types HO_4.out BK109.out (by decide)) (fun _ hk => hk.2) (.int .i64 4)) (fun _ hk => trivial)⟩, ⟨by (with_reducible repeat (first | refine blk_drewN ?_ _ | refine blk_drew ?_ | refine blk_alloc ?_ _)); refine blk_far ?_ NB101_109.out _; (with_reducible repeat (first | refine blk_drewN ?_ _ | refine blk_drew ?_ | refine blk_alloc ?_ _)); exact BK101.out⟩, ⟨by (with_reducible repeat (first | refine blk_drewN ?_ _ | refine blk_drew ?_ | refine blk_alloc ?_ _)); refine blk_put (cs := #[.int .i64 x110000_54, .int .i64 t107, .int .i64 t116, .int .i64 0]) ?_ 0 _ rfl; (with_reducible repeat (first | refine blk_drewN ?_ _ | refine blk_drew ?_ | refine blk_alloc ?_ _)); exact BK109.out⟩, ⟨by repeat (first | (with_reducible first | exact HB.out | apply below_alloc | apply pw_below_drewN | apply below_drew1 | refine below_set ?_ GE101.out | refine below_set ?_ GE109.out) | exact HB.out)⟩⟩
                     ·rw [if_neg c64] at H
                      have c64b0 : ((rdOf ByteArray.empty t102 1).toList == ([119, 97, 107, 101] : List UInt8)) = false := beq_eq_false_iff_ne.mpr c64
                      have c64b1 : ((rdOf ByteArray.empty t102 1).toList != ([119, 97, 107, 101] : List UInt8)) = true := bne_iff_ne.mpr c64
                      (first | rw [c64b0] | (simp only [i64_w, i32_w]; rw [c64b0]) | skip)
                      as_aux_lemma =>
                       have H' := Aside0.mk H
                       clear H
                       go_wp2
                       go_meet
                       case rel => exact ⟨_, (x110000_54), H', ⟨by have := HJ2.out; have := HJ13.out; have := HJ22.out; have := HJ26.out; have := HJ54.out; first | omega | exact Nat.le_refl _⟩, ⟨by (with_reducible repeat (first | apply Kd.R_alloc | apply Kd.R_drewN | apply Kd.R_drew)); exact HO_4.out⟩, ⟨by (with_reducible repeat (first | refine blk_drewN ?_ _ | refine blk_drew ?_ | refine blk_alloc ?_ _)); exact BK101.out⟩, ⟨by (with_reducible repeat (first | refine blk_drewN ?_ _ | refine blk_drew ?_ | refine blk_alloc ?_ _)); exact BK109.out⟩, ⟨by repeat (first | (with_reducible first | exact HB.out | apply below_alloc | apply pw_below_drewN | apply below_drew1 | refine below_set ?_ GE101.out | refine below_set ?_ GE109.out) | exact HB.out)⟩⟩
                    case rest => as_aux_lemma =>
                     clear HC63; try clear c1; try clear p1; try clear q1; try clear hx1; try clear qi1; try clear c2; try clear p2; try clear c3; try clear c4; try clear c5; try clear c6; try clear c6b0; try clear c6b1; try clear c7; try clear c7b0; try clear c7b1; try clear c9; try clear c10; try clear p10; try clear q10; try clear hx10; try clear qi10; try clear c11; try clear c11b0; try clear c11b1; try clear p11; try clear q11; try clear hx11; try clear qi11; try clear c12; try clear c12b0; try clear c12b1; try clear c13; try clear c18; try clear c20; try clear c20b0; try clear c20b1; try clear c21; try clear c21b0; try clear c21b1; try clear c22; try clear c24; try clear c24b0; try clear c24b1; try clear c25; try clear c25b0; try clear c25b1; try clear c26; try clear c28; try clear c28b0; try clear c28b1; try clear c29; try clear c29b0; try clear c29b1; try clear c30; try clear c31; try clear c31b0; try clear c31b1; try clear c33; try clear c35; try clear c44; try clear c52; try clear c52b0; try clear c52b1; try clear c54; try clear c54b0; try clear c54b1; try clear c57; try clear c59; try clear c59b0; try clear c59b1; try clear c60; try clear c62; try clear c62b0; try clear c62b1; try clear c64; try clear c64b0; try clear c64b1; try clear c65; try clear hcz19_0; try clear hcz19_1; try clear hcz19_2; try clear hcz19_3; try clear hcz36_0; try clear hcz36_1; try clear hcz36_2; try clear hcz36_3; try clear hcz45_0; try clear hcz45_1; try clear hcz45_2; try clear hcz45_3; try clear hcz58_0; try clear hcz58_1; try clear hcz58_2; try clear hcz58_3; try clear hcz61_0; try clear hcz61_1; try clear hcz61_2; try clear hcz61_3; try clear hcz66_0; try clear hcz66_1; try clear hcz66_2; try clear hcz66_3; try clear hfz19_0; try clear hfz19_1; try clear hfz19_2; try clear hfz19_3; try clear hfz36_0; try clear hfz36_1; try clear hfz36_2; try clear hfz36_3; try clear hfz45_0; try clear hfz45_1; try clear hfz45_2; try clear hfz45_3; try clear hfz58_0; try clear hfz58_1; try clear hfz58_2; try clear hfz58_3; try clear hfz61_0; try clear hfz61_1; try clear hfz61_2; try clear hfz61_3; try clear hfz66_0; try clear hfz66_1; try clear hfz66_2; try clear hfz66_3; try clear hx105_0; try clear hx106_0; try clear hx110_0; try clear hx111_0; try clear hx112_0; try clear hx113_0; try clear hx115_0; try clear hx118_0; try clear hx119_0; try clear p1; try clear p10; try clear p105; try clear p106; try clear p11; try clear p110; try clear p111; try clear p112; try clear p113; try clear p115; try clear p118; try clear p119; try clear p2; try clear q1; try clear q10; try clear q105; try clear q106; try clear q11; try clear q110; try clear q111; try clear q112; try clear q113; try clear q115; try clear q118; try clear q119
                     obtain ⟨kq, x110000_62, HA, HJ62, HO_4, BK101, BK109, HB⟩ := hcut
                     cases kq with
                     | zero => exact absurd HA.out (by simp [logjamref41_read.j5])
                     | succ kj62 =>
                      have H := HA.out
                      clear HA
                      simp only [logjamref41_read.j5] at H
                      by_cases c67 : 1 < (t102.length : Int)
                      ·rw [if_pos c67] at H
                       have c67b0 : decide (1 < (t102.length : Int)) = true := decide_eq_true c67
                       have c67b1 : decide (1 < t102.length) = true := decide_eq_true (by omega)
                       clear c67
                       have HC68 := Aside0.mk H
                       clear H
                       have p120 : 0 ≤ (1 : Int) := (by omega)
                       have q120 : 1 < (t102.length : Int) := of_decide_eq_true (by first | (with_reducible assumption) | assumption)
                       obtain ⟨ad120, e120, hx120_0⟩ := Kd.at_string (Kd.R_reads' HO_4.out).2.2 1 p120 q120
                       obtain rfl : ad106 = ad120 := (by injection e120)
                       (try simp only [show (1 : Int).toNat = 1 from rfl, Nat.reduceMul, Nat.reduceEqDiff, Go.Addr.add, ↓reduceIte] at hx120_0)
                       have qi120 : (1 < t102.length) = True := eq_true (by omega)
                       (try rw [show ((1 : Int)).toNat = 1 from rfl] at hx120_0)
                       replace p120 := eq_true p120
                       replace q120 := eq_true q120
                       go_upto_if 162 with (fail)
                       go_cut [] (fun wc => ∃ (kq : Nat) (x110000_67 : Int), Aside0 (logjamref41_read.j6 kq t102 t108 t117 x110000_67 t107 t116 0 = some (r1, r2, r3, r4, r5)) ∧ Aside0 (kq ≤ kj62) ∧ Aside0 (Kd.R Kd.string 9 wc w.heap.size (fun _ => True) (.slice (some ad106) t102.length co15) t102) ∧ Aside0 (wc.heap[gb101]? = some (.cells #[.int .i64 0, .int .i64 0, .int .i64 0, .int .i64 0] 72 (0, 0))) ∧ Aside0 (wc.heap[gb109]? = some (.cells #[.int .i64 x110000_67, .int .i64 t107, .int .i64 t116, .int .i64 0] 72 (0, 0))) ∧ Aside0 (Below w.heap.size w wc))
                       case first => as_aux_lemma =>
                        have H := HC68.out
                        clear HC68
                        by_cases c69 : (rdOf ByteArray.empty t102 1).toList = ([97, 98, 111, 114, 116] : List UInt8)
                        ·rw [if_pos c69] at H
                         have c69b0 : ((rdOf ByteArray.empty t102 1).toList == ([97, 98, 111, 114, 116] : List UInt8)) = true := beq_iff_eq.mpr c69
                         have c69b1 : ((rdOf ByteArray.empty t102 1).toList != ([97, 98, 111, 114, 116] : List UInt8)) = false := bne_eq_false_iff_eq.mpr c69
                         clear c69
                         (first | rw [c69b0] | (simp only [i64_w, i32_w]; rw [c69b0]) | skip)
                         as_aux_lemma =>
                          have H' := Aside0.mk H
                          clear H
                          have hnb70 := NB109_101.out
                          have hnc70 := NB101_109.out
                          have hcz71_0 : wc.cell? ⟨gb109, 0, none⟩ = some (.int .i64 x110000_62) := (blk_cell BK109.out 0).trans rfl
                          have hcz71_1 : wc.cell? ⟨gb109, 1, none⟩ = some (.int .i64 t107) := (blk_cell BK109.out 1).trans rfl
                          have hcz71_2 : wc.cell? ⟨gb109, 2, none⟩ = some (.int .i64 t116) := (blk_cell BK109.out 2).trans rfl
                          have hcz71_3 : wc.cell? ⟨gb109, 3, none⟩ = some (.int .i64 0) := (blk_cell BK109.out 3).trans rfl
                          have hfz71_0 := blk_frozen BK109.out 0
                          have hfz71_1 := blk_frozen BK109.out 1
                          have hfz71_2 := blk_frozen BK109.out 2
                          have hfz71_3 := blk_frozen BK109.out 3
                          go_wp2
                          go_meet
                          case rel => exact ⟨_, (7), H', ⟨by have := HJ2.out; have := HJ13.out; have := HJ22.out; have := HJ26.out; have := HJ54.out; have := HJ62.out; first | omega | exact Nat.le_refl _⟩, ⟨by (with_reducible repeat (first | apply Kd.R_alloc | apply Kd.R_drewN | apply Kd.R_drew)); exact Kd.R_mono (Kd.R_far (p := ⟨gb109, 0, none⟩) (Kd.R_types HO_4.out BK109.out (by decide)) (fun _ hk => hk.2) (.int .i64 7)) (fun _ hk => trivial)⟩, ⟨by (with_reducible repeat (first | refine blk_drewN ?_ _ | refine blk_drew ?_ | refine blk_alloc ?_ _)); refine blk_far ?_ NB101_109.out _; (with_reducible repeat (first | refine blk_drewN ?_ _ | refine blk_drew ?_ | refine blk_alloc ?_ _)); exact BK101.out⟩, ⟨by (with_reducible repeat (first | refine blk_drewN ?_ _ | refine blk_drew ?_ | refine blk_alloc ?_ _)); refine blk_put (cs := #[.int .i64 x110000_62, .int .i64 t107, .int .i64 t116, .int .i64 0]) ?_ 0 _ rfl; (with_reducible repeat (first | refine blk_drewN ?_ _ | refine blk_drew ?_ | refine blk_alloc ?_ _)); exact BK109.out⟩, ⟨by repeat (first | (with_reducible first | exact HB.out | apply below_alloc | apply pw_below_drewN | apply below_drew1 | refine below_set ?_ GE101.out | refine below_set ?_ GE109.out) | exact HB.out)⟩⟩
                        ·rw [if_neg c69] at H
                         have c69b0 : ((rdOf ByteArray.empty t102 1).toList == ([97, 98, 111, 114, 116] : List UInt8)) = false := beq_eq_false_iff_ne.mpr c69
                         have c69b1 : ((rdOf ByteArray.empty t102 1).toList != ([97, 98, 111, 114, 116] : List UInt8)) = true := bne_iff_ne.mpr c69
                         (first | rw [c69b0] | (simp only [i64_w, i32_w]; rw [c69b0]) | skip)
                         as_aux_lemma =>
                          have H' := Aside0.mk H
                          clear H
                          go_wp2
                          go_meet
                          case rel => exact ⟨_, (x110000_62), H', ⟨by have := HJ2.out; have := HJ13.out; have := HJ22.out; have := HJ26.out; have := HJ54.out; have := HJ62.out; first | omega | exact Nat.le_refl _⟩, ⟨by (with_reducible repeat (first | apply Kd.R_alloc | apply Kd.R_drewN | apply Kd.R_drew)); exact HO_4.out⟩, ⟨by (with_reducible repeat (first | refine blk_drewN ?_ _ | refine blk_drew ?_ | refine blk_alloc ?_ _)); exact BK101.out⟩, ⟨by (with_reducible repeat (first | refine blk_drewN ?_ _ | refine blk_drew ?_ | refine blk_alloc ?_ _)); exact BK109.out⟩, ⟨by repeat (first | (with_reducible first | exact HB.out | apply below_alloc | apply pw_below_drewN | apply below_drew1 | refine below_set ?_ GE101.out | refine below_set ?_ GE109.out) | exact HB.out)⟩⟩
                       case rest => as_aux_lemma =>
                        clear HC68; try clear c1; try clear p1; try clear q1; try clear hx1; try clear qi1; try clear c2; try clear p2; try clear c3; try clear c4; try clear c5; try clear c6; try clear c6b0; try clear c6b1; try clear c7; try clear c7b0; try clear c7b1; try clear c9; try clear c10; try clear p10; try clear q10; try clear hx10; try clear qi10; try clear c11; try clear c11b0; try clear c11b1; try clear p11; try clear q11; try clear hx11; try clear qi11; try clear c12; try clear c12b0; try clear c12b1; try clear p12; try clear q12; try clear hx12; try clear qi12; try clear c13; try clear c18; try clear c20; try clear c20b0; try clear c20b1; try clear c21; try clear c21b0; try clear c21b1; try clear c22; try clear c24; try clear c24b0; try clear c24b1; try clear c25; try clear c25b0; try clear c25b1; try clear c26; try clear c28; try clear c28b0; try clear c28b1; try clear c29; try clear c29b0; try clear c29b1; try clear c30; try clear c31; try clear c31b0; try clear c31b1; try clear c33; try clear c35; try clear c44; try clear c52; try clear c52b0; try clear c52b1; try clear c54; try clear c54b0; try clear c54b1; try clear c57; try clear c59; try clear c59b0; try clear c59b1; try clear c60; try clear c62; try clear c62b0; try clear c62b1; try clear c64; try clear c64b0; try clear c64b1; try clear c65; try clear c67; try clear c67b0; try clear c67b1; try clear c69; try clear c69b0; try clear c69b1; try clear c70; try clear hcz19_0; try clear hcz19_1; try clear hcz19_2; try clear hcz19_3; try clear hcz36_0; try clear hcz36_1; try clear hcz36_2; try clear hcz36_3; try clear hcz45_0; try clear hcz45_1; try clear hcz45_2; try clear hcz45_3; try clear hcz58_0; try clear hcz58_1; try clear hcz58_2; try clear hcz58_3; try clear hcz61_0; try clear hcz61_1; try clear hcz61_2; try clear hcz61_3; try clear hcz66_0; try clear hcz66_1; try clear hcz66_2; try clear hcz66_3; try clear hcz71_0; try clear hcz71_1; try clear hcz71_2; try clear hcz71_3; try clear hfz19_0; try clear hfz19_1; try clear hfz19_2; try clear hfz19_3; try clear hfz36_0; try clear hfz36_1; try clear hfz36_2; try clear hfz36_3; try clear hfz45_0; try clear hfz45_1; try clear hfz45_2; try clear hfz45_3; try clear hfz58_0; try clear hfz58_1; try clear hfz58_2; try clear hfz58_3; try clear hfz61_0; try clear hfz61_1; try clear hfz61_2; try clear hfz61_3; try clear hfz66_0; try clear hfz66_1; try clear hfz66_2; try clear hfz66_3; try clear hfz71_0; try clear hfz71_1; try clear hfz71_2; try clear hfz71_3; try clear hx105_0; try clear hx106_0; try clear hx110_0; try clear hx111_0; try clear hx112_0; try clear hx113_0; try clear hx115_0; try clear hx118_0; try clear hx119_0; try clear hx120_0; try clear p1; try clear p10; try clear p105; try clear p106; try clear p11; try clear p110; try clear p111; try clear p112; try clear p113; try clear p115; try clear p118; try clear p119; try clear p120; try clear p2; try clear q1; try clear q10; try clear q105; try clear q106; try clear q11; try clear q110; try clear q111; try clear q112; try clear q113; try clear q115; try clear q118; try clear q119; try clear q120
                        obtain ⟨kq, x110000_67, HA, HJ67, HO_4, BK101, BK109, HB⟩ := hcut
                        cases kq with
                        | zero => exact absurd HA.out (by simp [logjamref41_read.j6])
                        | succ kj67 =>
                         have H := HA.out
                         clear HA
                         simp only [logjamref41_read.j6] at H
                         have HC72 := Aside0.mk H
                         clear H
                         go_upto_region 28 with (fail)
                         go_cut [3] (fun v3 wc => ∃ (kq : Nat) (x3_71 : Bool) (x102000_71 : Int) (x102001_71 : Int) (x102002_71 : Int) (x102003_71 : Int), v3 = .bool x3_71 ∧ Aside0 (logjamref41_read.j7 kq x3_71 x102000_71 x102001_71 x102002_71 x102003_71 = some (r1, r2, r3, r4, r5)) ∧ Aside0 (kq ≤ kj67) ∧ Aside0 (wc.heap[gb101]? = some (.cells #[.int .i64 x102000_71, .int .i64 x102001_71, .int .i64 x102002_71, .int .i64 x102003_71] 72 (0, 0))) ∧ Aside0 (wc.heap[gb109]? = some (.cells #[.int .i64 x110000_67, .int .i64 t107, .int .i64 t116, .int .i64 0] 72 (0, 0))) ∧ Aside0 (Below w.heap.size w wc))
                         case first => as_aux_lemma =>
                          have H := HC72.out
                          clear HC72
                          by_cases c73 : t108 = true
                          ·subst c73
                           have H1 : (if t117 = true then (if (t102.length : Int) = 3 then (logjamref41_read.j7 kj67 (decide (x110000_67 > 0)) x110000_67 t107 t116 0) else (logjamref41_read.j7 kj67 false x110000_67 t107 t116 0)) else (logjamref41_read.j7 kj67 false x110000_67 t107 t116 0)) = some (r1, r2, r3, r4, r5) := by rw [if_pos rfl] at H; exact H
                           clear H
                           have H := H1
                           clear H1
                           by_cases c74 : t117 = true
                           ·subst c74
                            have H1 : (if (t102.length : Int) = 3 then (logjamref41_read.j7 kj67 (decide (x110000_67 > 0)) x110000_67 t107 t116 0) else (logjamref41_read.j7 kj67 false x110000_67 t107 t116 0)) = some (r1, r2, r3, r4, r5) := by rw [if_pos rfl] at H; exact H
                            clear H
                            have H := H1
                            clear H1
                            by_cases c75 : (t102.length : Int) = 3
                            ·rw [if_pos c75] at H
                             have c75b0 : ((t102.length : Int) == 3) = true := beq_iff_eq.mpr c75
                             have c75b1 : ((t102.length : Int) != 3) = false := bne_eq_false_iff_eq.mpr c75
                             clear c75
                             (first | rw [c75b0] | (simp only [i64_w, i32_w]; rw [c75b0]) | skip)
                             as_aux_lemma =>
                              have H' := Aside0.mk H
                              clear H
                              try go_wp2
                              have n0_ := Aside0.mk (Kd.R_drew HO_4.out)
                              have n1_ := Aside0.mk (blk_drew BK101.out)
                              have n2_ := Aside0.mk (blk_drew BK109.out)
                              have n3_ := Aside0.mk (below_drew1 HB.out)
                              clear HO_4; clear BK101; clear BK109; clear HB; have HO_4 := n0_; have BK101 := n1_; have BK109 := n2_; have HB := n3_; clear n0_ n1_ n2_ n3_
                              refine start_ (n := 17) (S := fun w' => w'.cell? ⟨gb109, 0, none⟩ = some (.int .i64 x110000_67) ∧ w'.cell? ⟨gb109, 1, none⟩ = some (.int .i64 t107) ∧ w'.cell? ⟨gb109, 2, none⟩ = some (.int .i64 t116) ∧ w'.cell? ⟨gb109, 3, none⟩ = some (.int .i64 0)) (ds := []) #[false, false, false, false, false, false, false, false, false, false, false, false, false, false, false, false, false] (by kernel_rfl) rfl rfl ⟨(blk_cell BK109.out 0).trans rfl, (blk_cell BK109.out 1).trans rfl, (blk_cell BK109.out 2).trans rfl, (blk_cell BK109.out 3).trans rfl⟩ (fun hHeld => ?_); refine with_tabW logjamref41_read.tab28 logjamref41_read.bits28 (fun HT_ HW_ => ?_)
                              generalize wc.drew = w76 at HO_4 BK101 BK109 HB hHeld ⊢
                              refine pure_ (i := 1) (N := some 165) (v := ?_) (a' := ?_) #[false, true, false, false, false, false, false, false, false, false, false, false, false, false, false, false, false] rfl rfl (any_of HT_.out (by kernel_rfl)) (fun _ _ _ h => h) (Or.inl ⟨by rfl, ?_⟩) ?_ ?_
                              rotate_left
                              ·intro w'
                               go_simp
                               with_reducible rfl
                              rotate_left
                              ·simp only [Act.put, List.setIfInBounds_toArray, List.set_cons_zero, List.set_cons_succ, i64_w, i32_w]
                               rfl
                              refine pure_ (i := 2) (N := some 166) (v := ?_) (a' := ?_) #[false, true, true, false, false, false, false, false, false, false, false, false, false, false, false, false, false] rfl rfl (any_of HT_.out (by kernel_rfl)) (fun _ _ _ h => h) (Or.inl ⟨by rfl, ?_⟩) ?_ ?_
                              rotate_left
                              ·intro w'
                               go_simp
                               with_reducible rfl
                              rotate_left
                              ·simp only [Act.put, List.setIfInBounds_toArray, List.set_cons_zero, List.set_cons_succ, i64_w, i32_w]
                               rfl
                              refine pure_ (i := 3) (N := some 167) (v := ?_) (a' := ?_) #[false, true, true, true, false, false, false, false, false, false, false, false, false, false, false, false, false] rfl rfl (any_of HT_.out (by kernel_rfl)) (fun _ _ _ h => h) (Or.inl ⟨by rfl, ?_⟩) ?_ ?_
                              rotate_left
                              ·intro w'
                               go_simp
                               with_reducible rfl
                              rotate_left
                              ·simp only [Act.put, List.setIfInBounds_toArray, List.set_cons_zero, List.set_cons_succ, i64_w, i32_w]
                               rfl
                              refine pure_ (i := 4) (N := some 168) (v := ?_) (a' := ?_) #[false, true, true, true, true, false, false, false, false, false, false, false, false, false, false, false, false] rfl rfl (any_of HT_.out (by kernel_rfl)) (fun _ _ _ h => h) (Or.inl ⟨by rfl, ?_⟩) ?_ ?_
                              rotate_left
                              ·intro w'
                               go_simp
                               with_reducible rfl
                              rotate_left
                              ·simp only [Act.put, List.setIfInBounds_toArray, List.set_cons_zero, List.set_cons_succ, i64_w, i32_w]
                               rfl
                              refine pure_ (i := 5) (N := some 169) (v := ?_) (a' := ?_) #[false, true, true, true, true, true, false, false, false, false, false, false, false, false, false, false, false] rfl rfl (any_of HT_.out (by kernel_rfl)) (fun _ _ _ h => h) (Or.inl ⟨by rfl, ?_⟩) ?_ ?_
                              rotate_left
                              ·intro w'
                               go_simp
                               with_reducible rfl
                              rotate_left
                              ·simp only [Act.put, List.setIfInBounds_toArray, List.set_cons_zero, List.set_cons_succ, i64_w, i32_w]
                               rfl
                              refine pure_ (i := 6) (N := some 170) (v := ?_) (a' := ?_) #[false, true, true, true, true, true, true, false, false, false, false, false, false, false, false, false, false] rfl rfl (any_of HT_.out (by kernel_rfl)) (fun _ _ _ h => h) (Or.inl ⟨by rfl, ?_⟩) ?_ ?_
                              rotate_left
                              ·intro w'
                               go_simp
                               with_reducible rfl
                              rotate_left
                              ·simp only [Act.put, List.setIfInBounds_toArray, List.set_cons_zero, List.set_cons_succ, i64_w, i32_w]
                               rfl
                              refine pure_ (i := 7) (N := some 171) (v := ?_) (a' := ?_) #[false, true, true, true, true, true, true, true, false, false, false, false, false, false, false, false, false] rfl rfl (any_of HT_.out (by kernel_rfl)) (fun _ _ _ h => h) (Or.inl ⟨by rfl, ?_⟩) ?_ ?_
                              rotate_left
                              ·intro w'
                               go_simp
                               with_reducible rfl
                              rotate_left
                              ·simp only [Act.put, List.setIfInBounds_toArray, List.set_cons_zero, List.set_cons_succ, i64_w, i32_w]
                               rfl
                              refine pure_ (i := 8) (N := some 172) (v := ?_) (a' := ?_) #[false, true, true, true, true, true, true, true, true, false, false, false, false, false, false, false, false] rfl rfl (any_of HT_.out (by kernel_rfl)) (fun _ _ _ h => h) (Or.inl ⟨by rfl, ?_⟩) ?_ ?_
                              rotate_left
                              ·intro w'
                               go_simp
                               with_reducible rfl
                              rotate_left
                              ·simp only [Act.put, List.setIfInBounds_toArray, List.set_cons_zero, List.set_cons_succ, i64_w, i32_w]
                               rfl
                              refine pure_ (i := 9) (N := some 173) (v := ?_) (a' := ?_) #[false, true, true, true, true, true, true, true, true, true, false, false, false, false, false, false, false] rfl rfl (any_of HT_.out (by kernel_rfl)) (fun _ _ _ h => h) (Or.inl ⟨by rfl, ?_⟩) ?_ ?_
                              rotate_left
                              ·intro w'
                               go_simp
                               with_reducible rfl
                              rotate_left
                              ·simp only [Act.put, List.setIfInBounds_toArray, List.set_cons_zero, List.set_cons_succ, i64_w, i32_w]
                               rfl
                              refine pure_ (i := 10) (N := some 174) (v := ?_) (a' := ?_) #[false, true, true, true, true, true, true, true, true, true, true, false, false, false, false, false, false] rfl rfl (any_of HT_.out (by kernel_rfl)) (fun _ _ _ h => h) (Or.inl ⟨by rfl, ?_⟩) ?_ ?_
                              rotate_left
                              ·intro w'
                               go_simp
                               with_reducible rfl
                              rotate_left
                              ·simp only [Act.put, List.setIfInBounds_toArray, List.set_cons_zero, List.set_cons_succ, i64_w, i32_w]
                               rfl
                              refine pure_ (i := 11) (N := some 175) (v := ?_) (a' := ?_) #[false, true, true, true, true, true, true, true, true, true, true, true, false, false, false, false, false] rfl rfl (any_of HT_.out (by kernel_rfl)) (fun _ _ _ h => h) (Or.inl ⟨by rfl, ?_⟩) ?_ ?_
                              rotate_left
                              ·intro w'
                               go_simp
                               with_reducible rfl
                              rotate_left
                              ·simp only [Act.put, List.setIfInBounds_toArray, List.set_cons_zero, List.set_cons_succ, i64_w, i32_w]
                               rfl
                              refine take_ (i := 0) (N := some 164) (v := ?_) (a' := ?_) #[true, true, true, true, true, true, true, true, true, true, true, true, false, false, false, false, false] rfl rfl (take_ofW HT_.out HW_.out (by kernel_rfl)) (fun _ _ _ h => h) (Or.inl ⟨by rfl, ?_⟩) hHeld ?_ ?_
                              rotate_left
                              ·rintro w' ⟨s0, s1, s2, s3⟩
                               go_simp
                               with_reducible rfl
                              rotate_left
                              ·simp only [Act.put, List.setIfInBounds_toArray, List.set_cons_zero, List.set_cons_succ, i64_w, i32_w]
                               rfl
                              refine take_ (i := 12) (N := some 176) (v := ?_) (a' := ?_) #[true, true, true, true, true, true, true, true, true, true, true, true, true, false, false, false, false] rfl rfl (take_ofW HT_.out HW_.out (by kernel_rfl)) (fun _ _ _ h => h) (Or.inl ⟨by rfl, ?_⟩) hHeld ?_ ?_
                              rotate_left
                              ·rintro w' ⟨s0, s1, s2, s3⟩
                               go_simp
                               with_reducible rfl
                              rotate_left
                              ·simp only [Act.put, List.setIfInBounds_toArray, List.set_cons_zero, List.set_cons_succ, i64_w, i32_w]
                               rfl
                              refine pure_ (i := 13) (N := some 177) (v := ?_) (a' := ?_) #[true, true, true, true, true, true, true, true, true, true, true, true, true, true, false, false, false] rfl rfl (any_of HT_.out (by kernel_rfl)) (fun _ _ _ h => h) (Or.inl ⟨by rfl, ?_⟩) ?_ ?_
                              rotate_left
                              ·intro w'
                               go_simp
                               with_reducible rfl
                              rotate_left
                              ·simp only [Act.put, List.setIfInBounds_toArray, List.set_cons_zero, List.set_cons_succ, i64_w, i32_w]
                               rfl
                              refine pure_ (i := 14) (N := some 178) (v := ?_) (a' := ?_) #[true, true, true, true, true, true, true, true, true, true, true, true, true, true, true, false, false] rfl rfl (any_of HT_.out (by kernel_rfl)) (fun _ _ _ h => h) (Or.inl ⟨by rfl, ?_⟩) ?_ ?_
                              rotate_left
                              ·intro w'
                               go_simp
                               with_reducible rfl
                              rotate_left
                              ·simp only [Act.put, List.setIfInBounds_toArray, List.set_cons_zero, List.set_cons_succ, i64_w, i32_w]
                               rfl
                              refine one_ (i := 15) (N := none) #[true, true, true, true, true, true, true, true, true, true, true, true, true, true, true, true, false] rfl rfl (one_of HT_.out (by kernel_rfl)) (by decide) (fun K hK => ?_)
                              have hs77 : w76.cell? ⟨gb101, 0, none⟩ = some (.int .i64 0) := (blk_cell BK101.out 0).trans rfl
                              have hfs77 := blk_frozen BK101.out 0
                              have hns77_1 := NB109_101.out
                              have hms77_1 := NB101_109.out
                              have hs78 : w76.cell? ⟨gb101, 1, none⟩ = some (.int .i64 0) := (blk_cell BK101.out 1).trans rfl
                              have hfs78 := blk_frozen BK101.out 1
                              have hns78_1 := NB109_101.out
                              have hms78_1 := NB101_109.out
                              have hs79 : w76.cell? ⟨gb101, 2, none⟩ = some (.int .i64 0) := (blk_cell BK101.out 2).trans rfl
                              have hfs79 := blk_frozen BK101.out 2
                              have hns79_1 := NB109_101.out
                              have hms79_1 := NB101_109.out
                              have hs80 : w76.cell? ⟨gb101, 3, none⟩ = some (.int .i64 0) := (blk_cell BK101.out 3).trans rfl
                              have hfs80 := blk_frozen BK101.out 3
                              have hns80_1 := NB109_101.out
                              have hms80_1 := NB101_109.out
                              refine skip_ (w1 := ?_) (by rfl) rfl ?_ ?_
                              rotate_left
                              ·go_simp
                               rfl
                              refine hK.out _ _ ⟨((cell_far (p := ⟨gb101, _, none⟩) NB109_101.out _).trans (((cell_far (p := ⟨gb101, _, none⟩) NB109_101.out _).trans (((cell_far (p := ⟨gb101, _, none⟩) NB109_101.out _).trans (((cell_far (p := ⟨gb101, _, none⟩) NB109_101.out _).trans (hHeld.1)))))))), ((cell_far (p := ⟨gb101, _, none⟩) NB109_101.out _).trans (((cell_far (p := ⟨gb101, _, none⟩) NB109_101.out _).trans (((cell_far (p := ⟨gb101, _, none⟩) NB109_101.out _).trans (((cell_far (p := ⟨gb101, _, none⟩) NB109_101.out _).trans (hHeld.2.1)))))))), ((cell_far (p := ⟨gb101, _, none⟩) NB109_101.out _).trans (((cell_far (p := ⟨gb101, _, none⟩) NB109_101.out _).trans (((cell_far (p := ⟨gb101, _, none⟩) NB109_101.out _).trans (((cell_far (p := ⟨gb101, _, none⟩) NB109_101.out _).trans (hHeld.2.2.1)))))))), ((cell_far (p := ⟨gb101, _, none⟩) NB109_101.out _).trans (((cell_far (p := ⟨gb101, _, none⟩) NB109_101.out _).trans (((cell_far (p := ⟨gb101, _, none⟩) NB109_101.out _).trans (((cell_far (p := ⟨gb101, _, none⟩) NB109_101.out _).trans (hHeld.2.2.2))))))))⟩ (fun hHeld => ?_)
                              clear hK K
                              refine pure_ (i := 16) (N := some 3) (v := ?_) (a' := ?_) #[true, true, true, true, true, true, true, true, true, true, true, true, true, true, true, true, true] rfl rfl (any_of HT_.out (by kernel_rfl)) (fun _ _ _ h => h) (Or.inl ⟨by rfl, ?_⟩) ?_ ?_
                              rotate_left
                              ·intro w'
                               go_simp
                               with_reducible rfl
                              rotate_left
                              ·simp only [Act.put, List.setIfInBounds_toArray, List.set_cons_zero, List.set_cons_succ, i64_w, i32_w]
                               rfl
                              refine done_ (done_of HT_.out (by kernel_rfl)) ?_
                              try go_wp2
                              go_meet
                              case rel => exact ⟨_, (decide (x110000_67 > 0)), (x110000_67), (t107), (t116), (0), (by first | rfl | (simp; done) | (simp only [emptyNe_, emptyEq_]; done) | (simp [*]; done)), H', ⟨by have := HJ2.out; have := HJ13.out; have := HJ22.out; have := HJ26.out; have := HJ54.out; have := HJ62.out; have := HJ67.out; first | omega | exact Nat.le_refl _⟩, ⟨by (with_reducible repeat (first | refine blk_drewN ?_ _ | refine blk_drew ?_ | refine blk_alloc ?_ _)); refine blk_put (cs := #[.int .i64 x110000_67, .int .i64 t107, .int .i64 t116, .int .i64 0]) ?_ 3 _ rfl; (with_reducible repeat (first | refine blk_drewN ?_ _ | refine blk_drew ?_ | refine blk_alloc ?_ _)); refine blk_put (cs := #[.int .i64 x110000_67, .int .i64 t107, .int .i64 0, .int .i64 0]) ?_ 2 _ rfl; (with_reducible repeat (first | refine blk_drewN ?_ _ | refine blk_drew ?_ | refine blk_alloc ?_ _)); refine blk_put (cs := #[.int .i64 x110000_67, .int .i64 0, .int .i64 0, .int .i64 0]) ?_ 1 _ rfl; (with_reducible repeat (first | refine blk_drewN ?_ _ | refine blk_drew ?_ | refine blk_alloc ?_ _)); refine blk_put (cs := #[.int .i64 0, .int .i64 0, .int .i64 0, .int .i64 0]) ?_ 0 _ rfl; (with_reducible repeat (first | refine blk_drewN ?_ _ | refine blk_drew ?_ | refine blk_alloc ?_ _)); exact BK101.out⟩, ⟨by (with_reducible repeat (first | refine blk_drewN ?_ _ | refine blk_drew ?_ | refine blk_alloc ?_ _)); refine blk_far ?_ NB109_101.out _; (with_reducible repeat (first | refine blk_drewN ?_ _ | refine blk_drew ?_ | refine blk_alloc ?_ _)); refine blk_far ?_ NB109_101.out _; (with_reducible repeat (first | refine blk_drewN ?_ _ | refine blk_drew ?_ | refine blk_alloc ?_ _)); refine blk_far ?_ NB109_101.out _; (with_reducible repeat (first | refine blk_drewN ?_ _ | refine blk_drew ?_ | refine blk_alloc ?_ _)); refine blk_far ?_ NB109_101.out _; (with_reducible repeat (first | refine blk_drewN ?_ _ | refine blk_drew ?_ | refine blk_alloc ?_ _)); exact BK109.out⟩, ⟨by repeat (first | (with_reducible first | exact HB.out | apply below_alloc | apply pw_below_drewN | apply below_drew1 | refine below_set ?_ GE101.out | refine below_set ?_ GE109.out) | exact HB.out)⟩⟩
                            ·rw [if_neg c75] at H
                             have c75b0 : ((t102.length : Int) == 3) = false := beq_eq_false_iff_ne.mpr c75
                             have c75b1 : ((t102.length : Int) != 3) = true := bne_iff_ne.mpr c75
                             (first | rw [c75b0] | (simp only [i64_w, i32_w]; rw [c75b0]) | skip)
                             as_aux_lemma =>
                              have H' := Aside0.mk H
                              clear H
                              try go_wp2
                              have n0_ := Aside0.mk (Kd.R_drew HO_4.out)
                              have n1_ := Aside0.mk (blk_drew BK101.out)
                              have n2_ := Aside0.mk (blk_drew BK109.out)
                              have n3_ := Aside0.mk (below_drew1 HB.out)
                              clear HO_4; clear BK101; clear BK109; clear HB; have HO_4 := n0_; have BK101 := n1_; have BK109 := n2_; have HB := n3_; clear n0_ n1_ n2_ n3_
                              refine start_ (n := 17) (S := fun w' => w'.cell? ⟨gb109, 0, none⟩ = some (.int .i64 x110000_67) ∧ w'.cell? ⟨gb109, 1, none⟩ = some (.int .i64 t107) ∧ w'.cell? ⟨gb109, 2, none⟩ = some (.int .i64 t116) ∧ w'.cell? ⟨gb109, 3, none⟩ = some (.int .i64 0)) (ds := []) #[false, false, false, false, false, false, false, false, false, false, false, false, false, false, false, false, false] (by kernel_rfl) rfl rfl ⟨(blk_cell BK109.out 0).trans rfl, (blk_cell BK109.out 1).trans rfl, (blk_cell BK109.out 2).trans rfl, (blk_cell BK109.out 3).trans rfl⟩ (fun hHeld => ?_); refine with_tabW logjamref41_read.tab28 logjamref41_read.bits28 (fun HT_ HW_ => ?_)
                              generalize wc.drew = w81 at HO_4 BK101 BK109 HB hHeld ⊢
                              refine pure_ (i := 1) (N := some 165) (v := ?_) (a' := ?_) #[false, true, false, false, false, false, false, false, false, false, false, false, false, false, false, false, false] rfl rfl (any_of HT_.out (by kernel_rfl)) (fun _ _ _ h => h) (Or.inl ⟨by rfl, ?_⟩) ?_ ?_
                              rotate_left
                              ·intro w'
                               go_simp
                               with_reducible rfl
                              rotate_left
                              ·simp only [Act.put, List.setIfInBounds_toArray, List.set_cons_zero, List.set_cons_succ, i64_w, i32_w]
                               rfl
                              refine pure_ (i := 2) (N := some 166) (v := ?_) (a' := ?_) #[false, true, true, false, false, false, false, false, false, false, false, false, false, false, false, false, false] rfl rfl (any_of HT_.out (by kernel_rfl)) (fun _ _ _ h => h) (Or.inl ⟨by rfl, ?_⟩) ?_ ?_
                              rotate_left
                              ·intro w'
                               go_simp
                               with_reducible rfl
                              rotate_left
                              ·simp only [Act.put, List.setIfInBounds_toArray, List.set_cons_zero, List.set_cons_succ, i64_w, i32_w]
                               rfl
                              refine pure_ (i := 3) (N := some 167) (v := ?_) (a' := ?_) #[false, true, true, true, false, false, false, false, false, false, false, false, false, false, false, false, false] rfl rfl (any_of HT_.out (by kernel_rfl)) (fun _ _ _ h => h) (Or.inl ⟨by rfl, ?_⟩) ?_ ?_
                              rotate_left
                              ·intro w'
                               go_simp
                               with_reducible rfl
                              rotate_left
                              ·simp only [Act.put, List.setIfInBounds_toArray, List.set_cons_zero, List.set_cons_succ, i64_w, i32_w]
                               rfl
                              refine pure_ (i := 4) (N := some 168) (v := ?_) (a' := ?_) #[false, true, true, true, true, false, false, false, false, false, false, false, false, false, false, false, false] rfl rfl (any_of HT_.out (by kernel_rfl)) (fun _ _ _ h => h) (Or.inl ⟨by rfl, ?_⟩) ?_ ?_
                              rotate_left
                              ·intro w'
                               go_simp
                               with_reducible rfl
                              rotate_left
                              ·simp only [Act.put, List.setIfInBounds_toArray, List.set_cons_zero, List.set_cons_succ, i64_w, i32_w]
                               rfl
                              refine pure_ (i := 5) (N := some 169) (v := ?_) (a' := ?_) #[false, true, true, true, true, true, false, false, false, false, false, false, false, false, false, false, false] rfl rfl (any_of HT_.out (by kernel_rfl)) (fun _ _ _ h => h) (Or.inl ⟨by rfl, ?_⟩) ?_ ?_
                              rotate_left
                              ·intro w'
                               go_simp
                               with_reducible rfl
                              rotate_left
                              ·simp only [Act.put, List.setIfInBounds_toArray, List.set_cons_zero, List.set_cons_succ, i64_w, i32_w]
                               rfl
                              refine pure_ (i := 6) (N := some 170) (v := ?_) (a' := ?_) #[false, true, true, true, true, true, true, false, false, false, false, false, false, false, false, false, false] rfl rfl (any_of HT_.out (by kernel_rfl)) (fun _ _ _ h => h) (Or.inl ⟨by rfl, ?_⟩) ?_ ?_
                              rotate_left
                              ·intro w'
                               go_simp
                               with_reducible rfl
                              rotate_left
                              ·simp only [Act.put, List.setIfInBounds_toArray, List.set_cons_zero, List.set_cons_succ, i64_w, i32_w]
                               rfl
                              refine pure_ (i := 7) (N := some 171) (v := ?_) (a' := ?_) #[false, true, true, true, true, true, true, true, false, false, false, false, false, false, false, false, false] rfl rfl (any_of HT_.out (by kernel_rfl)) (fun _ _ _ h => h) (Or.inl ⟨by rfl, ?_⟩) ?_ ?_
                              rotate_left
                              ·intro w'
                               go_simp
                               with_reducible rfl
                              rotate_left
                              ·simp only [Act.put, List.setIfInBounds_toArray, List.set_cons_zero, List.set_cons_succ, i64_w, i32_w]
                               rfl
                              refine pure_ (i := 8) (N := some 172) (v := ?_) (a' := ?_) #[false, true, true, true, true, true, true, true, true, false, false, false, false, false, false, false, false] rfl rfl (any_of HT_.out (by kernel_rfl)) (fun _ _ _ h => h) (Or.inl ⟨by rfl, ?_⟩) ?_ ?_
                              rotate_left
                              ·intro w'
                               go_simp
                               with_reducible rfl
                              rotate_left
                              ·simp only [Act.put, List.setIfInBounds_toArray, List.set_cons_zero, List.set_cons_succ, i64_w, i32_w]
                               rfl
                              refine pure_ (i := 9) (N := some 173) (v := ?_) (a' := ?_) #[false, true, true, true, true, true, true, true, true, true, false, false, false, false, false, false, false] rfl rfl (any_of HT_.out (by kernel_rfl)) (fun _ _ _ h => h) (Or.inl ⟨by rfl, ?_⟩) ?_ ?_
                              rotate_left
                              ·intro w'
                               go_simp
                               with_reducible rfl
                              rotate_left
                              ·simp only [Act.put, List.setIfInBounds_toArray, List.set_cons_zero, List.set_cons_succ, i64_w, i32_w]
                               rfl
                              refine pure_ (i := 10) (N := some 174) (v := ?_) (a' := ?_) #[false, true, true, true, true, true, true, true, true, true, true, false, false, false, false, false, false] rfl rfl (any_of HT_.out (by kernel_rfl)) (fun _ _ _ h => h) (Or.inl ⟨by rfl, ?_⟩) ?_ ?_
                              rotate_left
                              ·intro w'
                               go_simp
                               with_reducible rfl
                              rotate_left
                              ·simp only [Act.put, List.setIfInBounds_toArray, List.set_cons_zero, List.set_cons_succ, i64_w, i32_w]
                               rfl
                              refine pure_ (i := 11) (N := some 175) (v := undef) (a' := ?_) #[false, true, true, true, true, true, true, true, true, true, true, true, false, false, false, false, false] rfl rfl (any_of HT_.out (by kernel_rfl)) (fun _ _ _ h => h) (Or.inr ⟨by rfl, rfl⟩) ?_ ?_
                              rotate_left
                              ·simp only [Act.put, List.setIfInBounds_toArray, List.set_cons_zero, List.set_cons_succ, i64_w, i32_w]
                               rfl
                              refine pure_ (i := 12) (N := some 176) (v := undef) (a' := ?_) #[false, true, true, true, true, true, true, true, true, true, true, true, true, false, false, false, false] rfl rfl (any_of HT_.out (by kernel_rfl)) (fun _ _ _ h => h) (Or.inr ⟨by rfl, rfl⟩) ?_ ?_
                              rotate_left
                              ·simp only [Act.put, List.setIfInBounds_toArray, List.set_cons_zero, List.set_cons_succ, i64_w, i32_w]
                               rfl
                              refine pure_ (i := 13) (N := some 177) (v := undef) (a' := ?_) #[false, true, true, true, true, true, true, true, true, true, true, true, true, true, false, false, false] rfl rfl (any_of HT_.out (by kernel_rfl)) (fun _ _ _ h => h) (Or.inr ⟨by rfl, rfl⟩) ?_ ?_
                              rotate_left
                              ·simp only [Act.put, List.setIfInBounds_toArray, List.set_cons_zero, List.set_cons_succ, i64_w, i32_w]
                               rfl
                              refine pure_ (i := 14) (N := some 178) (v := ?_) (a' := ?_) #[false, true, true, true, true, true, true, true, true, true, true, true, true, true, true, false, false] rfl rfl (any_of HT_.out (by kernel_rfl)) (fun _ _ _ h => h) (Or.inl ⟨by rfl, ?_⟩) ?_ ?_
                              rotate_left
                              ·intro w'
                               go_simp
                               with_reducible rfl
                              rotate_left
                              ·simp only [Act.put, List.setIfInBounds_toArray, List.set_cons_zero, List.set_cons_succ, i64_w, i32_w]
                               rfl
                              refine take_ (i := 0) (N := some 164) (v := ?_) (a' := ?_) #[true, true, true, true, true, true, true, true, true, true, true, true, true, true, true, false, false] rfl rfl (take_ofW HT_.out HW_.out (by kernel_rfl)) (fun _ _ _ h => h) (Or.inl ⟨by rfl, ?_⟩) hHeld ?_ ?_
                              rotate_left
                              ·rintro w' ⟨s0, s1, s2, s3⟩
                               go_simp
                               with_reducible rfl
                              rotate_left
                              ·simp only [Act.put, List.setIfInBounds_toArray, List.set_cons_zero, List.set_cons_succ, i64_w, i32_w]
                               rfl
                              refine one_ (i := 15) (N := none) #[true, true, true, true, true, true, true, true, true, true, true, true, true, true, true, true, false] rfl rfl (one_of HT_.out (by kernel_rfl)) (by decide) (fun K hK => ?_)
                              have hs82 : w81.cell? ⟨gb101, 0, none⟩ = some (.int .i64 0) := (blk_cell BK101.out 0).trans rfl
                              have hfs82 := blk_frozen BK101.out 0
                              have hns82_1 := NB109_101.out
                              have hms82_1 := NB101_109.out
                              have hs83 : w81.cell? ⟨gb101, 1, none⟩ = some (.int .i64 0) := (blk_cell BK101.out 1).trans rfl
                              have hfs83 := blk_frozen BK101.out 1
                              have hns83_1 := NB109_101.out
                              have hms83_1 := NB101_109.out
                              have hs84 : w81.cell? ⟨gb101, 2, none⟩ = some (.int .i64 0) := (blk_cell BK101.out 2).trans rfl
                              have hfs84 := blk_frozen BK101.out 2
                              have hns84_1 := NB109_101.out
                              have hms84_1 := NB101_109.out
                              have hs85 : w81.cell? ⟨gb101, 3, none⟩ = some (.int .i64 0) := (blk_cell BK101.out 3).trans rfl
                              have hfs85 := blk_frozen BK101.out 3
                              have hns85_1 := NB109_101.out
                              have hms85_1 := NB101_109.out
                              refine skip_ (w1 := ?_) (by rfl) rfl ?_ ?_
                              rotate_left
                              ·go_simp
                               rfl
                              refine hK.out _ _ ⟨((cell_far (p := ⟨gb101, _, none⟩) NB109_101.out _).trans (((cell_far (p := ⟨gb101, _, none⟩) NB109_101.out _).trans (((cell_far (p := ⟨gb101, _, none⟩) NB109_101.out _).trans (((cell_far (p := ⟨gb101, _, none⟩) NB109_101.out _).trans (hHeld.1)))))))), ((cell_far (p := ⟨gb101, _, none⟩) NB109_101.out _).trans (((cell_far (p := ⟨gb101, _, none⟩) NB109_101.out _).trans (((cell_far (p := ⟨gb101, _, none⟩) NB109_101.out _).trans (((cell_far (p := ⟨gb101, _, none⟩) NB109_101.out _).trans (hHeld.2.1)))))))), ((cell_far (p := ⟨gb101, _, none⟩) NB109_101.out _).trans (((cell_far (p := ⟨gb101, _, none⟩) NB109_101.out _).trans (((cell_far (p := ⟨gb101, _, none⟩) NB109_101.out _).trans (((cell_far (p := ⟨gb101, _, none⟩) NB109_101.out _).trans (hHeld.2.2.1)))))))), ((cell_far (p := ⟨gb101, _, none⟩) NB109_101.out _).trans (((cell_far (p := ⟨gb101, _, none⟩) NB109_101.out _).trans (((cell_far (p := ⟨gb101, _, none⟩) NB109_101.out _).trans (((cell_far (p := ⟨gb101, _, none⟩) NB109_101.out _).trans (hHeld.2.2.2))))))))⟩ (fun hHeld => ?_)
                              clear hK K
                              refine pure_ (i := 16) (N := some 3) (v := ?_) (a' := ?_) #[true, true, true, true, true, true, true, true, true, true, true, true, true, true, true, true, true] rfl rfl (any_of HT_.out (by kernel_rfl)) (fun _ _ _ h => h) (Or.inl ⟨by rfl, ?_⟩) ?_ ?_
                              rotate_left
                              ·intro w'
                               go_simp
                               with_reducible rfl
                              rotate_left
                              ·simp only [Act.put, List.setIfInBounds_toArray, List.set_cons_zero, List.set_cons_succ, i64_w, i32_w]
                               rfl
                              refine done_ (done_of HT_.out (by kernel_rfl)) ?_
                              try go_wp2
                              go_meet
                              case rel => exact ⟨_, (false), (x110000_67), (t107), (t116), (0), (by first | rfl | (simp; done) | (simp only [emptyNe_, emptyEq_]; done) | (simp [*]; done)), H', ⟨by have := HJ2.out; have := HJ13.out; have := HJ22.out; have := HJ26.out; have := HJ54.out; have := HJ62.out; have := HJ67.out; first | omega | exact Nat.le_refl _⟩, ⟨by (with_reducible repeat (first | refine blk_drewN ?_ _ | refine blk_drew ?_ | refine blk_alloc ?_ _)); refine blk_put (cs := #[.int .i64 x110000_67, .int .i64 t107, .int .i64 t116, .int .i64 0]) ?_ 3 _ rfl; (with_reducible repeat (first | refine blk_drewN ?_ _ | refine blk_drew ?_ | refine blk_alloc ?_ _)); refine blk_put (cs := #[.int .i64 x110000_67, .int .i64 t107, .int .i64 0, .int .i64 0]) ?_ 2 _ rfl; (with_reducible repeat (first | refine blk_drewN ?_ _ | refine blk_drew ?_ | refine blk_alloc ?_ _)); refine blk_put (cs := #[.int .i64 x110000_67, .int .i64 0, .int .i64 0, .int .i64 0]) ?_ 1 _ rfl; (with_reducible repeat (first | refine blk_drewN ?_ _ | refine blk_drew ?_ | refine blk_alloc ?_ _)); refine blk_put (cs := #[.int .i64 0, .int .i64 0, .int .i64 0, .int .i64 0]) ?_ 0 _ rfl; (with_reducible repeat (first | refine blk_drewN ?_ _ | refine blk_drew ?_ | refine blk_alloc ?_ _)); exact BK101.out⟩, ⟨by (with_reducible repeat (first | refine blk_drewN ?_ _ | refine blk_drew ?_ | refine blk_alloc ?_ _)); refine blk_far ?_ NB109_101.out _; (with_reducible repeat (first | refine blk_drewN ?_ _ | refine blk_drew ?_ | refine blk_alloc ?_ _)); refine blk_far ?_ NB109_101.out _; (with_reducible repeat (first | refine blk_drewN ?_ _ | refine blk_drew ?_ | refine blk_alloc ?_ _)); refine blk_far ?_ NB109_101.out _; (with_reducible repeat (first | refine blk_drewN ?_ _ | refine blk_drew ?_ | refine blk_alloc ?_ _)); refine blk_far ?_ NB109_101.out _; (with_reducible repeat (first | refine blk_drewN ?_ _ | refine blk_drew ?_ | refine blk_alloc ?_ _)); exact BK109.out⟩, ⟨by repeat (first | (with_reducible first | exact HB.out | apply below_alloc | apply pw_below_drewN | apply below_drew1 | refine below_set ?_ GE101.out | refine below_set ?_ GE109.out) | exact HB.out)⟩⟩
                           ·replace c74 := Bool.eq_false_iff.mpr c74
                            subst c74
                            have H1 : (logjamref41_read.j7 kj67 false x110000_67 t107 t116 0) = some (r1, r2, r3, r4, r5) := by rw [if_neg (show ¬ (false = true) by decide)] at H; exact H
                            clear H
                            have H := H1
                            clear H1
                            as_aux_lemma =>
                             have H' := Aside0.mk H
                             clear H
                             try go_wp2
                             have n0_ := Aside0.mk (Kd.R_drew HO_4.out)
                             have n1_ := Aside0.mk (blk_drew BK101.out)
                             have n2_ := Aside0.mk (blk_drew BK109.out)
                             have n3_ := Aside0.mk (below_drew1 HB.out)
                             clear HO_4; clear BK101; clear BK109; clear HB; have HO_4 := n0_; have BK101 := n1_; have BK109 := n2_; have HB := n3_; clear n0_ n1_ n2_ n3_
                             refine start_ (n := 17) (S := fun w' => w'.cell? ⟨gb109, 0, none⟩ = some (.int .i64 x110000_67) ∧ w'.cell? ⟨gb109, 1, none⟩ = some (.int .i64 t107) ∧ w'.cell? ⟨gb109, 2, none⟩ = some (.int .i64 t116) ∧ w'.cell? ⟨gb109, 3, none⟩ = some (.int .i64 0)) (ds := []) #[false, false, false, false, false, false, false, false, false, false, false, false, false, false, false, false, false] (by kernel_rfl) rfl rfl ⟨(blk_cell BK109.out 0).trans rfl, (blk_cell BK109.out 1).trans rfl, (blk_cell BK109.out 2).trans rfl, (blk_cell BK109.out 3).trans rfl⟩ (fun hHeld => ?_); refine with_tabW logjamref41_read.tab28 logjamref41_read.bits28 (fun HT_ HW_ => ?_)
                             generalize wc.drew = w86 at HO_4 BK101 BK109 HB hHeld ⊢
                             refine pure_ (i := 1) (N := some 165) (v := ?_) (a' := ?_) #[false, true, false, false, false, false, false, false, false, false, false, false, false, false, false, false, false] rfl rfl (any_of HT_.out (by kernel_rfl)) (fun _ _ _ h => h) (Or.inl ⟨by rfl, ?_⟩) ?_ ?_
                             rotate_left
                             ·intro w'
                              go_simp
                              with_reducible rfl
                             rotate_left
                             ·simp only [Act.put, List.setIfInBounds_toArray, List.set_cons_zero, List.set_cons_succ, i64_w, i32_w]
                              rfl
                             refine pure_ (i := 2) (N := some 166) (v := ?_) (a' := ?_) #[false, true, true, false, false, false, false, false, false, false, false, false, false, false, false, false, false] rfl rfl (any_of HT_.out (by kernel_rfl)) (fun _ _ _ h => h) (Or.inl ⟨by rfl, ?_⟩) ?_ ?_
                             rotate_left
                             ·intro w'
                              go_simp
                              with_reducible rfl
                             rotate_left
                             ·simp only [Act.put, List.setIfInBounds_toArray, List.set_cons_zero, List.set_cons_succ, i64_w, i32_w]
                              rfl
                             refine pure_ (i := 3) (N := some 167) (v := ?_) (a' := ?_) #[false, true, true, true, false, false, false, false, false, false, false, false, false, false, false, false, false] rfl rfl (any_of HT_.out (by kernel_rfl)) (fun _ _ _ h => h) (Or.inl ⟨by rfl, ?_⟩) ?_ ?_
                             rotate_left
                             ·intro w'
                              go_simp
                              with_reducible rfl
                             rotate_left
                             ·simp only [Act.put, List.setIfInBounds_toArray, List.set_cons_zero, List.set_cons_succ, i64_w, i32_w]
                              rfl
                             refine pure_ (i := 4) (N := some 168) (v := ?_) (a' := ?_) #[false, true, true, true, true, false, false, false, false, false, false, false, false, false, false, false, false] rfl rfl (any_of HT_.out (by kernel_rfl)) (fun _ _ _ h => h) (Or.inl ⟨by rfl, ?_⟩) ?_ ?_
                             rotate_left
                             ·intro w'
                              go_simp
                              with_reducible rfl
                             rotate_left
                             ·simp only [Act.put, List.setIfInBounds_toArray, List.set_cons_zero, List.set_cons_succ, i64_w, i32_w]
                              rfl
                             refine pure_ (i := 5) (N := some 169) (v := ?_) (a' := ?_) #[false, true, true, true, true, true, false, false, false, false, false, false, false, false, false, false, false] rfl rfl (any_of HT_.out (by kernel_rfl)) (fun _ _ _ h => h) (Or.inl ⟨by rfl, ?_⟩) ?_ ?_
                             rotate_left
                             ·intro w'
                              go_simp
                              with_reducible rfl
                             rotate_left
                             ·simp only [Act.put, List.setIfInBounds_toArray, List.set_cons_zero, List.set_cons_succ, i64_w, i32_w]
                              rfl
                             refine pure_ (i := 6) (N := some 170) (v := undef) (a' := ?_) #[false, true, true, true, true, true, true, false, false, false, false, false, false, false, false, false, false] rfl rfl (any_of HT_.out (by kernel_rfl)) (fun _ _ _ h => h) (Or.inr ⟨by rfl, rfl⟩) ?_ ?_
                             rotate_left
                             ·simp only [Act.put, List.setIfInBounds_toArray, List.set_cons_zero, List.set_cons_succ, i64_w, i32_w]
                              rfl
                             refine pure_ (i := 7) (N := some 171) (v := undef) (a' := ?_) #[false, true, true, true, true, true, true, true, false, false, false, false, false, false, false, false, false] rfl rfl (any_of HT_.out (by kernel_rfl)) (fun _ _ _ h => h) (Or.inr ⟨by rfl, rfl⟩) ?_ ?_
                             rotate_left
                             ·simp only [Act.put, List.setIfInBounds_toArray, List.set_cons_zero, List.set_cons_succ, i64_w, i32_w]
                              rfl
                             refine pure_ (i := 8) (N := some 172) (v := undef) (a' := ?_) #[false, true, true, true, true, true, true, true, true, false, false, false, false, false, false, false, false] rfl rfl (any_of HT_.out (by kernel_rfl)) (fun _ _ _ h => h) (Or.inr ⟨by rfl, rfl⟩) ?_ ?_
                             rotate_left
                             ·simp only [Act.put, List.setIfInBounds_toArray, List.set_cons_zero, List.set_cons_succ, i64_w, i32_w]
                              rfl
                             refine pure_ (i := 9) (N := some 173) (v := ?_) (a' := ?_) #[false, true, true, true, true, true, true, true, true, true, false, false, false, false, false, false, false] rfl rfl (any_of HT_.out (by kernel_rfl)) (fun _ _ _ h => h) (Or.inl ⟨by rfl, ?_⟩) ?_ ?_
                             rotate_left
                             ·intro w'
                              go_simp
                              with_reducible rfl
                             rotate_left
                             ·simp only [Act.put, List.setIfInBounds_toArray, List.set_cons_zero, List.set_cons_succ, i64_w, i32_w]
                              rfl
                             refine pure_ (i := 10) (N := some 174) (v := ?_) (a' := ?_) #[false, true, true, true, true, true, true, true, true, true, true, false, false, false, false, false, false] rfl rfl (any_of HT_.out (by kernel_rfl)) (fun _ _ _ h => h) (Or.inl ⟨by rfl, ?_⟩) ?_ ?_
                             rotate_left
                             ·intro w'
                              go_simp
                              with_reducible rfl
                             rotate_left
                             ·simp only [Act.put, List.setIfInBounds_toArray, List.set_cons_zero, List.set_cons_succ, i64_w, i32_w]
                              rfl
                             refine pure_ (i := 11) (N := some 175) (v := undef) (a' := ?_) #[false, true, true, true, true, true, true, true, true, true, true, true, false, false, false, false, false] rfl rfl (any_of HT_.out (by kernel_rfl)) (fun _ _ _ h => h) (Or.inr ⟨by rfl, rfl⟩) ?_ ?_
                             rotate_left
                             ·simp only [Act.put, List.setIfInBounds_toArray, List.set_cons_zero, List.set_cons_succ, i64_w, i32_w]
                              rfl
                             refine pure_ (i := 12) (N := some 176) (v := undef) (a' := ?_) #[false, true, true, true, true, true, true, true, true, true, true, true, true, false, false, false, false] rfl rfl (any_of HT_.out (by kernel_rfl)) (fun _ _ _ h => h) (Or.inr ⟨by rfl, rfl⟩) ?_ ?_
                             rotate_left
                             ·simp only [Act.put, List.setIfInBounds_toArray, List.set_cons_zero, List.set_cons_succ, i64_w, i32_w]
                              rfl
                             refine pure_ (i := 13) (N := some 177) (v := undef) (a' := ?_) #[false, true, true, true, true, true, true, true, true, true, true, true, true, true, false, false, false] rfl rfl (any_of HT_.out (by kernel_rfl)) (fun _ _ _ h => h) (Or.inr ⟨by rfl, rfl⟩) ?_ ?_
                             rotate_left
                             ·simp only [Act.put, List.setIfInBounds_toArray, List.set_cons_zero, List.set_cons_succ, i64_w, i32_w]
                              rfl
                             refine pure_ (i := 14) (N := some 178) (v := ?_) (a' := ?_) #[false, true, true, true, true, true, true, true, true, true, true, true, true, true, true, false, false] rfl rfl (any_of HT_.out (by kernel_rfl)) (fun _ _ _ h => h) (Or.inl ⟨by rfl, ?_⟩) ?_ ?_
                             rotate_left
                             ·intro w'
                              go_simp
                              with_reducible rfl
                             rotate_left
                             ·simp only [Act.put, List.setIfInBounds_toArray, List.set_cons_zero, List.set_cons_succ, i64_w, i32_w]
                              rfl
                             refine take_ (i := 0) (N := some 164) (v := ?_) (a' := ?_) #[true, true, true, true, true, true, true, true, true, true, true, true, true, true, true, false, false] rfl rfl (take_ofW HT_.out HW_.out (by kernel_rfl)) (fun _ _ _ h => h) (Or.inl ⟨by rfl, ?_⟩) hHeld ?_ ?_
                             rotate_left
                             ·rintro w' ⟨s0, s1, s2, s3⟩
                              go_simp
                              with_reducible rfl
                             rotate_left
                             ·simp only [Act.put, List.setIfInBounds_toArray, List.set_cons_zero, List.set_cons_succ, i64_w, i32_w]
                              rfl
                             refine one_ (i := 15) (N := none) #[true, true, true, true, true, true, true, true, true, true, true, true, true, true, true, true, false] rfl rfl (one_of HT_.out (by kernel_rfl)) (by decide) (fun K hK => ?_)
                             have hs87 : w86.cell? ⟨gb101, 0, none⟩ = some (.int .i64 0) := (blk_cell BK101.out 0).trans rfl
                             have hfs87 := blk_frozen BK101.out 0
                             have hns87_1 := NB109_101.out
                             have hms87_1 := NB101_109.out
                             have hs88 : w86.cell? ⟨gb101, 1, none⟩ = some (.int .i64 0) := (blk_cell BK101.out 1).trans rfl
                             have hfs88 := blk_frozen BK101.out 1
                             have hns88_1 := NB109_101.out
                             have hms88_1 := NB101_109.out
                             have hs89 : w86.cell? ⟨gb101, 2, none⟩ = some (.int .i64 0) := (blk_cell BK101.out 2).trans rfl
                             have hfs89 := blk_frozen BK101.out 2
                             have hns89_1 := NB109_101.out
                             have hms89_1 := NB101_109.out
                             have hs90 : w86.cell? ⟨gb101, 3, none⟩ = some (.int .i64 0) := (blk_cell BK101.out 3).trans rfl
                             have hfs90 := blk_frozen BK101.out 3
                             have hns90_1 := NB109_101.out
                             have hms90_1 := NB101_109.out
                             refine skip_ (w1 := ?_) (by rfl) rfl ?_ ?_
                             rotate_left
                             ·go_simp
                              rfl
                             refine hK.out _ _ ⟨((cell_far (p := ⟨gb101, _, none⟩) NB109_101.out _).trans (((cell_far (p := ⟨gb101, _, none⟩) NB109_101.out _).trans (((cell_far (p := ⟨gb101, _, none⟩) NB109_101.out _).trans (((cell_far (p := ⟨gb101, _, none⟩) NB109_101.out _).trans (hHeld.1)))))))), ((cell_far (p := ⟨gb101, _, none⟩) NB109_101.out _).trans (((cell_far (p := ⟨gb101, _, none⟩) NB109_101.out _).trans (((cell_far (p := ⟨gb101, _, none⟩) NB109_101.out _).trans (((cell_far (p := ⟨gb101, _, none⟩) NB109_101.out _).trans (hHeld.2.1)))))))), ((cell_far (p := ⟨gb101, _, none⟩) NB109_101.out _).trans (((cell_far (p := ⟨gb101, _, none⟩) NB109_101.out _).trans (((cell_far (p := ⟨gb101, _, none⟩) NB109_101.out _).trans (((cell_far (p := ⟨gb101, _, none⟩) NB109_101.out _).trans (hHeld.2.2.1)))))))), ((cell_far (p := ⟨gb101, _, none⟩) NB109_101.out _).trans (((cell_far (p := ⟨gb101, _, none⟩) NB109_101.out _).trans (((cell_far (p := ⟨gb101, _, none⟩) NB109_101.out _).trans (((cell_far (p := ⟨gb101, _, none⟩) NB109_101.out _).trans (hHeld.2.2.2))))))))⟩ (fun hHeld => ?_)
                             clear hK K
                             refine pure_ (i := 16) (N := some 3) (v := ?_) (a' := ?_) #[true, true, true, true, true, true, true, true, true, true, true, true, true, true, true, true, true] rfl rfl (any_of HT_.out (by kernel_rfl)) (fun _ _ _ h => h) (Or.inl ⟨by rfl, ?_⟩) ?_ ?_
                             rotate_left
                             ·intro w'
                              go_simp
                              with_reducible rfl
                             rotate_left
                             ·simp only [Act.put, List.setIfInBounds_toArray, List.set_cons_zero, List.set_cons_succ, i64_w, i32_w]
                              rfl
                             refine done_ (done_of HT_.out (by kernel_rfl)) ?_
                             try go_wp2
                             go_meet
                             case rel => exact ⟨_, (false), (x110000_67), (t107), (t116), (0), (by first | rfl | (simp; done) | (simp only [emptyNe_, emptyEq_]; done) | (simp [*]; done)), H', ⟨by have := HJ2.out; have := HJ13.out; have := HJ22.out; have := HJ26.out; have := HJ54.out; have := HJ62.out; have := HJ67.out; first | omega | exact Nat.le_refl _⟩, ⟨by (with_reducible repeat (first | refine blk_drewN ?_ _ | refine blk_drew ?_ | refine blk_alloc ?_ _)); refine blk_put (cs := #[.int .i64 x110000_67, .int .i64 t107, .int .i64 t116, .int .i64 0]) ?_ 3 _ rfl; (with_reducible repeat (first | refine blk_drewN ?_ _ | refine blk_drew ?_ | refine blk_alloc ?_ _)); refine blk_put (cs := #[.int .i64 x110000_67, .int .i64 t107, .int .i64 0, .int .i64 0]) ?_ 2 _ rfl; (with_reducible repeat (first | refine blk_drewN ?_ _ | refine blk_drew ?_ | refine blk_alloc ?_ _)); refine blk_put (cs := #[.int .i64 x110000_67, .int .i64 0, .int .i64 0, .int .i64 0]) ?_ 1 _ rfl; (with_reducible repeat (first | refine blk_drewN ?_ _ | refine blk_drew ?_ | refine blk_alloc ?_ _)); refine blk_put (cs := #[.int .i64 0, .int .i64 0, .int .i64 0, .int .i64 0]) ?_ 0 _ rfl; (with_reducible repeat (first | refine blk_drewN ?_ _ | refine blk_drew ?_ | refine blk_alloc ?_ _)); exact BK101.out⟩, ⟨by (with_reducible repeat (first | refine blk_drewN ?_ _ | refine blk_drew ?_ | refine blk_alloc ?_ _)); refine blk_far ?_ NB109_101.out _; (with_reducible repeat (first | refine blk_drewN ?_ _ | refine blk_drew ?_ | refine blk_alloc ?_ _)); refine blk_far ?_ NB109_101.out _; (with_reducible repeat (first | refine blk_drewN ?_ _ | refine blk_drew ?_ | refine blk_alloc ?_ _)); refine blk_far ?_ NB109_101.out _; (with_reducible repeat (first | refine blk_drewN ?_ _ | refine blk_drew ?_ | refine blk_alloc ?_ _)); refine blk_far ?_ NB109_101.out _; (with_reducible repeat (first | refine blk_drewN ?_ _ | refine blk_drew ?_ | refine blk_alloc ?_ _)); exact BK109.out⟩, ⟨by repeat (first | (with_reducible first | exact HB.out | apply below_alloc | apply pw_below_drewN | apply below_drew1 | refine below_set ?_ GE101.out | refine below_set ?_ GE109.out) | exact HB.out)⟩⟩
                          ·replace c73 := Bool.eq_false_iff.mpr c73
                           subst c73
                           have H1 : (logjamref41_read.j7 kj67 false x110000_67 t107 t116 0) = some (r1, r2, r3, r4, r5) := by rw [if_neg (show ¬ (false = true) by decide)] at H; exact H
                           clear H
                           have H := H1
                           clear H1
                           as_aux_lemma =>
                            have H' := Aside0.mk H
                            clear H
                            try go_wp2
                            have n0_ := Aside0.mk (Kd.R_drew HO_4.out)
                            have n1_ := Aside0.mk (blk_drew BK101.out)
                            have n2_ := Aside0.mk (blk_drew BK109.out)
                            have n3_ := Aside0.mk (below_drew1 HB.out)
                            clear HO_4; clear BK101; clear BK109; clear HB; have HO_4 := n0_; have BK101 := n1_; have BK109 := n2_; have HB := n3_; clear n0_ n1_ n2_ n3_
                            refine start_ (n := 17) (S := fun w' => w'.cell? ⟨gb109, 0, none⟩ = some (.int .i64 x110000_67) ∧ w'.cell? ⟨gb109, 1, none⟩ = some (.int .i64 t107) ∧ w'.cell? ⟨gb109, 2, none⟩ = some (.int .i64 t116) ∧ w'.cell? ⟨gb109, 3, none⟩ = some (.int .i64 0)) (ds := []) #[false, false, false, false, false, false, false, false, false, false, false, false, false, false, false, false, false] (by kernel_rfl) rfl rfl ⟨(blk_cell BK109.out 0).trans rfl, (blk_cell BK109.out 1).trans rfl, (blk_cell BK109.out 2).trans rfl, (blk_cell BK109.out 3).trans rfl⟩ (fun hHeld => ?_); refine with_tabW logjamref41_read.tab28 logjamref41_read.bits28 (fun HT_ HW_ => ?_)
                            generalize wc.drew = w91 at HO_4 BK101 BK109 HB hHeld ⊢
                            refine pure_ (i := 1) (N := some 165) (v := ?_) (a' := ?_) #[false, true, false, false, false, false, false, false, false, false, false, false, false, false, false, false, false] rfl rfl (any_of HT_.out (by kernel_rfl)) (fun _ _ _ h => h) (Or.inl ⟨by rfl, ?_⟩) ?_ ?_
                            rotate_left
                            ·intro w'
                             go_simp
                             with_reducible rfl
                            rotate_left
                            ·simp only [Act.put, List.setIfInBounds_toArray, List.set_cons_zero, List.set_cons_succ, i64_w, i32_w]
                             rfl
                            refine pure_ (i := 2) (N := some 166) (v := ?_) (a' := ?_) #[false, true, true, false, false, false, false, false, false, false, false, false, false, false, false, false, false] rfl rfl (any_of HT_.out (by kernel_rfl)) (fun _ _ _ h => h) (Or.inl ⟨by rfl, ?_⟩) ?_ ?_
                            rotate_left
                            ·intro w'
                             go_simp
                             with_reducible rfl
                            rotate_left
                            ·simp only [Act.put, List.setIfInBounds_toArray, List.set_cons_zero, List.set_cons_succ, i64_w, i32_w]
                             rfl
                            refine pure_ (i := 3) (N := some 167) (v := undef) (a' := ?_) #[false, true, true, true, false, false, false, false, false, false, false, false, false, false, false, false, false] rfl rfl (any_of HT_.out (by kernel_rfl)) (fun _ _ _ h => h) (Or.inr ⟨by rfl, rfl⟩) ?_ ?_
                            rotate_left
                            ·simp only [Act.put, List.setIfInBounds_toArray, List.set_cons_zero, List.set_cons_succ, i64_w, i32_w]
                             rfl
                            refine pure_ (i := 4) (N := some 168) (v := ?_) (a' := ?_) #[false, true, true, true, true, false, false, false, false, false, false, false, false, false, false, false, false] rfl rfl (any_of HT_.out (by kernel_rfl)) (fun _ _ _ h => h) (Or.inl ⟨by rfl, ?_⟩) ?_ ?_
                            rotate_left
                            ·intro w'
                             go_simp
                             with_reducible rfl
                            rotate_left
                            ·simp only [Act.put, List.setIfInBounds_toArray, List.set_cons_zero, List.set_cons_succ, i64_w, i32_w]
                             rfl
                            refine pure_ (i := 5) (N := some 169) (v := ?_) (a' := ?_) #[false, true, true, true, true, true, false, false, false, false, false, false, false, false, false, false, false] rfl rfl (any_of HT_.out (by kernel_rfl)) (fun _ _ _ h => h) (Or.inl ⟨by rfl, ?_⟩) ?_ ?_
                            rotate_left
                            ·intro w'
                             go_simp
                             with_reducible rfl
                            rotate_left
                            ·simp only [Act.put, List.setIfInBounds_toArray, List.set_cons_zero, List.set_cons_succ, i64_w, i32_w]
                             rfl
                            refine pure_ (i := 6) (N := some 170) (v := undef) (a' := ?_) #[false, true, true, true, true, true, true, false, false, false, false, false, false, false, false, false, false] rfl rfl (any_of HT_.out (by kernel_rfl)) (fun _ _ _ h => h) (Or.inr ⟨by rfl, rfl⟩) ?_ ?_
                            rotate_left
                            ·simp only [Act.put, List.setIfInBounds_toArray, List.set_cons_zero, List.set_cons_succ, i64_w, i32_w]
                             rfl
                            refine pure_ (i := 7) (N := some 171) (v := undef) (a' := ?_) #[false, true, true, true, true, true, true, true, false, false, false, false, false, false, false, false, false] rfl rfl (any_of HT_.out (by kernel_rfl)) (fun _ _ _ h => h) (Or.inr ⟨by rfl, rfl⟩) ?_ ?_
                            rotate_left
                            ·simp only [Act.put, List.setIfInBounds_toArray, List.set_cons_zero, List.set_cons_succ, i64_w, i32_w]
                             rfl
                            refine pure_ (i := 8) (N := some 172) (v := undef) (a' := ?_) #[false, true, true, true, true, true, true, true, true, false, false, false, false, false, false, false, false] rfl rfl (any_of HT_.out (by kernel_rfl)) (fun _ _ _ h => h) (Or.inr ⟨by rfl, rfl⟩) ?_ ?_
                            rotate_left
                            ·simp only [Act.put, List.setIfInBounds_toArray, List.set_cons_zero, List.set_cons_succ, i64_w, i32_w]
                             rfl
                            refine pure_ (i := 9) (N := some 173) (v := ?_) (a' := ?_) #[false, true, true, true, true, true, true, true, true, true, false, false, false, false, false, false, false] rfl rfl (any_of HT_.out (by kernel_rfl)) (fun _ _ _ h => h) (Or.inl ⟨by rfl, ?_⟩) ?_ ?_
                            rotate_left
                            ·intro w'
                             go_simp
                             with_reducible rfl
                            rotate_left
                            ·simp only [Act.put, List.setIfInBounds_toArray, List.set_cons_zero, List.set_cons_succ, i64_w, i32_w]
                             rfl
                            refine pure_ (i := 10) (N := some 174) (v := ?_) (a' := ?_) #[false, true, true, true, true, true, true, true, true, true, true, false, false, false, false, false, false] rfl rfl (any_of HT_.out (by kernel_rfl)) (fun _ _ _ h => h) (Or.inl ⟨by rfl, ?_⟩) ?_ ?_
                            rotate_left
                            ·intro w'
                             go_simp
                             with_reducible rfl
                            rotate_left
                            ·simp only [Act.put, List.setIfInBounds_toArray, List.set_cons_zero, List.set_cons_succ, i64_w, i32_w]
                             rfl
                            refine pure_ (i := 11) (N := some 175) (v := undef) (a' := ?_) #[false, true, true, true, true, true, true, true, true, true, true, true, false, false, false, false, false] rfl rfl (any_of HT_.out (by kernel_rfl)) (fun _ _ _ h => h) (Or.inr ⟨by rfl, rfl⟩) ?_ ?_
                            rotate_left
                            ·simp only [Act.put, List.setIfInBounds_toArray, List.set_cons_zero, List.set_cons_succ, i64_w, i32_w]
                             rfl
                            refine pure_ (i := 12) (N := some 176) (v := undef) (a' := ?_) #[false, true, true, true, true, true, true, true, true, true, true, true, true, false, false, false, false] rfl rfl (any_of HT_.out (by kernel_rfl)) (fun _ _ _ h => h) (Or.inr ⟨by rfl, rfl⟩) ?_ ?_
                            rotate_left
                            ·simp only [Act.put, List.setIfInBounds_toArray, List.set_cons_zero, List.set_cons_succ, i64_w, i32_w]
                             rfl
                            refine pure_ (i := 13) (N := some 177) (v := undef) (a' := ?_) #[false, true, true, true, true, true, true, true, true, true, true, true, true, true, false, false, false] rfl rfl (any_of HT_.out (by kernel_rfl)) (fun _ _ _ h => h) (Or.inr ⟨by rfl, rfl⟩) ?_ ?_
                            rotate_left
                            ·simp only [Act.put, List.setIfInBounds_toArray, List.set_cons_zero, List.set_cons_succ, i64_w, i32_w]
                             rfl
                            refine pure_ (i := 14) (N := some 178) (v := ?_) (a' := ?_) #[false, true, true, true, true, true, true, true, true, true, true, true, true, true, true, false, false] rfl rfl (any_of HT_.out (by kernel_rfl)) (fun _ _ _ h => h) (Or.inl ⟨by rfl, ?_⟩) ?_ ?_
                            rotate_left
                            ·intro w'
                             go_simp
                             with_reducible rfl
                            rotate_left
                            ·simp only [Act.put, List.setIfInBounds_toArray, List.set_cons_zero, List.set_cons_succ, i64_w, i32_w]
                             rfl
                            refine take_ (i := 0) (N := some 164) (v := ?_) (a' := ?_) #[true, true, true, true, true, true, true, true, true, true, true, true, true, true, true, false, false] rfl rfl (take_ofW HT_.out HW_.out (by kernel_rfl)) (fun _ _ _ h => h) (Or.inl ⟨by rfl, ?_⟩) hHeld ?_ ?_
                            rotate_left
                            ·rintro w' ⟨s0, s1, s2, s3⟩
                             go_simp
                             with_reducible rfl
                            rotate_left
                            ·simp only [Act.put, List.setIfInBounds_toArray, List.set_cons_zero, List.set_cons_succ, i64_w, i32_w]
                             rfl
                            refine one_ (i := 15) (N := none) #[true, true, true, true, true, true, true, true, true, true, true, true, true, true, true, true, false] rfl rfl (one_of HT_.out (by kernel_rfl)) (by decide) (fun K hK => ?_)
                            have hs92 : w91.cell? ⟨gb101, 0, none⟩ = some (.int .i64 0) := (blk_cell BK101.out 0).trans rfl
                            have hfs92 := blk_frozen BK101.out 0
                            have hns92_1 := NB109_101.out
                            have hms92_1 := NB101_109.out
                            have hs93 : w91.cell? ⟨gb101, 1, none⟩ = some (.int .i64 0) := (blk_cell BK101.out 1).trans rfl
                            have hfs93 := blk_frozen BK101.out 1
                            have hns93_1 := NB109_101.out
                            have hms93_1 := NB101_109.out
                            have hs94 : w91.cell? ⟨gb101, 2, none⟩ = some (.int .i64 0) := (blk_cell BK101.out 2).trans rfl
                            have hfs94 := blk_frozen BK101.out 2
                            have hns94_1 := NB109_101.out
                            have hms94_1 := NB101_109.out
                            have hs95 : w91.cell? ⟨gb101, 3, none⟩ = some (.int .i64 0) := (blk_cell BK101.out 3).trans rfl
                            have hfs95 := blk_frozen BK101.out 3
                            have hns95_1 := NB109_101.out
                            have hms95_1 := NB101_109.out
                            refine skip_ (w1 := ?_) (by rfl) rfl ?_ ?_
                            rotate_left
                            ·go_simp
                             rfl
                            refine hK.out _ _ ⟨((cell_far (p := ⟨gb101, _, none⟩) NB109_101.out _).trans (((cell_far (p := ⟨gb101, _, none⟩) NB109_101.out _).trans (((cell_far (p := ⟨gb101, _, none⟩) NB109_101.out _).trans (((cell_far (p := ⟨gb101, _, none⟩) NB109_101.out _).trans (hHeld.1)))))))), ((cell_far (p := ⟨gb101, _, none⟩) NB109_101.out _).trans (((cell_far (p := ⟨gb101, _, none⟩) NB109_101.out _).trans (((cell_far (p := ⟨gb101, _, none⟩) NB109_101.out _).trans (((cell_far (p := ⟨gb101, _, none⟩) NB109_101.out _).trans (hHeld.2.1)))))))), ((cell_far (p := ⟨gb101, _, none⟩) NB109_101.out _).trans (((cell_far (p := ⟨gb101, _, none⟩) NB109_101.out _).trans (((cell_far (p := ⟨gb101, _, none⟩) NB109_101.out _).trans (((cell_far (p := ⟨gb101, _, none⟩) NB109_101.out _).trans (hHeld.2.2.1)))))))), ((cell_far (p := ⟨gb101, _, none⟩) NB109_101.out _).trans (((cell_far (p := ⟨gb101, _, none⟩) NB109_101.out _).trans (((cell_far (p := ⟨gb101, _, none⟩) NB109_101.out _).trans (((cell_far (p := ⟨gb101, _, none⟩) NB109_101.out _).trans (hHeld.2.2.2))))))))⟩ (fun hHeld => ?_)
                            clear hK K
                            refine pure_ (i := 16) (N := some 3) (v := ?_) (a' := ?_) #[true, true, true, true, true, true, true, true, true, true, true, true, true, true, true, true, true] rfl rfl (any_of HT_.out (by kernel_rfl)) (fun _ _ _ h => h) (Or.inl ⟨by rfl, ?_⟩) ?_ ?_
                            rotate_left
                            ·intro w'
                             go_simp
                             with_reducible rfl
                            rotate_left
                            ·simp only [Act.put, List.setIfInBounds_toArray, List.set_cons_zero, List.set_cons_succ, i64_w, i32_w]
                             rfl
                            refine done_ (done_of HT_.out (by kernel_rfl)) ?_
                            try go_wp2
                            go_meet
                            case rel => exact ⟨_, (false), (x110000_67), (t107), (t116), (0), (by first | rfl | (simp; done) | (simp only [emptyNe_, emptyEq_]; done) | (simp [*]; done)), H', ⟨by have := HJ2.out; have := HJ13.out; have := HJ22.out; have := HJ26.out; have := HJ54.out; have := HJ62.out; have := HJ67.out; first | omega | exact Nat.le_refl _⟩, ⟨by (with_reducible repeat (first | refine blk_drewN ?_ _ | refine blk_drew ?_ | refine blk_alloc ?_ _)); refine blk_put (cs := #[.int .i64 x110000_67, .int .i64 t107, .int .i64 t116, .int .i64 0]) ?_ 3 _ rfl; (with_reducible repeat (first | refine blk_drewN ?_ _ | refine blk_drew ?_ | refine blk_alloc ?_ _)); refine blk_put (cs := #[.int .i64 x110000_67, .int .i64 t107, .int .i64 0, .int .i64 0]) ?_ 2 _ rfl; (with_reducible repeat (first | refine blk_drewN ?_ _ | refine blk_drew ?_ | refine blk_alloc ?_ _)); refine blk_put (cs := #[.int .i64 x110000_67, .int .i64 0, .int .i64 0, .int .i64 0]) ?_ 1 _ rfl; (with_reducible repeat (first | refine blk_drewN ?_ _ | refine blk_drew ?_ | refine blk_alloc ?_ _)); refine blk_put (cs := #[.int .i64 0, .int .i64 0, .int .i64 0, .int .i64 0]) ?_ 0 _ rfl; (with_reducible repeat (first | refine blk_drewN ?_ _ | refine blk_drew ?_ | refine blk_alloc ?_ _)); exact BK101.out⟩, ⟨by (with_reducible repeat (first | refine blk_drewN ?_ _ | refine blk_drew ?_ | refine blk_alloc ?_ _)); refine blk_far ?_ NB109_101.out _; (with_reducible repeat (first | refine blk_drewN ?_ _ | refine blk_drew ?_ | refine blk_alloc ?_ _)); refine blk_far ?_ NB109_101.out _; (with_reducible repeat (first | refine blk_drewN ?_ _ | refine blk_drew ?_ | refine blk_alloc ?_ _)); refine blk_far ?_ NB109_101.out _; (with_reducible repeat (first | refine blk_drewN ?_ _ | refine blk_drew ?_ | refine blk_alloc ?_ _)); refine blk_far ?_ NB109_101.out _; (with_reducible repeat (first | refine blk_drewN ?_ _ | refine blk_drew ?_ | refine blk_alloc ?_ _)); exact BK109.out⟩, ⟨by repeat (first | (with_reducible first | exact HB.out | apply below_alloc | apply pw_below_drewN | apply below_drew1 | refine below_set ?_ GE101.out | refine below_set ?_ GE109.out) | exact HB.out)⟩⟩
                         case rest => as_aux_lemma =>
                          clear HC72; try clear p2; try clear c7; try clear c73; try clear c74; try clear c75; try clear c75b0; try clear c75b1
                          obtain ⟨kq, x3_71, x102000_71, x102001_71, x102002_71, x102003_71, rfl, HA, HJ71, BK101, BK109, HB⟩ := hcut
                          cases kq with
                          | zero => exact absurd HA.out (by simp [logjamref41_read.j7])
                          | succ kj71 =>
                           have H := HA.out
                           clear HA
                           simp only [logjamref41_read.j7] at H
                           as_aux_lemma =>
                            simp only [Option.some.injEq, Prod.mk.injEq] at H
                            obtain ⟨rfl, rfl, rfl, rfl, rfl⟩ := H
                            go_wp2
                            refine bodyPost_ret (results_ct rfl _ _ gb101 72 #[.int .i64 x102000_71, .int .i64 x102001_71, .int .i64 x102002_71, .int .i64 x102003_71] (0, 0) _ rfl (by (with_reducible repeat (first | refine blk_drewN ?_ _ | refine blk_drew ?_ | refine blk_alloc ?_ _)); exact BK101.out) Tryd.underlying72 rfl (by kernel_rfl)) rfl ?_
                            exact ⟨by first | rfl | (simp [errW_none, errW_some] <;> rfl) | (simp [*, errW_none, errW_some] <;> rfl), by repeat (first | (with_reducible first | exact HB.out | apply below_alloc | apply pw_below_drewN | apply below_drew1 | refine below_set ?_ GE101.out | refine below_set ?_ GE109.out) | exact HB.out)⟩
                      ·rw [if_neg c67] at H
                       exact absurd H (by simp)
                   ·rw [if_neg c62] at H
                    exact absurd H (by simp)
                ·rw [if_neg c54] at H
                 exact absurd H (by simp)
               ·rw [if_neg c52] at H
                exact absurd H (by simp)
     ·rw [if_neg c12] at H
      exact absurd H (by simp)
end Go.Proofs.YtadepdeckapgcaaDoor.PRb
end

section
namespace Go.Proofs.YtadepdeckapgcaaDoor.Tr
open Go.RowKit Go.Proofs.YtadepdeckapgcaaDoorW.PrintWords Go.Proofs.YtadepdeckapgcaaDoor.PTr Go.Proofs.YtadepdeckapgcaaDoor.Orc
set_option linter.unusedVariables false
set_option linter.unusedSimpArgs false
def wayA (ws : List ByteArray) : Prop := (ws.length = 2 ∧ (wd ws 0).toList = tickW) ∨ ws.length < 3 ∨ ((wd ws 1).toList = opW ∧ ws.length = 4) ∨ ((wd ws 1).toList = endW ∧ ws.length = 4)
theorem wd_le {ws : List ByteArray} (h : ∀ w ∈ ws, w.size ≤ 60000) (i : Int) : (wd ws i).size ≤ 60000 := by
  unfold wd rdOf
  rw [List.getD_eq_getElem?_getD]
  cases e : ws[i.toNat]? with
  | none => simp
  | some x => exact h x (List.mem_of_getElem? e)
theorem ev_two {R : Type} (j : Nat → Bool → Option R) (res : Bool → R) (hj : ∀ b, Ev (fun k => j k b) (res b)) (a b c : Bool) :
    Ev (fun k => if a = true then (if b = true then j k c else j k false) else j k false) (res ((a && b) && c)) := by
  cases a <;> cases b <;> exact hj _
theorem evA_op {ws : List ByteArray} (hs : ∀ w ∈ ws, w.size ≤ 60000) (h4 : ws.length = 4) (t : Int × Bool) :
    Ev (fun k => PRa.logjamref41_read.j1 k ws t.2 true 0 t.1 0 0) (1, t.1, ixGo (wd ws 2) NM 0, (numB (wd ws 3)).1, (t.2 && (numB (wd ws 3)).2) && decide (ixGo (wd ws 2) NM 0 ≥ 0)) := by
  refine Ev.step (f := _) (fun k => by simp only [PRa.logjamref41_read.j1]; rw [if_pos trivial, if_pos (by omega)]) ?_
  refine Ev.bind (numB_ev _ (wd_le hs 3)) ?_
  refine Ev.congr (f := _) (fun k => by rw [if_pos (by omega)]) ?_
  refine Ev.bind (rof_ev _) ?_
  exact ev_two (fun k b => PRa.logjamref41_read.j2 k b 1 t.1 (ixGo (wd ws 2) NM 0) (numB (wd ws 3)).1) (fun b => (1, t.1, ixGo (wd ws 2) NM 0, (numB (wd ws 3)).1, b)) (fun b => Ev.step1 (fun k => by simp only [PRa.logjamref41_read.j2])) t.2 (numB (wd ws 3)).2 (decide (ixGo (wd ws 2) NM 0 ≥ 0))
theorem evA_end {ws : List ByteArray} (hs : ∀ w ∈ ws, w.size ≤ 60000) (h4 : ws.length = 4) (h1 : (wd ws 1).toList = endW) (t : Int × Bool) :
    Ev (fun k => PRa.logjamref41_read.j1 k ws t.2 false 0 t.1 0 0) (5, t.1, ixGo (wd ws 2) ED 0, (numB (wd ws 3)).1, (t.2 && (numB (wd ws 3)).2) && decide (ixGo (wd ws 2) ED 0 ≥ 0)) := by
  have hq : ((ws.length : Int) == 4) = true := by rw [h4]; rfl
  refine Ev.step (f := _) (fun k => by simp only [PRa.logjamref41_read.j1]; rw [if_neg Bool.false_ne_true, if_pos (by omega), if_pos (show (rdOf ByteArray.empty ws 1).toList = ([101, 110, 100] : List UInt8) from h1), hq]) ?_
  refine Ev.step (f := _) (fun k => by simp only [PRa.logjamref41_read.j3]; rw [if_pos trivial, if_pos (by omega)]) ?_
  refine Ev.bind (numB_ev _ (wd_le hs 3)) ?_
  refine Ev.congr (f := _) (fun k => by rw [if_pos (by omega)]) ?_
  refine Ev.bind (rended_ev _) ?_
  exact ev_two (fun k b => PRa.logjamref41_read.j4 k b 5 t.1 (ixGo (wd ws 2) ED 0) (numB (wd ws 3)).1) (fun b => (5, t.1, ixGo (wd ws 2) ED 0, (numB (wd ws 3)).1, b)) (fun b => Ev.step1 (fun k => by simp only [PRa.logjamref41_read.j4])) t.2 (numB (wd ws 3)).2 (decide (ixGo (wd ws 2) ED 0 ≥ 0))
theorem op_end {w : ByteArray} (h : w.toList = endW) : ¬ w.toList = opW := by rw [h]; decide
theorem evA {ws : List ByteArray} (hs : ∀ w ∈ ws, w.size ≤ 60000) (h : wayA ws) (b : Bool) (hb : b = true ↔ ws.length = 2 ∧ (wd ws 0).toList = tickW) : Ev (fun k => PRa.logjamref41_read.j0 k ws b) (rdP ws) := by
  unfold rdP
  by_cases c1 : ws.length = 2 ∧ (wd ws 0).toList = tickW
  · rw [if_pos c1]
    obtain rfl : b = true := hb.2 c1
    refine Ev.step (f := _) (fun k => by simp only [PRa.logjamref41_read.j0]; rw [if_pos trivial, if_pos (by omega)]) ?_
    exact Ev.bind (numB_ev _ (wd_le hs 1)) (Ev.now _)
  rw [if_neg c1]
  obtain rfl : b = false := by cases b with
    | false => rfl
    | true => exact absurd (hb.1 rfl) c1
  by_cases c2 : ws.length < 3
  · rw [if_pos c2]
    exact Ev.step1 (fun k => by simp only [PRa.logjamref41_read.j0]; rw [if_neg Bool.false_ne_true, if_pos (by omega)])
  rw [if_neg c2]
  refine Ev.step (f := _) (fun k => by simp only [PRa.logjamref41_read.j0]; rw [if_neg Bool.false_ne_true, if_neg (by omega), if_pos (by omega)]) ?_
  refine Ev.bind (numB_ev _ (wd_le hs 0)) ?_
  refine Ev.congr (f := _) (fun k => by rw [if_pos (by omega)]) ?_
  by_cases c3 : (wd ws 1).toList = opW ∧ ws.length = 4
  · rw [if_pos c3]
    have hq : ((ws.length : Int) == 4) = true := by rw [c3.2]; rfl
    refine Ev.congr (f := _) (fun k => by rw [if_pos (show (rdOf ByteArray.empty ws 1).toList = ([111, 112] : List UInt8) from c3.1), hq]) ?_
    exact evA_op hs c3.2 _
  rw [if_neg c3]
  have c4 : (wd ws 1).toList = endW ∧ ws.length = 4 := by
    rcases h with h | h | h | h
    · exact absurd h c1
    · exact absurd h c2
    · exact absurd h c3
    · exact h
  rw [if_pos c4]
  refine Ev.congr (f := _) (fun k => by rw [if_neg (show ¬ (rdOf ByteArray.empty ws 1).toList = ([111, 112] : List UInt8) from op_end c4.1)]) ?_
  exact evA_end hs c4.2 c4.1 _
theorem evB_last (ws : List ByteArray) (t n : Int × Bool) (K : Int) :
    Ev (fun k => PRb.logjamref41_read.j6 k ws t.2 n.2 K t.1 n.1 0) (K, t.1, n.1, 0, ((t.2 && n.2) && decide (ws.length = 3)) && decide (K > 0)) := by
  obtain ⟨t1, t2⟩ := t
  obtain ⟨n1, n2⟩ := n
  have hj : ∀ b K T A B, Ev (fun k => PRb.logjamref41_read.j7 k b K T A B) (K, T, A, B, b) := fun b K T A B => Ev.step1 (fun k => by simp only [PRb.logjamref41_read.j7])
  by_cases h3 : ws.length = 3
  · have e : decide (ws.length = 3) = true := decide_eq_true h3
    cases t2 <;> cases n2 <;> refine Ev.step (f := _) (fun k => by simp only [PRb.logjamref41_read.j6, if_true, Bool.false_eq_true, if_false]; rfl) ?_
    · exact hj _ _ _ _ _
    · exact hj _ _ _ _ _
    · exact hj _ _ _ _ _
    · rw [e]; exact Ev.congr (f := fun k => PRb.logjamref41_read.j7 k (decide (K > 0)) K t1 n1 0) (fun k => by rw [if_pos (by omega)]) (hj _ _ _ _ _)
  · have e : decide (ws.length = 3) = false := decide_eq_false h3
    cases t2 <;> cases n2 <;> refine Ev.step (f := _) (fun k => by simp only [PRb.logjamref41_read.j6, if_true, Bool.false_eq_true, if_false]; rfl) ?_
    · exact hj _ _ _ _ _
    · exact hj _ _ _ _ _
    · exact hj _ _ _ _ _
    · rw [e]; exact Ev.congr (f := fun k => PRb.logjamref41_read.j7 k false K t1 n1 0) (fun k => by rw [if_neg (by omega)]) (hj _ _ _ _ _)
theorem evB_kind {ws : List ByteArray} (h1 : 1 < ws.length) (t n : Int × Bool) (K : Int) :
    Ev (fun k => PRb.logjamref41_read.j4 k ws t.2 n.2 K t.1 n.1 0)
      ((if (wd ws 1).toList = abortW then 7 else if (wd ws 1).toList = wakeW then 4 else K), t.1, n.1, 0, ((t.2 && n.2) && decide (ws.length = 3)) && decide ((if (wd ws 1).toList = abortW then 7 else if (wd ws 1).toList = wakeW then 4 else K) > 0)) := by
  by_cases w : (wd ws 1).toList = wakeW
  · have a : ¬ (wd ws 1).toList = abortW := by rw [w]; decide
    rw [if_neg a, if_pos w]
    refine Ev.step (f := _) (fun k => by simp only [PRb.logjamref41_read.j4]; rw [if_pos (by omega), if_pos (show (rdOf ByteArray.empty ws 1).toList = ([119, 97, 107, 101] : List UInt8) from w)]) ?_
    refine Ev.step (f := _) (fun k => by simp only [PRb.logjamref41_read.j5]; rw [if_pos (by omega), if_neg (show ¬ (rdOf ByteArray.empty ws 1).toList = ([97, 98, 111, 114, 116] : List UInt8) from a)]) ?_
    exact evB_last ws t n 4
  · by_cases a : (wd ws 1).toList = abortW
    · rw [if_pos a]
      refine Ev.step (f := _) (fun k => by simp only [PRb.logjamref41_read.j4]; rw [if_pos (by omega), if_neg (show ¬ (rdOf ByteArray.empty ws 1).toList = ([119, 97, 107, 101] : List UInt8) from w)]) ?_
      refine Ev.step (f := _) (fun k => by simp only [PRb.logjamref41_read.j5]; rw [if_pos (by omega), if_pos (show (rdOf ByteArray.empty ws 1).toList = ([97, 98, 111, 114, 116] : List UInt8) from a)]) ?_
      exact evB_last ws t n 7
    · rw [if_neg a, if_neg w]
      refine Ev.step (f := _) (fun k => by simp only [PRb.logjamref41_read.j4]; rw [if_pos (by omega), if_neg (show ¬ (rdOf ByteArray.empty ws 1).toList = ([119, 97, 107, 101] : List UInt8) from w)]) ?_
      refine Ev.step (f := _) (fun k => by simp only [PRb.logjamref41_read.j5]; rw [if_pos (by omega), if_neg (show ¬ (rdOf ByteArray.empty ws 1).toList = ([97, 98, 111, 114, 116] : List UInt8) from a)]) ?_
      exact evB_last ws t n K
theorem evB {ws : List ByteArray} (hs : ∀ w ∈ ws, w.size ≤ 60000) (h : ¬ wayA ws) : Ev (fun k => PRb.logjamref41_read.j0 k ws false) (rdP ws) := by
  unfold rdP
  have c1 : ¬ (ws.length = 2 ∧ (wd ws 0).toList = tickW) := fun q => h (.inl q)
  have c2 : ¬ ws.length < 3 := fun q => h (.inr (.inl q))
  have c3 : ¬ ((wd ws 1).toList = opW ∧ ws.length = 4) := fun q => h (.inr (.inr (.inl q)))
  have c4 : ¬ ((wd ws 1).toList = endW ∧ ws.length = 4) := fun q => h (.inr (.inr (.inr q)))
  rw [if_neg c1, if_neg c2, if_neg c3, if_neg c4]
  refine Ev.step (f := _) (fun k => by simp only [PRb.logjamref41_read.j0]; rw [if_neg Bool.false_ne_true, if_neg (by omega), if_pos (by omega)]) ?_
  refine Ev.bind (numB_ev _ (wd_le hs 0)) ?_
  refine Ev.congr (f := fun k => PRb.logjamref41_read.j1 k ws (numB (wd ws 0)).2 false 0 (numB (wd ws 0)).1 0 0) (fun k => ?_) ?_
  · rw [if_pos (by omega)]
    by_cases q : (wd ws 1).toList = opW
    · have e : ((ws.length : Int) == 4) = false := beq_eq_false_iff_ne.2 (fun w => c3 ⟨q, by omega⟩)
      rw [if_pos (show (rdOf ByteArray.empty ws 1).toList = ([111, 112] : List UInt8) from q), e]
      rfl
    · rw [if_neg (show ¬ (rdOf ByteArray.empty ws 1).toList = ([111, 112] : List UInt8) from q)]
      rfl
  refine Ev.step (f := fun k => PRb.logjamref41_read.j2 k ws (numB (wd ws 0)).2 false 0 (numB (wd ws 0)).1 0 0) (fun k => ?_) ?_
  · simp only [PRb.logjamref41_read.j1]
    rw [if_neg Bool.false_ne_true, if_pos (by omega)]
    by_cases q : (wd ws 1).toList = endW
    · have e : ((ws.length : Int) == 4) = false := beq_eq_false_iff_ne.2 (fun w => c4 ⟨q, by omega⟩)
      rw [if_pos (show (rdOf ByteArray.empty ws 1).toList = ([101, 110, 100] : List UInt8) from q), e]
    · rw [if_neg (show ¬ (rdOf ByteArray.empty ws 1).toList = ([101, 110, 100] : List UInt8) from q)]
  by_cases c5 : (wd ws 1).toList = blockW ∧ ws.length = 3
  · rw [if_pos c5]
    have e : ((ws.length : Int) == 3) = true := by rw [c5.2]; rfl
    refine Ev.step (f := _) (fun k => by simp only [PRb.logjamref41_read.j2]; rw [if_neg Bool.false_ne_true, if_pos (by omega), if_pos (show (rdOf ByteArray.empty ws 1).toList = ([98, 108, 111, 99, 107] : List UInt8) from c5.1), e]) ?_
    refine Ev.step (f := _) (fun k => by simp only [PRb.logjamref41_read.j3]; rw [if_pos trivial, if_pos (by omega)]) ?_
    refine Ev.bind (rof_ev _) ?_
    obtain ⟨t1, t2⟩ := numB (wd ws 0)
    cases t2
    · exact Ev.now _
    · exact Ev.now _
  rw [if_neg c5]
  refine Ev.step (f := fun k => PRb.logjamref41_read.j3 k ws (numB (wd ws 0)).2 false 0 (numB (wd ws 0)).1 0 0) (fun k => ?_) ?_
  · simp only [PRb.logjamref41_read.j2]
    rw [if_neg Bool.false_ne_true, if_pos (by omega)]
    by_cases q : (wd ws 1).toList = blockW
    · have e : ((ws.length : Int) == 3) = false := beq_eq_false_iff_ne.2 (fun w => c5 ⟨q, by omega⟩)
      rw [if_pos (show (rdOf ByteArray.empty ws 1).toList = ([98, 108, 111, 99, 107] : List UInt8) from q), e]
    · rw [if_neg (show ¬ (rdOf ByteArray.empty ws 1).toList = ([98, 108, 111, 99, 107] : List UInt8) from q)]
  refine Ev.step (f := _) (fun k => by simp only [PRb.logjamref41_read.j3]; rw [if_neg Bool.false_ne_true, if_pos (by omega)]) ?_
  refine Ev.bind (numB_ev _ (wd_le hs 2)) ?_
  refine Ev.congr (f := _) (fun k => by rw [if_pos (by omega)]) ?_
  unfold kdOf
  by_cases o : (wd ws 1).toList = outW
  · rw [if_pos o]
    exact Ev.congr (f := _) (fun k => by rw [if_pos (show (rdOf ByteArray.empty ws 1).toList = ([111, 117, 116] : List UInt8) from o)]; rfl) (evB_kind (by omega) _ _ 2)
  · rw [if_neg o]
    exact Ev.congr (f := _) (fun k => by rw [if_neg (show ¬ (rdOf ByteArray.empty ws 1).toList = ([111, 117, 116] : List UInt8) from o)]; rfl) (evB_kind (by omega) _ _ 0)
theorem ws_le (s : List UInt8) (hs : s.length ≤ 60000) : ∀ w ∈ (pieces 32 s).map mkB, w.size ≤ 60000 := by
  intro w hw
  obtain ⟨p, hp, rfl⟩ := List.mem_map.1 hw
  rw [mkB_size]
  have := (pieces_len 32 s).2 p hp
  omega
theorem read_A (s : List UInt8) (hs : s.length ≤ 60000) (h : wayA ((pieces 32 s).map mkB)) : Ev (fun k => PRa.logjamref41_read.f k (mkB s)) (rdP ((pieces 32 s).map mkB)) := by
  unfold PRa.logjamref41_read.f
  refine Ev.bind (split_ev s hs) ?_
  generalize hw : (pieces 32 s).map mkB = ws at h ⊢
  have hl : ∀ w ∈ ws, w.size ≤ 60000 := by rw [← hw]; exact ws_le s hs
  by_cases c : ws.length = 2
  · refine Ev.congr (f := _) (fun k => by rw [if_pos (by omega), if_pos (by omega)]) ?_
    refine evA hl h _ ?_
    rw [beq_iff_eq]
    exact ⟨fun q => ⟨c, q⟩, fun q => q.2⟩
  · refine Ev.congr (f := _) (fun k => by rw [if_neg (by omega)]) ?_
    exact evA hl h false (Iff.intro (fun q => absurd q Bool.false_ne_true) (fun q => absurd q.1 c))
theorem read_B (s : List UInt8) (hs : s.length ≤ 60000) (h : ¬ wayA ((pieces 32 s).map mkB)) : Ev (fun k => PRb.logjamref41_read.f k (mkB s)) (rdP ((pieces 32 s).map mkB)) := by
  unfold PRb.logjamref41_read.f
  refine Ev.bind (split_ev s hs) ?_
  generalize hw : (pieces 32 s).map mkB = ws at h ⊢
  have hl : ∀ w ∈ ws, w.size ≤ 60000 := by rw [← hw]; exact ws_le s hs
  have c2 : ¬ ws.length < 3 := fun q => h (.inr (.inl q))
  refine Ev.congr (f := _) (fun k => by rw [if_neg (by omega)]) ?_
  exact evB hl h
end Go.Proofs.YtadepdeckapgcaaDoor.Tr
namespace Go.Proofs.YtadepdeckapgcaaDoor.Orc
open Go.RowKit Go.Proofs.YtadepdeckapgcaaDoorW.PrintWords Go.Proofs.YtadepdeckapgcaaDoor.PTr Go.Proofs.YtadepdeckapgcaaDoor.Tr
open Classical in
def o_read.f (a0 : ByteArray) : Option (Int × Int × Int × Int × Bool) := if a0.size ≤ 60000 then some (rdP ((pieces 32 a0.data.toList).map mkB)) else none
theorem o_read.calls (a0 : ByteArray) (r1 : Int) (r2 : Int) (r3 : Int) (r4 : Int) (r5 : Bool) (w : World) (h : o_read.f a0 = some (r1, r2, r3, r4, r5)) :
    Calls Tryd.prog 98 #[.string a0] w fun e w' => e = .returned (.tuple #[.agg #[.int .i64 r1, .int .i64 r2, .int .i64 r3, .int .i64 r4], .bool r5]) ∧ Below w.heap.size w w' := by
  unfold o_read.f at h
  split at h
  · rename_i hs
    injection h with h
    have hl : a0.data.toList.length ≤ 60000 := by rw [← Lib.size_eq]; exact hs
    by_cases c : wayA ((pieces 32 a0.data.toList).map mkB)
    · obtain ⟨k, hk⟩ := (read_A _ hl c).rounds
      rw [h, mkB_of] at hk
      exact PRa.logjamref41_read.calls k a0 r1 r2 r3 r4 r5 w hk
    · obtain ⟨k, hk⟩ := (read_B _ hl c).rounds
      rw [h, mkB_of] at hk
      exact PRb.logjamref41_read.calls k a0 r1 r2 r3 r4 r5 w hk
  · cases h
end Go.Proofs.YtadepdeckapgcaaDoor.Orc
end
