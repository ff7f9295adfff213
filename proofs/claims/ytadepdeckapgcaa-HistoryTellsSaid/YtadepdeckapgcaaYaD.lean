/- LawHistoryTells, part 4: what the proof stands on (merged by wip/shake.py out of the session's texts and of what the print wrote for this claim). -/
import Derived.Test.YtadepdeckapgcaaYaC

section
namespace Go.Proofs.Ytadepdeckapgcaa.PHi
open Go.RowKit Go.Proofs.Ytadepdeckapgcaa.Orc Go.Proofs.YtadepdeckapgcaaW.PrintWords Go.Proofs.YtadepdeckapgcaaW.PrintLast Go.Proofs.YtadepdeckapgcaaW.PrintMore
attribute [local go_sem] max2_int min2_int max_two min_two max_three min_three max_four min_four
set_option linter.unusedVariables false
set_option linter.unusedSimpArgs false
def logjamlaw30_Ints.l0 : Nat → List Int → List Int → Int → Option (Bool)
 | 0, _, _, _ => none
 | k + 1, x0, x1, x5 => if x5 < (x0.length : Int) then (if 0 ≤ x5 then (if x5 < (x1.length : Int) then (if (rd x0 x5) = (rd x1 x5) then (logjamlaw30_Ints.l0 k x0 x1 (wrap64 (x5 + 1))) else (some false)) else (none)) else (none)) else (some true)
def logjamlaw30_Ints.f (k : Nat) (l0 : List Int) (l1 : List Int) : Option (Bool) := if (l0.length : Int) = (l1.length : Int) then (logjamlaw30_Ints.l0 k l0 l1 0) else (some false)
set_option maxHeartbeats 8000000 in
set_option maxRecDepth 100000 in
theorem logjamlaw30_Ints.calls (k : Nat) (A0 : Option Addr) (c0 : Nat) (l0 : List Int) (A1 : Option Addr) (c1 : Nat) (l1 : List Int) (r : Bool) (w : World) (hr0 : Kd.C (Kd.int .i64) w A0 l0.length l0) (hc0 : l0.length ≤ c0) (hr1 : Kd.C (Kd.int .i64) w A1 l1.length l1) (hc1 : l1.length ≤ c1) (h : logjamlaw30_Ints.f k l0 l1 = some r) :
  Calls Try.prog 11 #[.slice A0 l0.length c0, .slice A1 l1.length c1] w fun e w' => e = .returned (.bool r) ∧ Drawn0 w w' := by
 have HR0 := Aside0.mk hr0
 have HC0 := Aside0.mk hc0
 clear hr0 hc0
 have HR1 := Aside0.mk hr1
 have HC1 := Aside0.mk hc1
 clear hr1 hc1
 have H : (if (l0.length : Int) = (l1.length : Int) then (logjamlaw30_Ints.l0 k l0 l1 0) else (some false)) = some r := h
 clear h
 by_cases c3 : (l0.length : Int) = (l1.length : Int)
 ·rw [if_pos c3] at H
  have c3b0 : ((l0.length : Int) == (l1.length : Int)) = true := beq_iff_eq.mpr c3
  have c3b1 : ((l0.length : Int) != (l1.length : Int)) = false := bne_eq_false_iff_eq.mpr c3
  have c3b2 : (l0.length == l1.length) = true := by first | simpa using c3 | (simp at c3 ⊢; omega)
  clear c3
  have H' := Aside0.mk H
  clear H
  go_enter Try.func11, Try.ntmps11
  go_wp2
  repeat (go_quiet (fail); try go_wp2)
  go_loopg [5] k (fun kq v5 w' => ∃ (x5_1 : Int), v5 = .int .i64 x5_1 ∧ Aside0 (logjamlaw30_Ints.l0 kq l0 l1 x5_1 = some r) ∧ Aside0 (kq ≤ k) ∧ Drawn0 w w')
  case atStart => exact ⟨(0), (by first | rfl | (simp; done) | (simp only [emptyNe_, emptyEq_]; done) | (simp [*]; done)), H', ⟨Nat.le_refl _⟩, by repeat (first | exact Drawn0.refl _ | apply Drawn0.step)⟩
  case round =>
   clear H'; try clear c1; try clear p2; try clear c3; try clear c3b0; try clear c3b1; try clear c3b2
   obtain ⟨x5_1, rfl, HA, HK1, ⟨m1, rfl⟩⟩ := hrel
   cases gk with
   | zero => exact absurd HA.out (by simp [logjamlaw30_Ints.l0])
   | succ k1 =>
    have H := HA.out
    clear HA
    simp only [logjamlaw30_Ints.l0] at H
    by_cases c4 : x5_1 < (l0.length : Int)
    ·rw [if_pos c4] at H
     have c4b0 : decide (x5_1 < (l0.length : Int)) = true := decide_eq_true c4
     clear c4
     by_cases c5 : 0 ≤ x5_1
     ·rw [if_pos c5] at H
      have c5b0 : decide (0 ≤ x5_1) = true := decide_eq_true c5
      clear c5
      by_cases c6 : x5_1 < (l1.length : Int)
      ·rw [if_pos c6] at H
       have c6b0 : decide (x5_1 < (l1.length : Int)) = true := decide_eq_true c6
       clear c6
       by_cases c7 : (rd l0 x5_1) = (rd l1 x5_1)
       ·rw [if_pos c7] at H
        have c7b0 : ((rd l0 x5_1) == (rd l1 x5_1)) = true := beq_iff_eq.mpr c7
        have c7b1 : ((rd l0 x5_1) != (rd l1 x5_1)) = false := bne_eq_false_iff_eq.mpr c7
        clear c7
        have H' := Aside0.mk H
        clear H
        have p170 : 0 ≤ (x5_1 : Int) := of_decide_eq_true (by first | (with_reducible assumption) | assumption)
        have q170 : x5_1 < (l0.length : Int) := of_decide_eq_true (by first | (with_reducible assumption) | assumption)
        obtain ⟨ad170, e170, hx170_0⟩ := Kd.at_int HR0.out x5_1 p170 q170
        cases e170
        replace p170 := eq_true p170
        replace q170 := eq_true q170
        have p171 : 0 ≤ (x5_1 : Int) := of_decide_eq_true (by first | (with_reducible assumption) | assumption)
        have q171 : x5_1 < (l1.length : Int) := of_decide_eq_true (by first | (with_reducible assumption) | assumption)
        obtain ⟨ad171, e171, hx171_0⟩ := Kd.at_int HR1.out x5_1 p171 q171
        cases e171
        replace p171 := eq_true p171
        replace q171 := eq_true q171
        go_wp2
        repeat (go_quiet (fail); try go_wp2)
        go_roundg k1
        case measure => have := HK1.out; omega
        case rel => exact ⟨(wrap64 (x5_1 + 1)), (by first | rfl | (simp; done) | (simp only [emptyNe_, emptyEq_]; done) | (simp [*]; done)), H', ⟨by have := HK1.out; omega⟩, by repeat (first | exact Drawn0.refl _ | apply Drawn0.step)⟩
       ·rw [if_neg c7] at H
        have c7b0 : ((rd l0 x5_1) == (rd l1 x5_1)) = false := beq_eq_false_iff_ne.mpr c7
        have c7b1 : ((rd l0 x5_1) != (rd l1 x5_1)) = true := bne_iff_ne.mpr c7
        obtain rfl := Option.some.inj H
        have p170 : 0 ≤ (x5_1 : Int) := of_decide_eq_true (by first | (with_reducible assumption) | assumption)
        have q170 : x5_1 < (l0.length : Int) := of_decide_eq_true (by first | (with_reducible assumption) | assumption)
        obtain ⟨ad170, e170, hx170_0⟩ := Kd.at_int HR0.out x5_1 p170 q170
        cases e170
        replace p170 := eq_true p170
        replace q170 := eq_true q170
        have p171 : 0 ≤ (x5_1 : Int) := of_decide_eq_true (by first | (with_reducible assumption) | assumption)
        have q171 : x5_1 < (l1.length : Int) := of_decide_eq_true (by first | (with_reducible assumption) | assumption)
        obtain ⟨ad171, e171, hx171_0⟩ := Kd.at_int HR1.out x5_1 p171 q171
        cases e171
        replace p171 := eq_true p171
        replace q171 := eq_true q171
        go_wp2
        repeat (go_quiet (fail); try go_wp2)
        go_ret
        exact ⟨by first | rfl | (simp; done) | (simp only [emptyNe_, emptyEq_]; done) | (simp [*]; done), by repeat (first | exact Drawn0.refl _ | apply Drawn0.step)⟩
      ·rw [if_neg c6] at H
       exact absurd H (by simp)
     ·rw [if_neg c5] at H
      exact absurd H (by simp)
    ·rw [if_neg c4] at H
     have c4b0 : decide (x5_1 < (l0.length : Int)) = false := decide_eq_false c4
     clear c4
     obtain rfl := Option.some.inj H
     go_wp2
     repeat (go_quiet (fail); try go_wp2)
     go_ret
     exact ⟨by first | rfl | (simp; done) | (simp only [emptyNe_, emptyEq_]; done) | (simp [*]; done), by repeat (first | exact Drawn0.refl _ | apply Drawn0.step)⟩
 ·rw [if_neg c3] at H
  have c3b0 : ((l0.length : Int) == (l1.length : Int)) = false := beq_eq_false_iff_ne.mpr c3
  have c3b1 : ((l0.length : Int) != (l1.length : Int)) = true := bne_iff_ne.mpr c3
  have c3b2 : (l0.length == l1.length) = false := by first | simpa using c3 | (simp at c3 ⊢; omega)
  obtain rfl := Option.some.inj H
  go_enter Try.func11, Try.ntmps11
  go_wp2
  repeat (go_quiet (fail); try go_wp2)
  go_ret
  exact ⟨by first | rfl | (simp; done) | (simp only [emptyNe_, emptyEq_]; done) | (simp [*]; done), by repeat (first | exact Drawn0.refl _ | apply Drawn0.step)⟩
def slices_Index_int_int.l0 : Nat → List Int → Int → Int → Int → Option (Int)
 | 0, _, _, _, _ => none
 | k + 1, x0, x1, x7, x8 => if x8 < x7 then (if 0 ≤ x8 then (if x8 < (x0.length : Int) then (if x1 = (rd x0 x8) then (some x8) else (slices_Index_int_int.l0 k x0 x1 x7 (wrap64 (x8 + 1)))) else (none)) else (none)) else (some (-1))
def slices_Index_int_int.f (k : Nat) (l0 : List Int) (a1 : Int) : Option (Int) := slices_Index_int_int.l0 k l0 a1 (l0.length : Int) 0
set_option maxHeartbeats 8000000 in
set_option maxRecDepth 100000 in
theorem slices_Index_int_int.calls (k : Nat) (A0 : Option Addr) (c0 : Nat) (l0 : List Int) (a1 : Int) (r : Int) (w : World) (hr0 : Kd.C (Kd.int .i64) w A0 l0.length l0) (hc0 : l0.length ≤ c0) (h : slices_Index_int_int.f k l0 a1 = some r) :
  Calls Try.prog 50 #[.slice A0 l0.length c0, .int .i64 a1] w fun e w' => e = .returned (.int .i64 r) ∧ Drawn0 w w' := by
 have HR0 := Aside0.mk hr0
 have HC0 := Aside0.mk hc0
 clear hr0 hc0
 have H : (slices_Index_int_int.l0 k l0 a1 (l0.length : Int) 0) = some r := h
 clear h
 have H' := Aside0.mk H
 clear H
 go_enter Try.func50, Try.ntmps50
 go_wp2
 go_loopg [8] k (fun kq v8 w' => ∃ (x8_1 : Int), v8 = .int .i64 x8_1 ∧ Aside0 (slices_Index_int_int.l0 kq l0 a1 (l0.length : Int) x8_1 = some r) ∧ Aside0 (kq ≤ k) ∧ Drawn0 w w')
 case atStart => exact ⟨(0), (by first | rfl | (simp; done) | (simp only [emptyNe_, emptyEq_]; done) | (simp [*]; done)), H', ⟨Nat.le_refl _⟩, by repeat (first | exact Drawn0.refl _ | apply Drawn0.step)⟩
 case round =>
  clear H'; try clear p2
  obtain ⟨x8_1, rfl, HA, HK1, ⟨m1, rfl⟩⟩ := hrel
  cases gk with
  | zero => exact absurd HA.out (by simp [slices_Index_int_int.l0])
  | succ k1 =>
   have H := HA.out
   clear HA
   simp only [slices_Index_int_int.l0] at H
   by_cases c3 : x8_1 < (l0.length : Int)
   ·rw [if_pos c3] at H
    have c3b0 : decide (x8_1 < (l0.length : Int)) = true := decide_eq_true c3
    clear c3
    by_cases c4 : 0 ≤ x8_1
    ·rw [if_pos c4] at H
     have c4b0 : decide (0 ≤ x8_1) = true := decide_eq_true c4
     clear c4
     by_cases c5 : x8_1 < (l0.length : Int)
     ·rw [if_pos c5] at H
      have c5b0 : decide (x8_1 < (l0.length : Int)) = true := decide_eq_true c5
      clear c5
      by_cases c6 : a1 = (rd l0 x8_1)
      ·rw [if_pos c6] at H
       have c6b0 : (a1 == (rd l0 x8_1)) = true := beq_iff_eq.mpr c6
       have c6b1 : (a1 != (rd l0 x8_1)) = false := bne_eq_false_iff_eq.mpr c6
       clear c6
       obtain rfl := Option.some.inj H
       have p172 : 0 ≤ (x8_1 : Int) := of_decide_eq_true (by first | (with_reducible assumption) | assumption)
       have q172 : x8_1 < (l0.length : Int) := of_decide_eq_true (by first | (with_reducible assumption) | assumption)
       obtain ⟨ad172, e172, hx172_0⟩ := Kd.at_int HR0.out x8_1 p172 q172
       cases e172
       replace p172 := eq_true p172
       replace q172 := eq_true q172
       go_wp2
       go_ret
       exact ⟨by first | rfl | (simp; done) | (simp only [emptyNe_, emptyEq_]; done) | (simp [*]; done), by repeat (first | exact Drawn0.refl _ | apply Drawn0.step)⟩
      ·rw [if_neg c6] at H
       have c6b0 : (a1 == (rd l0 x8_1)) = false := beq_eq_false_iff_ne.mpr c6
       have c6b1 : (a1 != (rd l0 x8_1)) = true := bne_iff_ne.mpr c6
       have H' := Aside0.mk H
       clear H
       have p172 : 0 ≤ (x8_1 : Int) := of_decide_eq_true (by first | (with_reducible assumption) | assumption)
       have q172 : x8_1 < (l0.length : Int) := of_decide_eq_true (by first | (with_reducible assumption) | assumption)
       obtain ⟨ad172, e172, hx172_0⟩ := Kd.at_int HR0.out x8_1 p172 q172
       cases e172
       replace p172 := eq_true p172
       replace q172 := eq_true q172
       go_wp2
       go_roundg k1
       case measure => have := HK1.out; omega
       case rel => exact ⟨(wrap64 (x8_1 + 1)), (by first | rfl | (simp; done) | (simp only [emptyNe_, emptyEq_]; done) | (simp [*]; done)), H', ⟨by have := HK1.out; omega⟩, by repeat (first | exact Drawn0.refl _ | apply Drawn0.step)⟩
     ·rw [if_neg c5] at H
      exact absurd H (by simp)
    ·rw [if_neg c4] at H
     exact absurd H (by simp)
   ·rw [if_neg c3] at H
    have c3b0 : decide (x8_1 < (l0.length : Int)) = false := decide_eq_false c3
    clear c3
    obtain rfl := Option.some.inj H
    go_wp2
    go_ret
    exact ⟨by first | rfl | (simp; done) | (simp only [emptyNe_, emptyEq_]; done) | (simp [*]; done), by repeat (first | exact Drawn0.refl _ | apply Drawn0.step)⟩
def slices_Contains_int_int.f (k : Nat) (l0 : List Int) (a1 : Int) : Option (Bool) := (slices_Index_int_int.f k l0 a1).bind fun t173 => (some (decide (t173 ≥ 0)))
set_option maxHeartbeats 8000000 in
set_option maxRecDepth 100000 in
theorem slices_Contains_int_int.calls (k : Nat) (A0 : Option Addr) (c0 : Nat) (l0 : List Int) (a1 : Int) (r : Bool) (w : World) (hr0 : Kd.C (Kd.int .i64) w A0 l0.length l0) (hc0 : l0.length ≤ c0) (h : slices_Contains_int_int.f k l0 a1 = some r) :
  Calls Try.prog 29 #[.slice A0 l0.length c0, .int .i64 a1] w fun e w' => e = .returned (.bool r) ∧ Drawn0 w w' := by
 have HR0 := Aside0.mk hr0
 have HC0 := Aside0.mk hc0
 clear hr0 hc0
 have H : ((slices_Index_int_int.f k l0 a1).bind fun t173 => (some (decide (t173 ≥ 0)))) = some r := h
 clear h
 replace H := Option.bind_eq_some_iff.mp H
 obtain ⟨t173, A30, H⟩ := H
 replace H : (some (decide (t173 ≥ 0))) = some r := H
 have A3 := Aside0.mk A30
 clear A30
 obtain rfl := Option.some.inj H
 go_enter Try.func29, Try.ntmps29
 go_wp2_with (first | ((with_reducible refine gate_callee (f := 50) rfl ?_); refine goesL_ (some 7) rfl rfl Try.func50 (by kernel_rfl) rfl #[.slice A0 l0.length c0, .int .i64 a1] rfl (by (try simp only [List.map_toArray, List.map_cons, List.map_nil]); first | done | rfl | (simp only [List.length_drop, List.length_take]; rfl)) ?_; (with_reducible refine (slices_Index_int_int.calls k _ _ l0 a1 t173 _ ?side1 ?side2 A3.out).mono ?_); (case side1 => repeat (first | exact HR0.out | (with_reducible refine Kd.C_alloc ?_ _) | (with_reducible refine Kd.C_drewN ?_ _) | (with_reducible refine Kd.C_drew ?_))); (case side2 => exact HC0.out); rintro e w' ⟨rfl, ⟨nd, rfl⟩⟩; refine ⟨_, rfl, ?_⟩))
 go_ret
 exact ⟨by first | rfl | (simp; done) | (simp only [emptyNe_, emptyEq_]; done) | (simp [*]; done), by repeat (first | exact Drawn0.refl _ | apply Drawn0.step)⟩
def history_Before.j0 : Nat → Bool → Option (Bool)
 | 0, _ => none
 | k + 1, x6 => some x6
def history_Before.f (k : Nat) (l0 : List (S29)) (a1 : Int) (a2 : Int) : Option (Bool) := (o_committed.f l0).bind fun t174 => (if a1 = a2 then (history_Before.j0 k false) else ((slices_Contains_int_int.f k t174 a1).bind fun t177 => (if t177 = true then ((slices_Contains_int_int.f k t174 a2).bind fun t178 => (if t178 = true then ((o_conflict.f l0 a1 a2).bind fun t179 => (history_Before.j0 k t179)) else (history_Before.j0 k false))) else (history_Before.j0 k false))))
set_option maxHeartbeats 8000000 in
set_option maxRecDepth 100000 in
theorem history_Before.calls (k : Nat) (A0 : Option Addr) (c0 : Nat) (l0 : List (S29)) (a1 : Int) (a2 : Int) (r : Bool) (w : World) (hr0 : Kd.C k29 w A0 l0.length l0) (hc0 : l0.length ≤ c0) (h : history_Before.f k l0 a1 a2 = some r) :
  Calls Try.prog 12 #[.slice A0 l0.length c0, .int .i64 a1, .int .i64 a2] w fun e w' => e = .returned (.bool r) ∧ Below w.heap.size w w' := by
 have HR0 := Aside0.mk hr0
 have HC0 := Aside0.mk hc0
 clear hr0 hc0
 have HB := Aside0.mk (Below.refl w.heap.size w)
 have H : ((o_committed.f l0).bind fun t174 => (if a1 = a2 then (history_Before.j0 k false) else ((slices_Contains_int_int.f k t174 a1).bind fun t177 => (if t177 = true then ((slices_Contains_int_int.f k t174 a2).bind fun t178 => (if t178 = true then ((o_conflict.f l0 a1 a2).bind fun t179 => (history_Before.j0 k t179)) else (history_Before.j0 k false))) else (history_Before.j0 k false))))) = some r := h
 clear h
 replace H := Option.bind_eq_some_iff.mp H
 obtain ⟨t174, A40, H⟩ := H
 replace H : (if a1 = a2 then (history_Before.j0 k false) else ((slices_Contains_int_int.f k t174 a1).bind fun t177 => (if t177 = true then ((slices_Contains_int_int.f k t174 a2).bind fun t178 => (if t178 = true then ((o_conflict.f l0 a1 a2).bind fun t179 => (history_Before.j0 k t179)) else (history_Before.j0 k false))) else (history_Before.j0 k false)))) = some r := H
 have A4 := Aside0.mk A40
 clear A40
 have HC5 := Aside0.mk H
 clear H
 go_enter Try.func12, Try.ntmps12
 go_upto_region 2 with (first | ((with_reducible refine gate_callee (f := 21) rfl ?_); refine goesL_ (some 9) rfl rfl Try.func21 (by kernel_rfl) rfl #[.slice A0 l0.length c0] rfl (by (try simp only [List.map_toArray, List.map_cons, List.map_nil]); first | done | rfl | (simp only [List.length_drop, List.length_take]; rfl)) ?_; (with_reducible refine (o_committed.calls _ _ l0 t174 _ ?side1 ?side2 A4.out).mono ?_); (case side1 => repeat (first | exact HR0.out | (with_reducible refine Kd.C_alloc ?_ _) | (with_reducible refine Kd.C_drewN ?_ _) | (with_reducible refine Kd.C_drew ?_))); (case side2 => exact HC0.out); rintro e w6 ⟨v175, rfl, ho0, hb⟩; refine ⟨_, rfl, ?_⟩; have n0_ := Aside0.mk (Kd.R_lower ho0 (below_size (by repeat (first | (with_reducible first | exact HB.out | apply below_alloc | apply pw_below_drewN | apply below_drew1) | exact HB.out)))); have n1_ := Aside0.mk (below_step (by repeat (first | (with_reducible first | exact HB.out | apply below_alloc | apply pw_below_drewN | apply below_drew1) | exact HB.out)) hb); clear HB; have HO176 := n0_; have HB := n1_; clear n0_ n1_; (try clear hb); (try clear hb2); (try clear hk); (try clear hi); (try clear ho0)))
 (try simp only [Act.put, List.setIfInBounds_toArray, List.set_cons_zero, List.set_cons_succ])
 go_cut [6] (fun v6 wc => ∃ (kq : Nat) (x6_4 : Bool), v6 = .bool x6_4 ∧ Aside0 (history_Before.j0 kq x6_4 = some r) ∧ Aside0 (kq ≤ k) ∧ Aside0 (Below w.heap.size w wc))
 case first =>
  have H := HC5.out
  clear HC5
  by_cases c7 : a1 = a2
  ·rw [if_pos c7] at H
   have c7b0 : (a1 == a2) = true := beq_iff_eq.mpr c7
   have c7b1 : (a1 != a2) = false := bne_eq_false_iff_eq.mpr c7
   clear c7
   (first | rw [c7b0] | (simp only [i64_w, i32_w]; rw [c7b0]) | skip)
   have H' := Aside0.mk H
   clear H
   go_wp2
   go_meet
   case rel => exact ⟨_, (false), (by first | rfl | (simp; done) | (simp only [emptyNe_, emptyEq_]; done) | (simp [*]; done)), H', ⟨by first | omega | exact Nat.le_refl _⟩, ⟨by repeat (first | (with_reducible first | exact HB.out | apply below_alloc | apply pw_below_drewN | apply below_drew1) | exact HB.out)⟩⟩
  ·rw [if_neg c7] at H
   have c7b0 : (a1 == a2) = false := beq_eq_false_iff_ne.mpr c7
   have c7b1 : (a1 != a2) = true := bne_iff_ne.mpr c7
   (first | rw [c7b0] | (simp only [i64_w, i32_w]; rw [c7b0]) | skip)
   replace H := Option.bind_eq_some_iff.mp H
   obtain ⟨t177, A80, H⟩ := H
   replace H : (if t177 = true then ((slices_Contains_int_int.f k t174 a2).bind fun t178 => (if t178 = true then ((o_conflict.f l0 a1 a2).bind fun t179 => (history_Before.j0 k t179)) else (history_Before.j0 k false))) else (history_Before.j0 k false)) = some r := H
   have A8 := Aside0.mk A80
   clear A80
   by_cases c9 : t177 = true
   ·subst c9
    have H1 : ((slices_Contains_int_int.f k t174 a2).bind fun t178 => (if t178 = true then ((o_conflict.f l0 a1 a2).bind fun t179 => (history_Before.j0 k t179)) else (history_Before.j0 k false))) = some r := by rw [if_pos rfl] at H; exact H
    clear H
    have H := H1
    clear H1
    replace H := Option.bind_eq_some_iff.mp H
    obtain ⟨t178, A100, H⟩ := H
    replace H : (if t178 = true then ((o_conflict.f l0 a1 a2).bind fun t179 => (history_Before.j0 k t179)) else (history_Before.j0 k false)) = some r := H
    have A10 := Aside0.mk A100
    clear A100
    by_cases c11 : t178 = true
    ·subst c11
     have H1 : ((o_conflict.f l0 a1 a2).bind fun t179 => (history_Before.j0 k t179)) = some r := by rw [if_pos rfl] at H; exact H
     clear H
     have H := H1
     clear H1
     replace H := Option.bind_eq_some_iff.mp H
     obtain ⟨t179, A120, H⟩ := H
     replace H : (history_Before.j0 k t179) = some r := H
     have A12 := Aside0.mk A120
     clear A120
     have H' := Aside0.mk H
     clear H
     obtain ⟨Ao13, co13, eo13⟩ := Kd.R_slice HO176.out
     subst eo13
     go_wp2_with (first | (go_at_call 29; (with_reducible refine (slices_Contains_int_int.calls k _ _ t174 a1 true _ ?side1 ?side2 A8.out).mono ?_); (case side1 => repeat (first | exact (Kd.R_reads' HO176.out).2.2 | (with_reducible refine Kd.C_alloc ?_ _) | (with_reducible refine Kd.C_drewN ?_ _) | (with_reducible refine Kd.C_drew ?_))); (case side2 => exact (Kd.R_reads' HO176.out).2.1); rintro e w' ⟨rfl, ⟨nd, rfl⟩⟩) | (go_at_call 29; (with_reducible refine (slices_Contains_int_int.calls k _ _ t174 a2 true _ ?side1 ?side2 A10.out).mono ?_); (case side1 => repeat (first | exact (Kd.R_reads' HO176.out).2.2 | (with_reducible refine Kd.C_alloc ?_ _) | (with_reducible refine Kd.C_drewN ?_ _) | (with_reducible refine Kd.C_drew ?_))); (case side2 => exact (Kd.R_reads' HO176.out).2.1); rintro e w' ⟨rfl, ⟨nd, rfl⟩⟩) | (go_at_call 26; (with_reducible refine (o_conflict.calls _ _ l0 a1 a2 t179 _ ?side1 ?side2 A12.out).mono ?_); (case side1 => repeat (first | exact (Kd.C_below HR0.out (by repeat (first | (with_reducible first | exact HB.out | apply below_alloc | apply pw_below_drewN | apply below_drew1) | exact HB.out))) | (with_reducible refine Kd.C_alloc ?_ _) | (with_reducible refine Kd.C_drewN ?_ _) | (with_reducible refine Kd.C_drew ?_))); (case side2 => exact HC0.out); rintro e w14 ⟨rfl, hb⟩; have n0_ := Aside0.mk (Kd.R_below (by (with_reducible repeat (first | apply Kd.R_alloc | apply Kd.R_drewN | apply Kd.R_drew)); exact HO176.out) hb); have n1_ := Aside0.mk (below_step (by repeat (first | (with_reducible first | exact HB.out | apply below_alloc | apply pw_below_drewN | apply below_drew1) | exact HB.out)) hb); clear HO176; clear HB; have HO176 := n0_; have HB := n1_; clear n0_ n1_; (try clear hb); (try clear hb2); (try clear hk); (try clear hi)))
     go_meet
     case rel => exact ⟨_, (t179), (by first | rfl | (simp; done) | (simp only [emptyNe_, emptyEq_]; done) | (simp [*]; done)), H', ⟨by first | omega | exact Nat.le_refl _⟩, ⟨by repeat (first | (with_reducible first | exact HB.out | apply below_alloc | apply pw_below_drewN | apply below_drew1) | exact HB.out)⟩⟩
    ·replace c11 := Bool.eq_false_iff.mpr c11
     subst c11
     have H1 : (history_Before.j0 k false) = some r := by rw [if_neg (show ¬ (false = true) by decide)] at H; exact H
     clear H
     have H := H1
     clear H1
     have H' := Aside0.mk H
     clear H
     obtain ⟨Ao15, co15, eo15⟩ := Kd.R_slice HO176.out
     subst eo15
     go_wp2_with (first | (go_at_call 29; (with_reducible refine (slices_Contains_int_int.calls k _ _ t174 a1 true _ ?side1 ?side2 A8.out).mono ?_); (case side1 => repeat (first | exact (Kd.R_reads' HO176.out).2.2 | (with_reducible refine Kd.C_alloc ?_ _) | (with_reducible refine Kd.C_drewN ?_ _) | (with_reducible refine Kd.C_drew ?_))); (case side2 => exact (Kd.R_reads' HO176.out).2.1); rintro e w' ⟨rfl, ⟨nd, rfl⟩⟩) | (go_at_call 29; (with_reducible refine (slices_Contains_int_int.calls k _ _ t174 a2 false _ ?side1 ?side2 A10.out).mono ?_); (case side1 => repeat (first | exact (Kd.R_reads' HO176.out).2.2 | (with_reducible refine Kd.C_alloc ?_ _) | (with_reducible refine Kd.C_drewN ?_ _) | (with_reducible refine Kd.C_drew ?_))); (case side2 => exact (Kd.R_reads' HO176.out).2.1); rintro e w' ⟨rfl, ⟨nd, rfl⟩⟩))
     go_meet
     case rel => exact ⟨_, (false), (by first | rfl | (simp; done) | (simp only [emptyNe_, emptyEq_]; done) | (simp [*]; done)), H', ⟨by first | omega | exact Nat.le_refl _⟩, ⟨by repeat (first | (with_reducible first | exact HB.out | apply below_alloc | apply pw_below_drewN | apply below_drew1) | exact HB.out)⟩⟩
   ·replace c9 := Bool.eq_false_iff.mpr c9
    subst c9
    have H1 : (history_Before.j0 k false) = some r := by rw [if_neg (show ¬ (false = true) by decide)] at H; exact H
    clear H
    have H := H1
    clear H1
    have H' := Aside0.mk H
    clear H
    obtain ⟨Ao16, co16, eo16⟩ := Kd.R_slice HO176.out
    subst eo16
    go_wp2_with (first | (go_at_call 29; (with_reducible refine (slices_Contains_int_int.calls k _ _ t174 a1 false _ ?side1 ?side2 A8.out).mono ?_); (case side1 => repeat (first | exact (Kd.R_reads' HO176.out).2.2 | (with_reducible refine Kd.C_alloc ?_ _) | (with_reducible refine Kd.C_drewN ?_ _) | (with_reducible refine Kd.C_drew ?_))); (case side2 => exact (Kd.R_reads' HO176.out).2.1); rintro e w' ⟨rfl, ⟨nd, rfl⟩⟩))
    go_meet
    case rel => exact ⟨_, (false), (by first | rfl | (simp; done) | (simp only [emptyNe_, emptyEq_]; done) | (simp [*]; done)), H', ⟨by first | omega | exact Nat.le_refl _⟩, ⟨by repeat (first | (with_reducible first | exact HB.out | apply below_alloc | apply pw_below_drewN | apply below_drew1) | exact HB.out)⟩⟩
 case rest =>
  clear HC5; try clear c1; try clear c2; try clear p2; try clear c7; try clear c7b0; try clear c7b1; try clear c9; try clear c11; try clear c12
  obtain ⟨kq, x6_4, rfl, HA, HJ4, HB⟩ := hcut
  cases kq with
  | zero => exact absurd HA.out (by simp [history_Before.j0])
  | succ kj4 =>
   have H := HA.out
   clear HA
   simp only [history_Before.j0] at H
   obtain rfl := Option.some.inj H
   go_wp2
   go_ret
   exact ⟨by first | rfl | (simp [errW_none, errW_some] <;> rfl) | (simp [*, errW_none, errW_some] <;> rfl), by repeat (first | (with_reducible first | exact HB.out | apply below_alloc | apply pw_below_drewN | apply below_drew1) | exact HB.out)⟩
def logjamref38_Committed.l0 : Nat → List (S29) → Int → List Int → Int → Option (Bool)
 | 0, _, _, _, _ => none
 | k + 1, x0, x1, x5, x6 => if x6 < (x5.length : Int) then (if 0 ≤ x6 then (if 0 ≤ (rd x5 x6) then (if (rd x5 x6) < (x0.length : Int) then (if ((rd_T29 x0 (rd x5 x6)).f2) = x1 then (some (((rd_T29 x0 (rd x5 x6)).f0) == 3)) else (logjamref38_Committed.l0 k x0 x1 x5 (wrap64 (x6 + 1)))) else (none)) else (none)) else (none)) else (some false)
def logjamref38_Committed.f (k : Nat) (l0 : List (S29)) (a1 : Int) : Option (Bool) := (logjamref38_Ends.f k l0).bind fun t180 => (logjamref38_Committed.l0 k l0 a1 t180 0)
set_option maxHeartbeats 8000000 in
set_option maxRecDepth 100000 in
theorem logjamref38_Committed.calls (k : Nat) (A0 : Option Addr) (c0 : Nat) (l0 : List (S29)) (a1 : Int) (r : Bool) (w : World) (hr0 : Kd.C k29 w A0 l0.length l0) (hc0 : l0.length ≤ c0) (h : logjamref38_Committed.f k l0 a1 = some r) :
  Calls Try.prog 30 #[.slice A0 l0.length c0, .int .i64 a1] w fun e w' => e = .returned (.bool r) ∧ Below w.heap.size w w' := by
 have HR0 := Aside0.mk hr0
 have HC0 := Aside0.mk hc0
 clear hr0 hc0
 have HB := Aside0.mk (Below.refl w.heap.size w)
 have H : ((logjamref38_Ends.f k l0).bind fun t180 => (logjamref38_Committed.l0 k l0 a1 t180 0)) = some r := h
 clear h
 replace H := Option.bind_eq_some_iff.mp H
 obtain ⟨t180, A30, H⟩ := H
 replace H : (logjamref38_Committed.l0 k l0 a1 t180 0) = some r := H
 have A3 := Aside0.mk A30
 clear A30
 have H' := Aside0.mk H
 clear H
 go_enter Try.func30, Try.ntmps30
 go_wp2_with (first | ((with_reducible refine gate_callee (f := 8) rfl ?_); refine goesL_ (some 8) rfl rfl Try.func8 (by kernel_rfl) rfl #[.slice A0 l0.length c0] rfl (by (try simp only [List.map_toArray, List.map_cons, List.map_nil]); first | done | rfl | (simp only [List.length_drop, List.length_take]; rfl)) ?_; (with_reducible refine (logjamref38_Ends.calls k _ _ l0 t180 _ ?side1 ?side2 A3.out).mono ?_); (case side1 => repeat (first | exact HR0.out | (with_reducible refine Kd.C_alloc ?_ _) | (with_reducible refine Kd.C_drewN ?_ _) | (with_reducible refine Kd.C_drew ?_))); (case side2 => exact HC0.out); rintro e w4 ⟨v181, rfl, ho0, hb⟩; refine ⟨_, rfl, ?_⟩; have n0_ := Aside0.mk (Kd.R_lower ho0 (below_size (by repeat (first | (with_reducible first | exact HB.out | apply below_alloc | apply pw_below_drewN | apply below_drew1) | exact HB.out)))); have n1_ := Aside0.mk (below_step (by repeat (first | (with_reducible first | exact HB.out | apply below_alloc | apply pw_below_drewN | apply below_drew1) | exact HB.out)) hb); clear HB; have HO182 := n0_; have HB := n1_; clear n0_ n1_; (try clear hb); (try clear hb2); (try clear hk); (try clear hi); (try clear ho0)))
 go_loopg [6] k (fun kq v6 w' => ∃ (x6_1 : Int), v6 = .int .i64 x6_1 ∧ Aside0 (logjamref38_Committed.l0 kq l0 a1 t180 x6_1 = some r) ∧ Aside0 (kq ≤ k) ∧ Aside0 (Kd.R (Kd.int .i64) 3 w' w.heap.size (fun _ => True) v181 t180) ∧ Aside0 (Below w.heap.size w w'))
 case atStart => exact ⟨(0), (by first | rfl | (simp; done) | (simp only [emptyNe_, emptyEq_]; done) | (simp [*]; done)), H', ⟨Nat.le_refl _⟩, ⟨by (with_reducible repeat (first | apply Kd.R_alloc | apply Kd.R_drewN | apply Kd.R_drew)); exact HO182.out⟩, ⟨by repeat (first | (with_reducible first | exact HB.out | apply below_alloc | apply pw_below_drewN | apply below_drew1) | exact HB.out)⟩⟩
 case round =>
  clear H'; try clear p2; try clear c3
  obtain ⟨x6_1, rfl, HA, HK1, HO_5, HB⟩ := hrel
  cases gk with
  | zero => exact absurd HA.out (by simp [logjamref38_Committed.l0])
  | succ k1 =>
   have H := HA.out
   clear HA
   simp only [logjamref38_Committed.l0] at H
   by_cases c5 : x6_1 < (t180.length : Int)
   ·rw [if_pos c5] at H
    have c5b0 : decide (x6_1 < (t180.length : Int)) = true := decide_eq_true c5
    clear c5
    by_cases c6 : 0 ≤ x6_1
    ·rw [if_pos c6] at H
     have c6b0 : decide (0 ≤ x6_1) = true := decide_eq_true c6
     clear c6
     by_cases c7 : 0 ≤ (rd t180 x6_1)
     ·rw [if_pos c7] at H
      have c7b0 : decide (0 ≤ (rd t180 x6_1)) = true := decide_eq_true c7
      clear c7
      by_cases c8 : (rd t180 x6_1) < (l0.length : Int)
      ·rw [if_pos c8] at H
       have c8b0 : decide ((rd t180 x6_1) < (l0.length : Int)) = true := decide_eq_true c8
       clear c8
       by_cases c9 : ((rd_T29 l0 (rd t180 x6_1)).f2) = a1
       ·rw [if_pos c9] at H
        have c9b0 : (((rd_T29 l0 (rd t180 x6_1)).f2) == a1) = true := beq_iff_eq.mpr c9
        have c9b1 : (((rd_T29 l0 (rd t180 x6_1)).f2) != a1) = false := bne_eq_false_iff_eq.mpr c9
        clear c9
        obtain rfl := Option.some.inj H
        obtain ⟨Ao10, co10, eo10⟩ := Kd.R_slice HO_5.out
        subst eo10
        have p183 : 0 ≤ (x6_1 : Int) := of_decide_eq_true (by first | (with_reducible assumption) | assumption)
        have q183 : x6_1 < (t180.length : Int) := of_decide_eq_true (by first | (with_reducible assumption) | assumption)
        obtain ⟨ad183, e183, hx183_0⟩ := Kd.at_int (Kd.R_reads' HO_5.out).2.2 x6_1 p183 q183
        cases e183
        replace p183 := eq_true p183
        replace q183 := eq_true q183
        have p184 : 0 ≤ ((rd t180 x6_1) : Int) := of_decide_eq_true (by first | (with_reducible assumption) | assumption)
        have q184 : (rd t180 x6_1) < (l0.length : Int) := of_decide_eq_true (by first | (with_reducible assumption) | assumption)
        obtain ⟨ad184, e184, hx184_0, hx184_1, hx184_2, hx184_3, hx184_4⟩ := at_T29 HR0.out (rd t180 x6_1) p184 q184
        cases e184
        replace hx184_0 := (HB.out.cell (World.block_lt_of_cell? w _ hx184_0)).trans hx184_0
        replace hx184_1 := (HB.out.cell (World.block_lt_of_cell? w _ hx184_1)).trans hx184_1
        replace hx184_2 := (HB.out.cell (World.block_lt_of_cell? w _ hx184_2)).trans hx184_2
        replace hx184_3 := (HB.out.cell (World.block_lt_of_cell? w _ hx184_3)).trans hx184_3
        replace hx184_4 := (HB.out.cell (World.block_lt_of_cell? w _ hx184_4)).trans hx184_4
        replace p184 := eq_true p184
        replace q184 := eq_true q184
        have p185 : 0 ≤ (x6_1 : Int) := of_decide_eq_true (by first | (with_reducible assumption) | assumption)
        have q185 : x6_1 < (t180.length : Int) := of_decide_eq_true (by first | (with_reducible assumption) | assumption)
        obtain ⟨ad185, e185, hx185_0⟩ := Kd.at_int (Kd.R_reads' HO_5.out).2.2 x6_1 p185 q185
        obtain rfl : ad183 = ad185 := (by injection e185)
        replace p185 := eq_true p185
        replace q185 := eq_true q185
        have p186 : 0 ≤ ((rd t180 x6_1) : Int) := of_decide_eq_true (by first | (with_reducible assumption) | assumption)
        have q186 : (rd t180 x6_1) < (l0.length : Int) := of_decide_eq_true (by first | (with_reducible assumption) | assumption)
        obtain ⟨ad186, e186, hx186_0, hx186_1, hx186_2, hx186_3, hx186_4⟩ := at_T29 HR0.out (rd t180 x6_1) p186 q186
        obtain rfl : ad184 = ad186 := (by injection e186)
        replace hx186_0 := (HB.out.cell (World.block_lt_of_cell? w _ hx186_0)).trans hx186_0
        replace hx186_1 := (HB.out.cell (World.block_lt_of_cell? w _ hx186_1)).trans hx186_1
        replace hx186_2 := (HB.out.cell (World.block_lt_of_cell? w _ hx186_2)).trans hx186_2
        replace hx186_3 := (HB.out.cell (World.block_lt_of_cell? w _ hx186_3)).trans hx186_3
        replace hx186_4 := (HB.out.cell (World.block_lt_of_cell? w _ hx186_4)).trans hx186_4
        replace p186 := eq_true p186
        replace q186 := eq_true q186
        go_wp2
        go_ret
        exact ⟨by first | rfl | (simp [errW_none, errW_some] <;> rfl) | (simp [*, errW_none, errW_some] <;> rfl), by repeat (first | (with_reducible first | exact HB.out | apply below_alloc | apply pw_below_drewN | apply below_drew1) | exact HB.out)⟩
       ·rw [if_neg c9] at H
        have c9b0 : (((rd_T29 l0 (rd t180 x6_1)).f2) == a1) = false := beq_eq_false_iff_ne.mpr c9
        have c9b1 : (((rd_T29 l0 (rd t180 x6_1)).f2) != a1) = true := bne_iff_ne.mpr c9
        have H' := Aside0.mk H
        clear H
        obtain ⟨Ao11, co11, eo11⟩ := Kd.R_slice HO_5.out
        subst eo11
        have p183 : 0 ≤ (x6_1 : Int) := of_decide_eq_true (by first | (with_reducible assumption) | assumption)
        have q183 : x6_1 < (t180.length : Int) := of_decide_eq_true (by first | (with_reducible assumption) | assumption)
        obtain ⟨ad183, e183, hx183_0⟩ := Kd.at_int (Kd.R_reads' HO_5.out).2.2 x6_1 p183 q183
        cases e183
        replace p183 := eq_true p183
        replace q183 := eq_true q183
        have p184 : 0 ≤ ((rd t180 x6_1) : Int) := of_decide_eq_true (by first | (with_reducible assumption) | assumption)
        have q184 : (rd t180 x6_1) < (l0.length : Int) := of_decide_eq_true (by first | (with_reducible assumption) | assumption)
        obtain ⟨ad184, e184, hx184_0, hx184_1, hx184_2, hx184_3, hx184_4⟩ := at_T29 HR0.out (rd t180 x6_1) p184 q184
        cases e184
        replace hx184_0 := (HB.out.cell (World.block_lt_of_cell? w _ hx184_0)).trans hx184_0
        replace hx184_1 := (HB.out.cell (World.block_lt_of_cell? w _ hx184_1)).trans hx184_1
        replace hx184_2 := (HB.out.cell (World.block_lt_of_cell? w _ hx184_2)).trans hx184_2
        replace hx184_3 := (HB.out.cell (World.block_lt_of_cell? w _ hx184_3)).trans hx184_3
        replace hx184_4 := (HB.out.cell (World.block_lt_of_cell? w _ hx184_4)).trans hx184_4
        replace p184 := eq_true p184
        replace q184 := eq_true q184
        go_wp2
        go_roundg k1
        case measure => have := HK1.out; omega
        case rel => exact ⟨(wrap64 (x6_1 + 1)), (by first | rfl | (simp; done) | (simp only [emptyNe_, emptyEq_]; done) | (simp [*]; done)), H', ⟨by have := HK1.out; omega⟩, ⟨by (with_reducible repeat (first | apply Kd.R_alloc | apply Kd.R_drewN | apply Kd.R_drew)); exact HO_5.out⟩, ⟨by repeat (first | (with_reducible first | exact HB.out | apply below_alloc | apply pw_below_drewN | apply below_drew1) | exact HB.out)⟩⟩
      ·rw [if_neg c8] at H
       exact absurd H (by simp)
     ·rw [if_neg c7] at H
      exact absurd H (by simp)
    ·rw [if_neg c6] at H
     exact absurd H (by simp)
   ·rw [if_neg c5] at H
    have c5b0 : decide (x6_1 < (t180.length : Int)) = false := decide_eq_false c5
    clear c5
    obtain rfl := Option.some.inj H
    obtain ⟨Ao12, co12, eo12⟩ := Kd.R_slice HO_5.out
    subst eo12
    go_wp2
    go_ret
    exact ⟨by first | rfl | (simp [errW_none, errW_some] <;> rfl) | (simp [*, errW_none, errW_some] <;> rfl), by repeat (first | (with_reducible first | exact HB.out | apply below_alloc | apply pw_below_drewN | apply below_drew1) | exact HB.out)⟩
def logjamref38_Before.j0 : Nat → Bool → Option (Bool)
 | 0, _ => none
 | k + 1, x6 => some x6
def logjamref38_Before.f (k : Nat) (l0 : List (S29)) (a1 : Int) (a2 : Int) : Option (Bool) := if a1 = a2 then (logjamref38_Before.j0 k false) else ((logjamref38_Committed.f k l0 a1).bind fun t187 => (if t187 = true then ((logjamref38_Committed.f k l0 a2).bind fun t188 => (if t188 = true then ((logjamref38_Conflict.f k l0 a1 a2).bind fun t189 => (logjamref38_Before.j0 k t189)) else (logjamref38_Before.j0 k false))) else (logjamref38_Before.j0 k false)))
set_option maxHeartbeats 8000000 in
set_option maxRecDepth 100000 in
theorem logjamref38_Before.calls (k : Nat) (A0 : Option Addr) (c0 : Nat) (l0 : List (S29)) (a1 : Int) (a2 : Int) (r : Bool) (w : World) (hr0 : Kd.C k29 w A0 l0.length l0) (hc0 : l0.length ≤ c0) (h : logjamref38_Before.f k l0 a1 a2 = some r) :
  Calls Try.prog 13 #[.slice A0 l0.length c0, .int .i64 a1, .int .i64 a2] w fun e w' => e = .returned (.bool r) ∧ Below w.heap.size w w' := by
 have HR0 := Aside0.mk hr0
 have HC0 := Aside0.mk hc0
 clear hr0 hc0
 have HB := Aside0.mk (Below.refl w.heap.size w)
 have H : (if a1 = a2 then (logjamref38_Before.j0 k false) else ((logjamref38_Committed.f k l0 a1).bind fun t187 => (if t187 = true then ((logjamref38_Committed.f k l0 a2).bind fun t188 => (if t188 = true then ((logjamref38_Conflict.f k l0 a1 a2).bind fun t189 => (logjamref38_Before.j0 k t189)) else (logjamref38_Before.j0 k false))) else (logjamref38_Before.j0 k false)))) = some r := h
 clear h
 have HC4 := Aside0.mk H
 clear H
 go_enter Try.func13, Try.ntmps13
 go_upto_region 1 with (fail)
 go_cut [6] (fun v6 wc => ∃ (kq : Nat) (x6_3 : Bool), v6 = .bool x6_3 ∧ Aside0 (logjamref38_Before.j0 kq x6_3 = some r) ∧ Aside0 (kq ≤ k) ∧ Aside0 (Below w.heap.size w wc))
 case first =>
  have H := HC4.out
  clear HC4
  by_cases c5 : a1 = a2
  ·rw [if_pos c5] at H
   have c5b0 : (a1 == a2) = true := beq_iff_eq.mpr c5
   have c5b1 : (a1 != a2) = false := bne_eq_false_iff_eq.mpr c5
   clear c5
   (first | rw [c5b0] | (simp only [i64_w, i32_w]; rw [c5b0]) | skip)
   have H' := Aside0.mk H
   clear H
   go_wp2
   go_meet
   case rel => exact ⟨_, (false), (by first | rfl | (simp; done) | (simp only [emptyNe_, emptyEq_]; done) | (simp [*]; done)), H', ⟨by first | omega | exact Nat.le_refl _⟩, ⟨by repeat (first | (with_reducible first | exact HB.out | apply below_alloc | apply pw_below_drewN | apply below_drew1) | exact HB.out)⟩⟩
  ·rw [if_neg c5] at H
   have c5b0 : (a1 == a2) = false := beq_eq_false_iff_ne.mpr c5
   have c5b1 : (a1 != a2) = true := bne_iff_ne.mpr c5
   (first | rw [c5b0] | (simp only [i64_w, i32_w]; rw [c5b0]) | skip)
   replace H := Option.bind_eq_some_iff.mp H
   obtain ⟨t187, A60, H⟩ := H
   replace H : (if t187 = true then ((logjamref38_Committed.f k l0 a2).bind fun t188 => (if t188 = true then ((logjamref38_Conflict.f k l0 a1 a2).bind fun t189 => (logjamref38_Before.j0 k t189)) else (logjamref38_Before.j0 k false))) else (logjamref38_Before.j0 k false)) = some r := H
   have A6 := Aside0.mk A60
   clear A60
   by_cases c7 : t187 = true
   ·subst c7
    have H1 : ((logjamref38_Committed.f k l0 a2).bind fun t188 => (if t188 = true then ((logjamref38_Conflict.f k l0 a1 a2).bind fun t189 => (logjamref38_Before.j0 k t189)) else (logjamref38_Before.j0 k false))) = some r := by rw [if_pos rfl] at H; exact H
    clear H
    have H := H1
    clear H1
    replace H := Option.bind_eq_some_iff.mp H
    obtain ⟨t188, A80, H⟩ := H
    replace H : (if t188 = true then ((logjamref38_Conflict.f k l0 a1 a2).bind fun t189 => (logjamref38_Before.j0 k t189)) else (logjamref38_Before.j0 k false)) = some r := H
    have A8 := Aside0.mk A80
    clear A80
    by_cases c9 : t188 = true
    ·subst c9
     have H1 : ((logjamref38_Conflict.f k l0 a1 a2).bind fun t189 => (logjamref38_Before.j0 k t189)) = some r := by rw [if_pos rfl] at H; exact H
     clear H
     have H := H1
     clear H1
     replace H := Option.bind_eq_some_iff.mp H
     obtain ⟨t189, A100, H⟩ := H
     replace H : (logjamref38_Before.j0 k t189) = some r := H
     have A10 := Aside0.mk A100
     clear A100
     have H' := Aside0.mk H
     clear H
     go_wp2_with (first | (go_at_call 30; (with_reducible refine (logjamref38_Committed.calls k _ _ l0 a1 true _ ?side1 ?side2 A6.out).mono ?_); (case side1 => repeat (first | exact (Kd.C_below HR0.out HB.out) | (with_reducible refine Kd.C_alloc ?_ _) | (with_reducible refine Kd.C_drewN ?_ _) | (with_reducible refine Kd.C_drew ?_))); (case side2 => exact HC0.out); rintro e w11 ⟨rfl, hb⟩; have n0_ := Aside0.mk (below_step (by repeat (first | (with_reducible first | exact HB.out | apply below_alloc | apply pw_below_drewN | apply below_drew1) | exact HB.out)) hb); clear HB; have HB := n0_; clear n0_; (try clear hb); (try clear hb2); (try clear hk); (try clear hi)) | (go_at_call 30; (with_reducible refine (logjamref38_Committed.calls k _ _ l0 a2 true _ ?side1 ?side2 A8.out).mono ?_); (case side1 => repeat (first | exact (Kd.C_below HR0.out HB.out) | (with_reducible refine Kd.C_alloc ?_ _) | (with_reducible refine Kd.C_drewN ?_ _) | (with_reducible refine Kd.C_drew ?_))); (case side2 => exact HC0.out); rintro e w12 ⟨rfl, hb⟩; have n0_ := Aside0.mk (below_step (by repeat (first | (with_reducible first | exact HB.out | apply below_alloc | apply pw_below_drewN | apply below_drew1) | exact HB.out)) hb); clear HB; have HB := n0_; clear n0_; (try clear hb); (try clear hb2); (try clear hk); (try clear hi)) | (go_at_call 28; (with_reducible refine (logjamref38_Conflict.calls k _ _ l0 a1 a2 t189 _ ?side1 ?side2 A10.out).mono ?_); (case side1 => repeat (first | exact (Kd.C_below HR0.out HB.out) | (with_reducible refine Kd.C_alloc ?_ _) | (with_reducible refine Kd.C_drewN ?_ _) | (with_reducible refine Kd.C_drew ?_))); (case side2 => exact HC0.out); rintro e w13 ⟨rfl, hb⟩; have n0_ := Aside0.mk (below_step (by repeat (first | (with_reducible first | exact HB.out | apply below_alloc | apply pw_below_drewN | apply below_drew1) | exact HB.out)) hb); clear HB; have HB := n0_; clear n0_; (try clear hb); (try clear hb2); (try clear hk); (try clear hi)))
     go_meet
     case rel => exact ⟨_, (t189), (by first | rfl | (simp; done) | (simp only [emptyNe_, emptyEq_]; done) | (simp [*]; done)), H', ⟨by first | omega | exact Nat.le_refl _⟩, ⟨by repeat (first | (with_reducible first | exact HB.out | apply below_alloc | apply pw_below_drewN | apply below_drew1) | exact HB.out)⟩⟩
    ·replace c9 := Bool.eq_false_iff.mpr c9
     subst c9
     have H1 : (logjamref38_Before.j0 k false) = some r := by rw [if_neg (show ¬ (false = true) by decide)] at H; exact H
     clear H
     have H := H1
     clear H1
     have H' := Aside0.mk H
     clear H
     go_wp2_with (first | (go_at_call 30; (with_reducible refine (logjamref38_Committed.calls k _ _ l0 a1 true _ ?side1 ?side2 A6.out).mono ?_); (case side1 => repeat (first | exact (Kd.C_below HR0.out HB.out) | (with_reducible refine Kd.C_alloc ?_ _) | (with_reducible refine Kd.C_drewN ?_ _) | (with_reducible refine Kd.C_drew ?_))); (case side2 => exact HC0.out); rintro e w14 ⟨rfl, hb⟩; have n0_ := Aside0.mk (below_step (by repeat (first | (with_reducible first | exact HB.out | apply below_alloc | apply pw_below_drewN | apply below_drew1) | exact HB.out)) hb); clear HB; have HB := n0_; clear n0_; (try clear hb); (try clear hb2); (try clear hk); (try clear hi)) | (go_at_call 30; (with_reducible refine (logjamref38_Committed.calls k _ _ l0 a2 false _ ?side1 ?side2 A8.out).mono ?_); (case side1 => repeat (first | exact (Kd.C_below HR0.out HB.out) | (with_reducible refine Kd.C_alloc ?_ _) | (with_reducible refine Kd.C_drewN ?_ _) | (with_reducible refine Kd.C_drew ?_))); (case side2 => exact HC0.out); rintro e w15 ⟨rfl, hb⟩; have n0_ := Aside0.mk (below_step (by repeat (first | (with_reducible first | exact HB.out | apply below_alloc | apply pw_below_drewN | apply below_drew1) | exact HB.out)) hb); clear HB; have HB := n0_; clear n0_; (try clear hb); (try clear hb2); (try clear hk); (try clear hi)))
     go_meet
     case rel => exact ⟨_, (false), (by first | rfl | (simp; done) | (simp only [emptyNe_, emptyEq_]; done) | (simp [*]; done)), H', ⟨by first | omega | exact Nat.le_refl _⟩, ⟨by repeat (first | (with_reducible first | exact HB.out | apply below_alloc | apply pw_below_drewN | apply below_drew1) | exact HB.out)⟩⟩
   ·replace c7 := Bool.eq_false_iff.mpr c7
    subst c7
    have H1 : (logjamref38_Before.j0 k false) = some r := by rw [if_neg (show ¬ (false = true) by decide)] at H; exact H
    clear H
    have H := H1
    clear H1
    have H' := Aside0.mk H
    clear H
    go_wp2_with (first | (go_at_call 30; (with_reducible refine (logjamref38_Committed.calls k _ _ l0 a1 false _ ?side1 ?side2 A6.out).mono ?_); (case side1 => repeat (first | exact (Kd.C_below HR0.out HB.out) | (with_reducible refine Kd.C_alloc ?_ _) | (with_reducible refine Kd.C_drewN ?_ _) | (with_reducible refine Kd.C_drew ?_))); (case side2 => exact HC0.out); rintro e w16 ⟨rfl, hb⟩; have n0_ := Aside0.mk (below_step (by repeat (first | (with_reducible first | exact HB.out | apply below_alloc | apply pw_below_drewN | apply below_drew1) | exact HB.out)) hb); clear HB; have HB := n0_; clear n0_; (try clear hb); (try clear hb2); (try clear hk); (try clear hi)))
    go_meet
    case rel => exact ⟨_, (false), (by first | rfl | (simp; done) | (simp only [emptyNe_, emptyEq_]; done) | (simp [*]; done)), H', ⟨by first | omega | exact Nat.le_refl _⟩, ⟨by repeat (first | (with_reducible first | exact HB.out | apply below_alloc | apply pw_below_drewN | apply below_drew1) | exact HB.out)⟩⟩
 case rest =>
  clear HC4; try clear c1; try clear p2; try clear c5; try clear c5b0; try clear c5b1; try clear c7; try clear c9; try clear c13
  obtain ⟨kq, x6_3, rfl, HA, HJ3, HB⟩ := hcut
  cases kq with
  | zero => exact absurd HA.out (by simp [logjamref38_Before.j0])
  | succ kj3 =>
   have H := HA.out
   clear HA
   simp only [logjamref38_Before.j0] at H
   obtain rfl := Option.some.inj H
   go_wp2
   go_ret
   exact ⟨by first | rfl | (simp [errW_none, errW_some] <;> rfl) | (simp [*, errW_none, errW_some] <;> rfl), by repeat (first | (with_reducible first | exact HB.out | apply below_alloc | apply pw_below_drewN | apply below_drew1) | exact HB.out)⟩
end Go.Proofs.Ytadepdeckapgcaa.PHi
end

section
namespace Go.Proofs.Ytadepdeckapgcaa.Hi
open Go.RowKit Go.Proofs.YtadepdeckapgcaaW.PrintWords Go.Proofs.YtadepdeckapgcaaW.PrintLast Go.Proofs.YtadepdeckapgcaaW.PrintMore Go.Proofs.Ytadepdeckapgcaa.PHi Go.Proofs.Ytadepdeckapgcaa.Orc
set_option linter.unusedVariables false
set_option linter.unusedSimpArgs false
theorem Ev.const {α : Type} {g : Nat → Option α} {r : α} (h : ∀ k, g k = some r) : Ev g r := ⟨0, fun k _ => h k⟩
theorem Ev.step1 {α : Type} {g : Nat → Option α} {r : α} (h : ∀ k, g (k + 1) = some r) : Ev g r := Ev.step h (Ev.now r)
def MX : Nat := 9223372036854775807
theorem drop_cons' {α : Type} (d : α) (l : List α) (k : Nat) (h : k < l.length) : l.drop k = l.getD k d :: l.drop (k + 1) := by
  rw [List.drop_eq_getElem_cons h]; simp [h]
theorem wrap_succ (i : Nat) (n : Nat) (h : i < n) (hn : n ≤ MX) : wrap64 ((i : Int) + 1) = ((i + 1 : Nat) : Int) := by unfold wrap64; unfold MX at hn; omega
theorem getD_mem {l : List Int} {i : Nat} (h : i < l.length) : l.getD i 0 ∈ l := by rw [show l.getD i 0 = l[i] from by simp [h]]; exact List.getElem_mem _
theorem ev_few (l : List Mk) : Ev (fun k => logjamlaw38_few.f k l) (l.take 120) := by
  by_cases q : (l.length : Int) > 120
  · refine Ev.congr (f := fun k => logjamlaw38_few.j0 k (l.take 120)) (fun k => by simp only [logjamlaw38_few.f]; rw [if_pos q, if_pos (by omega)]) ?_
    exact Ev.step1 (fun k => by simp only [logjamlaw38_few.j0, Option.bind_some]; rw [if_pos (by simp; omega)]; rfl)
  · rw [List.take_of_length_le (by omega)]
    refine Ev.congr (f := fun k => logjamlaw38_few.j0 k l) (fun k => by simp only [logjamlaw38_few.f]; rw [if_neg q]) ?_
    exact Ev.step1 (fun k => by simp only [logjamlaw38_few.j0, Option.bind_some]; rw [if_pos (by simp; omega)]; rfl)
def ixG : List Mk → Nat → List Int → List Int
  | [], _, _ => []
  | m :: r, i, L => if isEnd m = true then (if m.f2 ∈ L then ixG r (i + 1) L else (i : Int) :: ixG r (i + 1) (m.f2 :: L)) else ixG r (i + 1) L
def mkAt (m : List Mk) (j : Int) : Mk := rd_T29 m j
theorem ends_l1 (m : List Mk) (x : List Int) (i : Nat) (hi : i < m.length) (hm : m.length ≤ MX) (hx : x.length ≤ MX) (hj : ∀ j ∈ x, 0 ≤ j ∧ j < m.length) (r : List Int)
    (h1 : x.any (fun j => (mkAt m j).f2 == (mkAt m i).f2) = true → Ev (fun k => logjamref38_Ends.l0 k m x ((i + 1 : Nat) : Int)) r)
    (h2 : x.any (fun j => (mkAt m j).f2 == (mkAt m i).f2) = false → Ev (fun k => if x.length < 17592186044416 then logjamref38_Ends.l0 k m (x ++ [(i : Int)]) ((i + 1 : Nat) : Int) else none) r) :
    ∀ (d s : Nat) (b : Bool), s + d = x.length → (b || (x.drop s).any (fun j => (mkAt m j).f2 == (mkAt m i).f2)) = x.any (fun j => (mkAt m j).f2 == (mkAt m i).f2) → Ev (fun k => logjamref38_Ends.l1 k m x (i : Int) b (s : Int)) r := by
  intro d
  have hwi := Lib.hid (wrap_succ i m.length hi hm)
  induction d with
  | zero =>
    intro s b hs hb
    rw [List.drop_of_length_le (by omega)] at hb
    simp only [List.any_nil, Bool.or_false] at hb
    cases b
    · exact Ev.step (f := fun k => if x.length < 17592186044416 then logjamref38_Ends.l0 k m (x ++ [(i : Int)]) ((i + 1 : Nat) : Int) else none) (fun k => by simp only [logjamref38_Ends.l1]; rw [if_neg (by omega), if_neg (by simp), hwi.out]) (h2 hb.symm)
    · exact Ev.step (f := fun k => logjamref38_Ends.l0 k m x ((i + 1 : Nat) : Int)) (fun k => by simp only [logjamref38_Ends.l1]; rw [if_neg (by omega), if_pos trivial, hwi.out]) (h1 hb.symm)
  | succ d ih =>
    intro s b hs hb
    have hw := Lib.hid (wrap_succ s x.length (by omega) hx)
    have hd := drop_cons' 0 x s (by omega)
    rw [hd, List.any_cons] at hb
    cases b
    · have hmem : x.getD s 0 ∈ x := getD_mem (by omega)
      obtain ⟨g0, g1⟩ := hj _ hmem
      have hr : rd x (s : Int) = x.getD s 0 := rfl
      refine Ev.step (f := fun k => logjamref38_Ends.l1 k m x (i : Int) ((mkAt m (x.getD s 0)).f2 == (mkAt m i).f2) ((s + 1 : Nat) : Int)) (fun k => by simp only [logjamref38_Ends.l1]; rw [if_pos (by omega), if_neg (by simp), if_pos (by omega), hr, if_pos g0, if_pos g1, if_pos (by omega), if_pos (by omega), hw.out]; rfl) ?_
      exact ih (s + 1) _ (by omega) (by rw [← hb]; simp)
    · refine Ev.step (f := fun k => logjamref38_Ends.l1 k m x (i : Int) true ((s + 1 : Nat) : Int)) (fun k => by simp only [logjamref38_Ends.l1]; rw [if_pos (by omega), if_pos trivial, hw.out]) ?_
      exact ih (s + 1) true (by omega) (by rw [← hb]; simp)
theorem ends_l0 (m : List Mk) (hm : m.length ≤ 1000000) : ∀ (d i : Nat) (x L : List Int), i + d = m.length → x.length ≤ i → (∀ j ∈ x, 0 ≤ j ∧ j < m.length) → (∀ q, q ∈ L ↔ ∃ j ∈ x, (mkAt m j).f2 = q) →
    Ev (fun k => logjamref38_Ends.l0 k m x (i : Int)) (x ++ ixG (m.drop i) i L) := by
  intro d
  induction d with
  | zero =>
    intro i x L hi hx hj hL
    rw [List.drop_of_length_le (by omega)]
    simp only [ixG, List.append_nil]
    exact Ev.step1 (fun k => by simp only [logjamref38_Ends.l0]; rw [if_neg (by omega)])
  | succ d ih =>
    intro i x L hi hx hj hL
    have hmx : m.length ≤ MX := by unfold MX; omega
    have hw := Lib.hid (wrap_succ i m.length (by omega) hmx)
    have he : rd_T29 m (i : Int) = m.getD i z29 := rfl
    have hat : mkAt m i = m.getD i z29 := rfl
    have ihs := ih (i + 1) x L (by omega) (by omega) hj hL
    rw [drop_cons' z29 m i (by omega)]
    have hany : x.any (fun j => (mkAt m j).f2 == (mkAt m i).f2) = decide ((m.getD i z29).f2 ∈ L) := by
      rw [Bool.eq_iff_iff, decide_eq_true_iff, hL, List.any_eq_true, hat]
      simp
    have inner : isEnd (m.getD i z29) = true → Ev (fun k => logjamref38_Ends.l1 k m x (i : Int) false ((0 : Nat) : Int)) (x ++ ixG (m.getD i z29 :: m.drop (i + 1)) i L) := by
      intro hE
      simp only [ixG]
      rw [if_pos hE]
      refine ends_l1 m x i (by omega) hmx (by unfold MX; omega) hj _ (fun h => ?_) (fun h => ?_) x.length 0 false (Nat.zero_add _) (by simp)
      · rw [hany] at h
        rw [if_pos (of_decide_eq_true h)]
        exact ihs
      · rw [hany] at h
        rw [if_neg (of_decide_eq_false h)]
        refine Ev.congr (f := fun k => logjamref38_Ends.l0 k m (x ++ [(i : Int)]) ((i + 1 : Nat) : Int)) (fun k => if_pos (by omega)) ?_
        have := ih (i + 1) (x ++ [(i : Int)]) ((m.getD i z29).f2 :: L) (by omega) (by simp; omega) (fun j hj2 => by
          rcases List.mem_append.1 hj2 with h | h
          · exact hj j h
          · simp at h; subst h; omega) (fun q => by
          rw [List.mem_cons, hL]
          constructor
          · rintro (rfl | ⟨j, h1, h2⟩)
            · exact ⟨i, by simp, by rw [hat]⟩
            · exact ⟨j, by simp [h1], h2⟩
          · rintro ⟨j, h1, h2⟩
            rcases List.mem_append.1 h1 with h | h
            · exact .inr ⟨j, h, h2⟩
            · simp at h; subst h; left; rw [← h2, hat])
        simpa using this
    by_cases q1 : (m.getD i z29).f2 < 1
    · have hE : isEnd (m.getD i z29) = false := by unfold isEnd; rw [decide_eq_false (by omega)]; rfl
      simp only [ixG]; rw [hE, if_neg (by simp)]
      exact Ev.step (f := fun k => logjamref38_Ends.l0 k m x ((i + 1 : Nat) : Int)) (fun k => by simp only [logjamref38_Ends.l0]; rw [if_pos (by omega), if_pos (by omega), he, if_pos q1, hw.out]) ihs
    · have hp : decide ((m.getD i z29).f2 > 0) = true := decide_eq_true (by omega)
      by_cases q2 : (m.getD i z29).f0 = 3
      · exact Ev.step (f := fun k => logjamref38_Ends.l1 k m x (i : Int) false ((0 : Nat) : Int)) (fun k => by simp only [logjamref38_Ends.l0]; rw [if_pos (by omega), if_pos (by omega), he, if_neg q1, if_pos q2]; rfl) (inner (by unfold isEnd; rw [hp, q2]; rfl))
      · by_cases q3 : (m.getD i z29).f0 = 4
        · exact Ev.step (f := fun k => logjamref38_Ends.l1 k m x (i : Int) false ((0 : Nat) : Int)) (fun k => by simp only [logjamref38_Ends.l0]; rw [if_pos (by omega), if_pos (by omega), he, if_neg q1, if_neg q2, if_pos q3]; rfl) (inner (by unfold isEnd; rw [hp, q3]; rfl))
        · have hE : isEnd (m.getD i z29) = false := by unfold isEnd; rw [beq_eq_false_iff_ne.2 q2, beq_eq_false_iff_ne.2 q3, Bool.or_false, Bool.and_false]
          simp only [ixG]; rw [hE, if_neg (by simp)]
          exact Ev.step (f := fun k => logjamref38_Ends.l0 k m x ((i + 1 : Nat) : Int)) (fun k => by simp only [logjamref38_Ends.l0]; rw [if_pos (by omega), if_pos (by omega), he, if_neg q1, if_neg q2, if_neg q3, hw.out]) ihs
theorem ev_rends (m : List Mk) (hm : m.length ≤ 1000000) : Ev (fun k => logjamref38_Ends.f k m) (ixG m 0 []) := by
  have := ends_l0 m hm m.length 0 [] [] (Nat.zero_add _) (by simp) (by simp) (by simp)
  simp only [List.nil_append, List.drop_zero] at this
  exact this
def enAt (m : List Mk) (j : Int) : En := ⟨(mkAt m j).f2, (mkAt m j).f1, (mkAt m j).f0, j⟩
theorem ends_ix (m : List Mk) : ∀ (d i : Nat) (L : List Int), i + d = m.length → endsG (m.drop i) i L = (ixG (m.drop i) i L).map (enAt m) := by
  intro d
  induction d with
  | zero => intro i L hi; rw [List.drop_of_length_le (by omega)]; rfl
  | succ d ih =>
    intro i L hi
    rw [drop_cons' z29 m i (by omega)]
    simp only [endsG, ixG]
    split
    · split
      · exact ih (i + 1) L (by omega)
      · rw [List.map_cons, ih (i + 1) _ (by omega)]; rfl
    · exact ih (i + 1) L (by omega)
theorem ends_eq (m : List Mk) : endsG m 0 [] = (ixG m 0 []).map (enAt m) := ends_ix m m.length 0 [] (Nat.zero_add _)
theorem ixG_in (m : List Mk) : ∀ (l : List Mk) (i : Nat) (L : List Int), i + l.length = m.length → ∀ j ∈ ixG l i L, 0 ≤ j ∧ j < m.length := by
  intro l
  induction l with
  | nil => intro i L hi j hj; cases hj
  | cons x r ih =>
    intro i L hi j hj
    simp only [List.length_cons] at hi
    unfold ixG at hj
    split at hj
    · split at hj
      · exact ih _ _ (by omega) j hj
      · rcases List.mem_cons.1 hj with rfl | h
        · omega
        · exact ih _ _ (by omega) j h
    · exact ih _ _ (by omega) j hj
theorem ixG_len (l : List Mk) : ∀ (i : Nat) (L : List Int), (ixG l i L).length ≤ l.length := by
  induction l with
  | nil => intro i L; exact Nat.le_refl _
  | cons x r ih =>
    intro i L
    have a := ih (i + 1) L; have b := ih (i + 1) (x.f2 :: L)
    unfold ixG
    split
    · split <;> simp only [List.length_cons] <;> omega
    · simp only [List.length_cons]; omega
theorem ends_nodup : ∀ (l : List Mk) (i : Nat) (L : List Int), ((endsG l i L).map (·.f0)).Nodup ∧ ∀ e ∈ endsG l i L, e.f0 ∉ L ∧ 0 < e.f0 := by
  intro l
  induction l with
  | nil => intro i L; exact ⟨List.nodup_nil, fun e he => by cases he⟩
  | cons x r ih =>
    intro i L
    unfold endsG
    split
    · rename_i hE
      split
      · exact ih _ _
      · rename_i hL
        obtain ⟨h1, h2⟩ := ih (i + 1) (x.f2 :: L)
        refine ⟨?_, fun e he => ?_⟩
        · rw [List.map_cons, List.nodup_cons]
          refine ⟨fun hm => ?_, h1⟩
          obtain ⟨e, he, hf⟩ := List.mem_map.1 hm
          exact (h2 e he).1 (by rw [hf]; exact List.mem_cons_self)
        · rcases List.mem_cons.1 he with rfl | he
          · exact ⟨hL, by unfold isEnd at hE; simp at hE; exact hE.1⟩
          · exact ⟨fun hm => (h2 e he).1 (List.mem_cons_of_mem _ hm), (h2 e he).2⟩
    · exact ih _ _
def comE (a : Int) : List En → Bool
  | [] => false
  | e :: r => if e.f0 = a then e.f2 == 3 else comE a r
theorem comsG_sub (a : Int) : ∀ l : List En, a ∈ comsG l → a ∈ l.map (·.f0)
  | [], h => by cases h
  | e :: r, h => by
    unfold comsG at h
    split at h
    · rcases List.mem_cons.1 h with rfl | h
      · simp
      · exact List.mem_cons_of_mem _ (comsG_sub a r h)
    · exact List.mem_cons_of_mem _ (comsG_sub a r h)
theorem comE_eq (a : Int) : ∀ l : List En, (l.map (·.f0)).Nodup → comE a l = decide (a ∈ comsG l)
  | [], _ => rfl
  | e :: r, h => by
    rw [List.map_cons, List.nodup_cons] at h
    have ih := comE_eq a r h.2
    unfold comE comsG
    by_cases q : e.f0 = a
    · rw [if_pos q]
      have hn : a ∉ comsG r := fun hm => h.1 (q ▸ comsG_sub a r hm)
      split
      · rename_i h3; rw [h3, q]; simp
      · rename_i h3; simp [h3, hn]
    · rw [if_neg q, ih]
      have hq : ¬ a = e.f0 := fun e => q e.symm
      split
      · simp [hq]
      · rfl
theorem committed_mem (m : List Mk) (a : Int) : a ∈ committedG m ↔ a ∈ comsG (endsG m 0 []) := by unfold committedG srt; exact List.mem_mergeSort
theorem com_l0 (m : List Mk) (a : Int) (x : List Int) (hx : x.length ≤ MX) (hj : ∀ j ∈ x, 0 ≤ j ∧ j < m.length) : ∀ (d i : Nat), i + d = x.length → Ev (fun k => logjamref38_Committed.l0 k m a x (i : Int)) (comE a ((x.drop i).map (enAt m))) := by
  intro d
  induction d with
  | zero =>
    intro i hi
    rw [List.drop_of_length_le (by omega)]
    exact Ev.step1 (fun k => by simp only [logjamref38_Committed.l0]; rw [if_neg (by omega)]; rfl)
  | succ d ih =>
    intro i hi
    have hw := Lib.hid (wrap_succ i x.length (by omega) hx)
    have hmem : x.getD i 0 ∈ x := getD_mem (by omega)
    obtain ⟨g0, g1⟩ := hj _ hmem
    have hr : rd x (i : Int) = x.getD i 0 := rfl
    rw [drop_cons' 0 x i (by omega), List.map_cons]
    simp only [comE]
    by_cases q : (enAt m (x.getD i 0)).f0 = a
    · rw [if_pos q]
      have q' : (rd_T29 m (x.getD i 0)).f2 = a := q
      exact Ev.step1 (fun k => by simp only [logjamref38_Committed.l0]; rw [if_pos (by omega), if_pos (by omega), hr, if_pos g0, if_pos g1, if_pos q']; rfl)
    · rw [if_neg q]
      have q' : ¬ (rd_T29 m (x.getD i 0)).f2 = a := q
      exact Ev.step (f := fun k => logjamref38_Committed.l0 k m a x ((i + 1 : Nat) : Int)) (fun k => by simp only [logjamref38_Committed.l0]; rw [if_pos (by omega), if_pos (by omega), hr, if_pos g0, if_pos g1, if_neg q', hw.out]) (ih (i + 1) (by omega))
theorem ev_rcom (m : List Mk) (hm : m.length ≤ 1000000) (a : Int) : Ev (fun k => logjamref38_Committed.f k m a) (decide (a ∈ committedG m)) := by
  have hc : comE a ((ixG m 0 []).map (enAt m)) = decide (a ∈ committedG m) := by
    rw [← ends_eq, comE_eq a _ (ends_nodup m 0 []).1]
    rw [Bool.eq_iff_iff, decide_eq_true_iff, decide_eq_true_iff, committed_mem]
  rw [← hc]
  refine Ev.congr (f := fun k => (logjamref38_Ends.f k m).bind fun t180 => (logjamref38_Committed.l0 k m a t180 0)) (fun k => rfl) ?_
  refine Ev.bind (ev_rends m hm) ?_
  exact com_l0 m a (ixG m 0 []) (by have := ixG_len m 0 []; unfold MX; omega) (ixG_in m m 0 [] (Nat.zero_add _)) _ 0 (Nat.zero_add _)
theorem idx_l0 (l : List Int) (a : Int) (hl : l.length ≤ MX) : ∀ (d i : Nat), i + d = l.length → ∃ r, Ev (fun k => slices_Index_int_int.l0 k l a (l.length : Int) (i : Int)) r ∧ (r ≥ 0 ↔ a ∈ l.drop i) := by
  intro d
  induction d with
  | zero =>
    intro i hi
    rw [List.drop_of_length_le (by omega)]
    exact ⟨-1, Ev.step1 (fun k => by simp only [slices_Index_int_int.l0]; rw [if_neg (by omega)]), by simp⟩
  | succ d ih =>
    intro i hi
    have hw := Lib.hid (wrap_succ i l.length (by omega) hl)
    have hr : rd l (i : Int) = l.getD i 0 := rfl
    rw [drop_cons' 0 l i (by omega)]
    by_cases q : a = l.getD i 0
    · exact ⟨i, Ev.step1 (fun k => by simp only [slices_Index_int_int.l0]; rw [if_pos (by omega), if_pos (by omega), if_pos (by omega), hr, if_pos q]), by rw [q]; simp⟩
    · obtain ⟨r, h1, h2⟩ := ih (i + 1) (by omega)
      exact ⟨r, Ev.step (f := fun k => slices_Index_int_int.l0 k l a (l.length : Int) ((i + 1 : Nat) : Int)) (fun k => by simp only [slices_Index_int_int.l0]; rw [if_pos (by omega), if_pos (by omega), if_pos (by omega), hr, if_neg q, hw.out]) h1, by rw [h2, List.mem_cons]; exact ⟨.inr, fun e => e.elim (fun e => absurd e q) id⟩⟩
theorem ev_contains (l : List Int) (a : Int) (hl : l.length ≤ MX) : Ev (fun k => slices_Contains_int_int.f k l a) (decide (a ∈ l)) := by
  obtain ⟨r, h1, h2⟩ := idx_l0 l a hl l.length 0 (Nat.zero_add _)
  refine Ev.congr (f := fun k => (slices_Index_int_int.l0 k l a (l.length : Int) ((0 : Nat) : Int)).bind fun t173 => some (decide (t173 ≥ 0))) (fun k => rfl) ?_
  refine Ev.bind h1 ?_
  rw [show decide (a ∈ l) = decide (r ≥ 0) from by rw [Bool.eq_iff_iff, decide_eq_true_iff, decide_eq_true_iff, h2]; simp]
  exact Ev.now _
theorem any_or {α : Type} (p q : α → Bool) : ∀ l : List α, l.any (fun y => p y || q y) = (l.any p || l.any q)
  | [] => rfl
  | x :: r => by rw [List.any_cons, List.any_cons, List.any_cons, any_or p q r]; cases p x <;> cases q x <;> cases r.any p <;> cases r.any q <;> rfl
def rhitW (b : Int) (R W : List Int) (y : Mk) : Bool := y.f2 == b && acc y && (decide (y.f3 ∈ W) || (y.f0 == 2 && decide (y.f3 ∈ R)))
theorem conf_gen (a b : Int) : ∀ (l : List Mk) (R W : List Int), confS a b l R W = (rconf a b l || l.any (rhitW b R W))
  | [], R, W => rfl
  | x :: r, R, W => by
    rw [rconf_cons, List.any_cons]
    unfold confS
    by_cases ha : acc x = true
    · rw [if_pos ha]
      by_cases hx : x.f2 = b ∧ (x.f3 ∈ W ∨ (x.f0 = 2 ∧ x.f3 ∈ R))
      · rw [if_pos hx]
        have : rhitW b R W x = true := by unfold rhitW; rw [ha]; simp only [Bool.and_true, Bool.and_eq_true, Bool.or_eq_true, beq_iff_eq, decide_eq_true_iff]; exact hx
        rw [this]; simp
      · rw [if_neg hx]
        have h0 : rhitW b R W x = false := by
          rw [Bool.eq_false_iff]; intro h; apply hx
          unfold rhitW at h; simp only [Bool.and_eq_true, Bool.or_eq_true, beq_iff_eq, decide_eq_true_iff] at h
          exact ⟨h.1.1, h.2⟩
        rw [h0, conf_gen a b r]
        by_cases hg : x.f2 = a
        · have hgo : rgo a x = true := by unfold rgo; rw [ha, hg]; simp
          rw [hgo, Bool.true_and, if_pos hg]
          have hp : ∀ y, rhitW b (x.f3 :: R) (if x.f2 = a ∧ x.f0 = 2 then x.f3 :: W else W) y = (rhit b x y || rhitW b R W y) := by
            intro y
            unfold rhitW rhit
            rw [Bool.eq_iff_iff]
            by_cases h2 : x.f0 = 2
            · rw [if_pos ⟨hg, h2⟩, h2]
              simp only [Bool.and_eq_true, Bool.or_eq_true, beq_iff_eq, decide_eq_true_iff, List.mem_cons]
              by_cases h3 : y.f3 = x.f3
              · simp only [h3, true_or, or_true, and_true, true_and]
                exact ⟨fun q => .inl q, fun q => q.elim id (fun q => q.1)⟩
              · simp only [h3, false_or, false_and, and_false]
            · rw [if_neg (fun q => h2 q.2)]
              simp only [Bool.and_eq_true, Bool.or_eq_true, beq_iff_eq, decide_eq_true_iff, List.mem_cons]
              by_cases h3 : y.f3 = x.f3
              case neg => simp only [h3, false_or, false_and, and_false]
              simp only [h3, h2, true_or, or_true, and_true, true_and, false_or]
              constructor
              · rintro ⟨⟨h4, h5⟩, h6 | h6⟩
                · exact .inr ⟨⟨h4, h5⟩, .inl h6⟩
                · exact .inl ⟨⟨h4, h5⟩, h6⟩
              · rintro (⟨⟨h4, h5⟩, h6⟩ | ⟨⟨h4, h5⟩, h6 | h6⟩)
                · exact ⟨⟨h4, h5⟩, .inr h6⟩
                · exact ⟨⟨h4, h5⟩, .inl h6⟩
                · exact ⟨⟨h4, h5⟩, .inr h6.1⟩
          rw [show r.any (rhitW b (x.f3 :: R) (if x.f2 = a ∧ x.f0 = 2 then x.f3 :: W else W)) = r.any (fun y => rhit b x y || rhitW b R W y) from by congr 1; funext y; exact hp y, any_or]
          cases rconf a b r <;> cases r.any (rhit b x) <;> cases r.any (rhitW b R W) <;> rfl
        · have hgo : rgo a x = false := by unfold rgo; rw [beq_eq_false_iff_ne.2 hg]; rfl
          rw [hgo, if_neg hg, if_neg (fun q => hg q.1)]
          simp
    · rw [if_neg ha, conf_gen a b r]
      have ha' : acc x = false := by simpa using ha
      have h1 : rgo a x = false := by unfold rgo; rw [ha']; simp
      have h0 : rhitW b R W x = false := by unfold rhitW; rw [ha']; simp
      rw [h1, h0]; simp
theorem conf_eq (a b : Int) (m : List Mk) : confS a b m [] [] = rconf a b m := by
  rw [conf_gen]
  have : m.any (rhitW b [] []) = false := by rw [List.any_eq_false]; intro y _; unfold rhitW; simp
  rw [this, Bool.or_false]
theorem access_f (m : Mk) : logjamref38_access.f m.f0 m.f1 m.f2 m.f3 m.f4 = some (acc m) := by
  unfold logjamref38_access.f acc
  split
  · rename_i h; rw [h]; rfl
  · rename_i h; rw [beq_eq_false_iff_ne.2 h, Bool.false_or]
theorem conf_l0 (m : List Mk) (a b : Int) (hm : m.length ≤ MX) : ∀ (d i : Nat), i + d = m.length → Ev (fun k => logjamref38_Conflict.l0 k m a b (i : Int)) (rconf a b (m.drop i)) := by
  intro d
  induction d with
  | zero =>
    intro i hi
    rw [List.drop_of_length_le (by omega)]
    exact Ev.step1 (fun k => by simp only [logjamref38_Conflict.l0]; rw [if_neg (by omega)]; rfl)
  | succ d ih =>
    intro i hi
    have hw := Lib.hid (wrap_succ i m.length (by omega) hm)
    have hrest := ih (i + 1) (by omega)
    rw [drop_cons' z29 m i (by omega), rconf_cons]
    have he : rd_T29 m (i : Int) = m.getD i z29 := rfl
    generalize m.getD i z29 = x at he ⊢
    have hj2f : ∀ j : Int, Ev (fun k => logjamref38_Conflict.j2 k m a b (i : Int) j false) (rconf a b (m.drop (i + 1))) := fun j =>
      Ev.step (f := fun k => logjamref38_Conflict.l0 k m a b ((i + 1 : Nat) : Int)) (fun k => by simp only [logjamref38_Conflict.j2]; rw [if_neg (by simp), hw.out]) hrest
    have inner : ∀ (e j : Nat), j + e = m.length → Ev (fun k => logjamref38_Conflict.l1 k m a b (i : Int) (j : Int)) ((rgo a x && (m.drop j).any (rhit b x)) || rconf a b (m.drop (i + 1))) := by
      intro e
      induction e with
      | zero =>
        intro j hj
        rw [List.drop_of_length_le (i := j) (by omega)]
        simp only [List.any_nil, Bool.and_false, Bool.false_or]
        exact Ev.step (f := fun k => logjamref38_Conflict.j2 k m a b (i : Int) (j : Int) false) (fun k => by simp only [logjamref38_Conflict.l1]; rw [if_neg (by omega)]) (hj2f _)
      | succ e ih2 =>
        intro j hj
        have hwj := Lib.hid (wrap_succ j m.length (by omega) hm)
        have hy : rd_T29 m (j : Int) = m.getD j z29 := rfl
        have hin := ih2 (j + 1) (by omega)
        rw [drop_cons' z29 m j (by omega), List.any_cons]
        generalize m.getD j z29 = y at hy ⊢
        by_cases hg : x.f2 = a
        · have hst : Ev (fun k => logjamref38_Conflict.j2 k m a b (i : Int) (j : Int) (acc x)) ((rgo a x && (rhit b x y || (m.drop (j + 1)).any (rhit b x))) || rconf a b (m.drop (i + 1))) := by
            cases hax : acc x
            · have : rgo a x = false := by unfold rgo; rw [hax]; simp
              rw [this]; simp only [Bool.false_and, Bool.false_or]
              exact hj2f _
            · have hgo : rgo a x = true := by unfold rgo; rw [hax, hg]; simp
              rw [hgo] at hin ⊢
              simp only [Bool.true_and] at hin ⊢
              have j3f : rhit b x y = false → Ev (fun k => logjamref38_Conflict.j3 k m a b (i : Int) (j : Int) false) (rhit b x y || (m.drop (j + 1)).any (rhit b x) || rconf a b (m.drop (i + 1))) := fun h => by
                rw [h, Bool.false_or]
                exact Ev.step (f := fun k => logjamref38_Conflict.l1 k m a b (i : Int) ((j + 1 : Nat) : Int)) (fun k => by simp only [logjamref38_Conflict.j3]; rw [if_neg (by simp), hwj.out]) hin
              have j3t : rhit b x y = true → Ev (fun k => logjamref38_Conflict.j3 k m a b (i : Int) (j : Int) true) (rhit b x y || (m.drop (j + 1)).any (rhit b x) || rconf a b (m.drop (i + 1))) := fun h => by
                rw [h, Bool.true_or, Bool.true_or]
                exact Ev.step1 (fun k => by simp only [logjamref38_Conflict.j3]; rw [if_pos trivial])
              by_cases h1 : y.f2 = b
              · cases hay : acc y
                · exact Ev.step (f := fun k => logjamref38_Conflict.j3 k m a b (i : Int) (j : Int) false) (fun k => by simp only [logjamref38_Conflict.j2]; rw [if_pos trivial, if_pos (by omega), if_pos (by omega), hy, if_pos h1, access_f, hay]; simp only [Option.bind_some]; rw [if_neg (by simp)]) (j3f (by unfold rhit; rw [hay]; simp))
                · by_cases h3 : y.f3 = x.f3
                  · by_cases h2 : x.f0 = 2
                    · exact Ev.step (f := fun k => logjamref38_Conflict.j3 k m a b (i : Int) (j : Int) true) (fun k => by simp only [logjamref38_Conflict.j2]; rw [if_pos trivial, if_pos (by omega), if_pos (by omega), hy, if_pos h1, access_f, hay]; simp only [Option.bind_some]; rw [if_pos trivial, if_pos (by omega), if_pos (by omega), he, if_pos h3, if_pos h2]) (j3t (by unfold rhit; rw [hay, h1, h3, h2]; simp))
                    · have hb : rhit b x y = (y.f0 == 2) := by unfold rhit; rw [hay, h1, h3, beq_eq_false_iff_ne.2 h2]; simp
                      have : Ev (fun k => logjamref38_Conflict.j3 k m a b (i : Int) (j : Int) (y.f0 == 2)) (rhit b x y || (m.drop (j + 1)).any (rhit b x) || rconf a b (m.drop (i + 1))) := by
                        cases hq : y.f0 == 2
                        · exact j3f (by rw [hb, hq])
                        · exact j3t (by rw [hb, hq])
                      exact Ev.step (f := fun k => logjamref38_Conflict.j3 k m a b (i : Int) (j : Int) (y.f0 == 2)) (fun k => by simp only [logjamref38_Conflict.j2]; rw [if_pos trivial, if_pos (by omega), if_pos (by omega), hy, if_pos h1, access_f, hay]; simp only [Option.bind_some]; rw [if_pos trivial, if_pos (by omega), if_pos (by omega), he, if_pos h3, if_neg h2]) this
                  · exact Ev.step (f := fun k => logjamref38_Conflict.j3 k m a b (i : Int) (j : Int) false) (fun k => by simp only [logjamref38_Conflict.j2]; rw [if_pos trivial, if_pos (by omega), if_pos (by omega), hy, if_pos h1, access_f, hay]; simp only [Option.bind_some]; rw [if_pos trivial, if_pos (by omega), if_pos (by omega), he, if_neg h3]) (j3f (by unfold rhit; rw [beq_eq_false_iff_ne.2 h3]; simp))
              · exact Ev.step (f := fun k => logjamref38_Conflict.j3 k m a b (i : Int) (j : Int) false) (fun k => by simp only [logjamref38_Conflict.j2]; rw [if_pos trivial, if_pos (by omega), if_pos (by omega), hy, if_neg h1]) (j3f (by unfold rhit; rw [beq_eq_false_iff_ne.2 h1]; simp))
          exact Ev.step (f := fun k => logjamref38_Conflict.j2 k m a b (i : Int) (j : Int) (acc x)) (fun k => by simp only [logjamref38_Conflict.l1]; rw [if_pos (by omega), if_pos (by omega), if_pos (by omega), he, if_pos hg, access_f]; rfl) hst
        · have hgo : rgo a x = false := by unfold rgo; rw [beq_eq_false_iff_ne.2 hg]; rfl
          rw [hgo]; simp only [Bool.false_and, Bool.false_or]
          exact Ev.step (f := fun k => logjamref38_Conflict.j2 k m a b (i : Int) (j : Int) false) (fun k => by simp only [logjamref38_Conflict.l1]; rw [if_pos (by omega), if_pos (by omega), if_pos (by omega), he, if_neg hg]) (hj2f _)
    exact Ev.step (f := fun k => logjamref38_Conflict.l1 k m a b (i : Int) ((i + 1 : Nat) : Int)) (fun k => by simp only [logjamref38_Conflict.l0]; rw [if_pos (by omega), hw.out]) (inner d (i + 1) (by omega))
theorem ev_rconf (m : List Mk) (a b : Int) (hm : m.length ≤ 1000000) : Ev (fun k => logjamref38_Conflict.f k m a b) (rconf a b m) := by
  have := conf_l0 m a b (by unfold MX; omega) m.length 0 (Nat.zero_add _)
  exact this
def befG (m : List Mk) (a b : Int) : Bool := decide (a ≠ b) && (decide (a ∈ committedG m) && (decide (b ∈ committedG m) && rconf a b m))
theorem ev_rbefore (m : List Mk) (a b : Int) (hm : m.length ≤ 1000000) : Ev (fun k => logjamref38_Before.f k m a b) (befG m a b) := by
  have j0 : ∀ r, Ev (fun k => logjamref38_Before.j0 k r) r := fun r => Ev.step1 (fun k => rfl)
  unfold befG
  by_cases q : a = b
  · rw [decide_eq_false (fun h => h q), Bool.false_and]
    exact Ev.congr (f := fun k => logjamref38_Before.j0 k false) (fun k => by simp only [logjamref38_Before.f]; rw [if_pos q]) (j0 _)
  · rw [decide_eq_true (show a ≠ b from q), Bool.true_and]
    refine Ev.congr (f := fun k => (logjamref38_Committed.f k m a).bind fun t187 => (if t187 = true then ((logjamref38_Committed.f k m b).bind fun t188 => (if t188 = true then ((logjamref38_Conflict.f k m a b).bind fun t189 => (logjamref38_Before.j0 k t189)) else (logjamref38_Before.j0 k false))) else (logjamref38_Before.j0 k false))) (fun k => by simp only [logjamref38_Before.f]; rw [if_neg q]) ?_
    refine Ev.bind (ev_rcom m hm a) ?_
    cases decide (a ∈ committedG m)
    · exact Ev.congr (f := fun k => logjamref38_Before.j0 k false) (fun k => if_neg (by simp)) (j0 _)
    · refine Ev.congr (f := fun k => (logjamref38_Committed.f k m b).bind fun t188 => (if t188 = true then ((logjamref38_Conflict.f k m a b).bind fun t189 => (logjamref38_Before.j0 k t189)) else (logjamref38_Before.j0 k false))) (fun k => if_pos rfl) ?_
      refine Ev.bind (ev_rcom m hm b) ?_
      cases decide (b ∈ committedG m)
      · exact Ev.congr (f := fun k => logjamref38_Before.j0 k false) (fun k => if_neg (by simp)) (j0 _)
      · exact Ev.congr (f := fun k => (logjamref38_Conflict.f k m a b).bind fun t189 => (logjamref38_Before.j0 k t189)) (fun k => if_pos rfl) (Ev.bind (ev_rconf m a b hm) (j0 _))
theorem ev_before (m : List Mk) (a b : Int) (hok : okM m = true) : Ev (fun k => history_Before.f k m a b) (befG m a b) := by
  have hm := (okM_in hok).1
  have hc : (committedG m).length ≤ MX := by
    unfold committedG srt; rw [List.length_mergeSort]
    have := Nat.le_trans (comsG_len (endsG m 0 [])) (endsG_len m 0 [])
    unfold MX; omega
  have j0 : ∀ r, Ev (fun k => history_Before.j0 k r) r := fun r => Ev.step1 (fun k => rfl)
  have e1 : o_committed.f m = some (committedG m) := if_pos hok
  have e2 : o_conflict.f m a b = some (rconf a b m) := by rw [← conf_eq]; exact if_pos hok
  unfold befG
  by_cases q : a = b
  · rw [decide_eq_false (fun h => h q), Bool.false_and]
    exact Ev.congr (f := fun k => history_Before.j0 k false) (fun k => by simp only [history_Before.f, e1, Option.bind_some]; rw [if_pos q]) (j0 _)
  · rw [decide_eq_true (show a ≠ b from q), Bool.true_and]
    refine Ev.congr (f := fun k => (slices_Contains_int_int.f k (committedG m) a).bind fun t177 => (if t177 = true then ((slices_Contains_int_int.f k (committedG m) b).bind fun t178 => (if t178 = true then (history_Before.j0 k (rconf a b m)) else (history_Before.j0 k false))) else (history_Before.j0 k false))) (fun k => by simp only [history_Before.f, e1, e2, Option.bind_some]; rw [if_neg q]) ?_
    refine Ev.bind (ev_contains _ a hc) ?_
    cases decide (a ∈ committedG m)
    · exact Ev.congr (f := fun k => history_Before.j0 k false) (fun k => if_neg (by simp)) (j0 _)
    · refine Ev.congr (f := fun k => (slices_Contains_int_int.f k (committedG m) b).bind fun t178 => (if t178 = true then (history_Before.j0 k (rconf a b m)) else (history_Before.j0 k false))) (fun k => if_pos rfl) ?_
      refine Ev.bind (ev_contains _ b hc) ?_
      cases decide (b ∈ committedG m)
      · exact Ev.congr (f := fun k => history_Before.j0 k false) (fun k => if_neg (by simp)) (j0 _)
      · exact Ev.congr (f := fun k => history_Before.j0 k (rconf a b m)) (fun k => if_pos rfl) (j0 _)
end Go.Proofs.Ytadepdeckapgcaa.Hi
end

section
namespace Go.Proofs.Ytadepdeckapgcaa.PHi
open Go.RowKit Go.Proofs.Ytadepdeckapgcaa.Orc Go.Proofs.YtadepdeckapgcaaW.PrintWords Go.Proofs.YtadepdeckapgcaaW.PrintLast Go.Proofs.YtadepdeckapgcaaW.PrintMore
attribute [local go_sem] max2_int min2_int max_two min_two max_three min_three max_four min_four
set_option linter.unusedVariables false
set_option linter.unusedSimpArgs false
mutual
def logjamref38_Serial.l0 : Nat → List (S29) → List Int → List Int → List Int → Int → Option (List Int × Bool)
 | 0, _, _, _, _, _ => none
 | k + 1, x0, x4, x5, x6, x7 => if x7 < (x6.length : Int) then (if 0 ≤ x7 then (if 0 ≤ (rd x6 x7) then (if (rd x6 x7) < (x0.length : Int) then (if ((rd_T29 x0 (rd x6 x7)).f0) = 3 then (if x4.length < 17592186044416 then (logjamref38_Serial.l0 k x0 (x4 ++ [(rd_T29 x0 (rd x6 x7)).f2]) x5 x6 (wrap64 (x7 + 1))) else (none)) else (logjamref38_Serial.l0 k x0 x4 x5 x6 (wrap64 (x7 + 1)))) else (none)) else (none)) else (none)) else (logjamref38_Serial.l1 k x0 x4 x5)
def logjamref38_Serial.l1 : Nat → List (S29) → List Int → List Int → Option (List Int × Bool)
 | 0, _, _, _ => none
 | k + 1, x0, x4, x5 => if (x4.length : Int) > 0 then (logjamref38_Serial.l2 k x0 x4 x5 0 (([] : List Int)) 0) else (some (x5, true))
def logjamref38_Serial.l2 : Nat → List (S29) → List Int → List Int → Int → List Int → Int → Option (List Int × Bool)
 | 0, _, _, _, _, _, _ => none
 | k + 1, x0, x4, x5, x8, x9, x10 => if x10 < (x4.length : Int) then (logjamref38_Serial.l3 k x0 x4 x5 x8 x9 x10 true 0) else (if x8 = 0 then (some (x5, false)) else (logjamref38_Serial.l4 k x0 x4 x5 x8 x9 0))
def logjamref38_Serial.l3 : Nat → List (S29) → List Int → List Int → Int → List Int → Int → Bool → Int → Option (List Int × Bool)
 | 0, _, _, _, _, _, _, _, _ => none
 | k + 1, x0, x4, x5, x8, x9, x10, x11, x12 => if x12 < (x4.length : Int) then (if x11 = true then (if x12 = x10 then (logjamref38_Serial.l3 k x0 x4 x5 x8 x9 x10 true (wrap64 (x12 + 1))) else (if 0 ≤ x12 then (if 0 ≤ x10 then (if x10 < (x4.length : Int) then ((logjamref38_Conflict.f k x0 (rd x4 x12) (rd x4 x10)).bind fun t158 => (logjamref38_Serial.l3 k x0 x4 x5 x8 x9 x10 (!t158) (wrap64 (x12 + 1)))) else (none)) else (none)) else (none))) else (logjamref38_Serial.l3 k x0 x4 x5 x8 x9 x10 false (wrap64 (x12 + 1)))) else (if x11 = true then (if x8 = 0 then (if 0 ≤ x10 then (if x10 < (x4.length : Int) then (logjamref38_Serial.l2 k x0 x4 x5 (rd x4 x10) x9 (wrap64 (x10 + 1))) else (none)) else (none)) else (if 0 ≤ x10 then (if x10 < (x4.length : Int) then (if (rd x4 x10) < x8 then (logjamref38_Serial.l2 k x0 x4 x5 (rd x4 x10) x9 (wrap64 (x10 + 1))) else (logjamref38_Serial.l2 k x0 x4 x5 x8 x9 (wrap64 (x10 + 1)))) else (none)) else (none))) else (logjamref38_Serial.l2 k x0 x4 x5 x8 x9 (wrap64 (x10 + 1))))
def logjamref38_Serial.l4 : Nat → List (S29) → List Int → List Int → Int → List Int → Int → Option (List Int × Bool)
 | 0, _, _, _, _, _, _ => none
 | k + 1, x0, x4, x5, x8, x9, x13 => if x13 < (x4.length : Int) then (if 0 ≤ x13 then (if (rd x4 x13) = x8 then (logjamref38_Serial.l4 k x0 x4 x5 x8 x9 (wrap64 (x13 + 1))) else (if x9.length < 17592186044416 then (logjamref38_Serial.l4 k x0 x4 x5 x8 (x9 ++ [rd x4 x13]) (wrap64 (x13 + 1))) else (none))) else (none)) else (if x5.length < 17592186044416 then (logjamref38_Serial.l1 k x0 x9 (x5 ++ [x8])) else (none))
end
def logjamref38_Serial.f (k : Nat) (l0 : List (S29)) : Option (List Int × Bool) := (logjamref38_Ends.f k l0).bind fun t143 => (logjamref38_Serial.l0 k l0 (([] : List Int)) (([] : List Int)) t143 0)
def logjamref38_Serial.T17 : Bool × List (List Nat × List Nat) := (true, [([], []), ([0], [0]), ([1], [1]), ([1], [1]), ([2, 3, 1], [1, 2, 3]), ([4, 1, 1], [1, 4]), ([5], [5]), ([5], [5]), ([5], [5]), ([7, 8, 5], [5, 7, 8]), ([9, 5], [5, 9]), ([5], [5]), ([5], [5]), ([11, 12, 5], [5, 11, 12]), ([13, 5], [5, 13]), ([6, 10, 14, 5, 5], [5, 6, 10, 14]), ([15, 5], [5, 15]), ([5, 16, 1], [1, 5, 16]), ([1, 17], [1, 17]), ([18, 15, 0, 1, 2, 3, 4, 5, 6, 7, 8, 9, 10, 11, 12, 13, 14, 15, 16, 17, 18], [0, 18])])
def logjamref38_Serial.B17 : List Nat := [0, 1, 3, 3, 15, 31, 63, 63, 63, 447, 959, 63, 63, 6207, 14399, 32767, 65535, 131071, 262143, 524287]
theorem logjamref38_Serial.tab17 : rtab .any (opsOf Try.f10 17) = logjamref38_Serial.T17 := by kernel_rfl
theorem logjamref38_Serial.bits17 : waitsOk logjamref38_Serial.T17.2 logjamref38_Serial.B17 = true := by kernel_rfl
set_option maxHeartbeats 8000000 in
set_option maxRecDepth 100000 in
theorem logjamref38_Serial.calls (k : Nat) (A0 : Option Addr) (c0 : Nat) (l0 : List (S29)) (r1 : List Int) (r2 : Bool) (w : World) (hr0 : Kd.C k29 w A0 l0.length l0) (hc0 : l0.length ≤ c0) (h : logjamref38_Serial.f k l0 = some (r1, r2)) :
  Calls Try.prog 10 #[.slice A0 l0.length c0] w fun e w' => ∃ v0_ : Value, e = .returned (.tuple #[v0_, .bool r2]) ∧ Kd.R (Kd.int .i64) 3 w' w.heap.size (fun _ => True) v0_ r1 ∧ Below w.heap.size w w' := by
 have HR0 := Aside0.mk hr0
 have HC0 := Aside0.mk hc0
 clear hr0 hc0
 have HB := Aside0.mk (Below.refl w.heap.size w)
 have H : ((logjamref38_Ends.f k l0).bind fun t143 => (logjamref38_Serial.l0 k l0 (([] : List Int)) (([] : List Int)) t143 0)) = some (r1, r2) := h
 clear h
 obtain ⟨y137, hy137⟩ : ∃ y_ : List Int, y_ = (([] : List Int)) := ⟨_, rfl⟩
 replace H : ((logjamref38_Ends.f k l0).bind fun t143 => (logjamref38_Serial.l0 k l0 y137 (([] : List Int)) t143 0)) = some (r1, r2) := by first | (rw [hy137]; with_reducible exact H) | (have H2_ := (Option.bind_some _ _).symm.trans H; rw [hy137]; with_reducible exact H2_) | (have H2_ := (Option.bind_some _ _).symm.trans H; with_reducible exact H2_) | with_reducible exact H | (rw [hy137]; exact H) | exact H
 have Ny137 := Aside0.mk hy137
 clear hy137
 obtain ⟨y140, hy140⟩ : ∃ y_ : List Int, y_ = (([] : List Int)) := ⟨_, rfl⟩
 replace H : ((logjamref38_Ends.f k l0).bind fun t143 => (logjamref38_Serial.l0 k l0 y137 y140 t143 0)) = some (r1, r2) := by first | (rw [hy140]; with_reducible exact H) | (have H2_ := (Option.bind_some _ _).symm.trans H; rw [hy140]; with_reducible exact H2_) | (have H2_ := (Option.bind_some _ _).symm.trans H; with_reducible exact H2_) | with_reducible exact H | (rw [hy140]; exact H) | exact H
 have Ny140 := Aside0.mk hy140
 clear hy140
 replace H := Option.bind_eq_some_iff.mp H
 obtain ⟨t143, A20, H⟩ := H
 replace H : (logjamref38_Serial.l0 k l0 y137 y140 t143 0) = some (r1, r2) := H
 have A2 := Aside0.mk A20
 clear A20
 have H' := Aside0.mk H
 clear H
 go_enter Try.func10, Try.ntmps10
 go_wp2_with (first | ((with_reducible refine gate_dst (N := 14) rfl ?_); refine Kd.R_lit (Kd.int .i64) _ 3 ?hg (N := 14) ?hd (xs := ([] : List Int)) (inner := []) (ok := fun _ => True) (okp := fun _ => True) ?hr ?hp (fun _ hk => hk) trivial (Below.refl _ _) (Nat.le_refl _) (by simp) ?_; (case hd => rfl); (case hg => rfl); (case hr => first | (go_simp; done) | (go_simp; rfl)); (case hp => exact (Reps.none _ _)); intro v138 w3 ho4 hb hg_ hnew_; clear hg_ hnew_; (first | rw [← Ny137.out] at ho4 | (simp only [Int.reduceToNat] at ho4; rw [← Ny137.out] at ho4)); have n0_ := Aside0.mk (Kd.R_lower ho4 (below_size (by repeat (first | (with_reducible first | exact HB.out | apply below_alloc | apply pw_below_drewN | apply below_drew1) | exact HB.out)))); have n1_ := Aside0.mk (below_step (by repeat (first | (with_reducible first | exact HB.out | apply below_alloc | apply pw_below_drewN | apply below_drew1) | exact HB.out)) hb); clear HB; have HO139 := n0_; have HB := n1_; clear n0_ n1_; clear hb ho4) | ((with_reducible refine gate_dst (N := 15) rfl ?_); refine Kd.R_lit (Kd.int .i64) _ 3 ?hg (N := 15) ?hd (xs := ([] : List Int)) (inner := []) (ok := fun _ => True) (okp := fun _ => True) ?hr ?hp (fun _ hk => hk) trivial (Below.refl _ _) (Nat.le_refl _) (by simp) ?_; (case hd => rfl); (case hg => rfl); (case hr => first | (go_simp; done) | (go_simp; rfl)); (case hp => exact (Reps.none _ _)); intro v141 w5 ho6 hb hg_ hnew_; clear hg_ hnew_; (first | rw [← Ny140.out] at ho6 | (simp only [Int.reduceToNat] at ho6; rw [← Ny140.out] at ho6)); have n0_ := Aside0.mk (Kd.R_elder' (by (with_reducible repeat (first | apply Kd.R_alloc | apply Kd.R_drewN | apply Kd.R_drew)); exact HO139.out) (Kd.R_base ho6) hb); have n1_ := Aside0.mk (Kd.R_lower (Kd.R_new' ho6 (Kd.R_lt (by (with_reducible repeat (first | apply Kd.R_alloc | apply Kd.R_drewN | apply Kd.R_drew)); exact HO139.out))) (below_size (by repeat (first | (with_reducible first | exact HB.out | apply below_alloc | apply pw_below_drewN | apply below_drew1) | exact HB.out)))); have n2_ := Aside0.mk (below_step (by repeat (first | (with_reducible first | exact HB.out | apply below_alloc | apply pw_below_drewN | apply below_drew1) | exact HB.out)) hb); clear HO139; clear HB; have HO139 := n0_; have HO142 := n1_; have HB := n2_; clear n0_ n1_ n2_; clear hb ho6) | ((with_reducible refine gate_callee (f := 8) rfl ?_); refine goesL_ (some 17) rfl rfl Try.func8 (by kernel_rfl) rfl #[.slice A0 l0.length c0] rfl (by (try simp only [List.map_toArray, List.map_cons, List.map_nil]); first | done | rfl | (simp only [List.length_drop, List.length_take]; rfl)) ?_; (with_reducible refine (logjamref38_Ends.calls k _ _ l0 t143 _ ?side1 ?side2 A2.out).mono ?_); (case side1 => repeat (first | exact (Kd.C_below HR0.out HB.out) | (with_reducible refine Kd.C_alloc ?_ _) | (with_reducible refine Kd.C_drewN ?_ _) | (with_reducible refine Kd.C_drew ?_))); (case side2 => exact HC0.out); rintro e w7 ⟨v144, rfl, ho0, hb⟩; refine ⟨_, rfl, ?_⟩; have n0_ := Aside0.mk (Kd.R_elder' (by (with_reducible repeat (first | apply Kd.R_alloc | apply Kd.R_drewN | apply Kd.R_drew)); exact HO139.out) (Kd.R_base ho0) hb); have n1_ := Aside0.mk (Kd.R_elder' (by (with_reducible repeat (first | apply Kd.R_alloc | apply Kd.R_drewN | apply Kd.R_drew)); exact HO142.out) (Kd.R_base ho0) hb); have n2_ := Aside0.mk (Kd.R_lower (Kd.R_new' (Kd.R_new' ho0 (Kd.R_lt (by (with_reducible repeat (first | apply Kd.R_alloc | apply Kd.R_drewN | apply Kd.R_drew)); exact HO139.out))) (Kd.R_lt (by (with_reducible repeat (first | apply Kd.R_alloc | apply Kd.R_drewN | apply Kd.R_drew)); exact HO142.out))) (below_size (by repeat (first | (with_reducible first | exact HB.out | apply below_alloc | apply pw_below_drewN | apply below_drew1) | exact HB.out)))); have n3_ := Aside0.mk (below_step (by repeat (first | (with_reducible first | exact HB.out | apply below_alloc | apply pw_below_drewN | apply below_drew1) | exact HB.out)) hb); clear HO139; clear HO142; clear HB; have HO139 := n0_; have HO142 := n1_; have HO145 := n2_; have HB := n3_; clear n0_ n1_ n2_ n3_; (try clear hb); (try clear hb2); (try clear hk); (try clear hi); (try clear ho0)))
 go_loopg [4, 7] k (fun kq v4 v7 w' => ∃ (x4_1 : List Int) (x7_1 : Int), v7 = .int .i64 x7_1 ∧ Aside0 (logjamref38_Serial.l0 kq l0 x4_1 y140 t143 x7_1 = some (r1, r2)) ∧ Aside0 (kq ≤ k) ∧ Aside0 (Kd.R (Kd.int .i64) 3 w' w.heap.size (fun k_ => some k_ ≠ (v141 : Value).ownBlock ∧ some k_ ≠ (v144 : Value).ownBlock) v4 x4_1) ∧ Aside0 (Kd.R (Kd.int .i64) 3 w' w.heap.size (fun k_ => some k_ ≠ (v4 : Value).ownBlock ∧ some k_ ≠ (v144 : Value).ownBlock) v141 y140) ∧ Aside0 (Kd.R (Kd.int .i64) 3 w' w.heap.size (fun k_ => some k_ ≠ (v4 : Value).ownBlock ∧ some k_ ≠ (v141 : Value).ownBlock) v144 t143) ∧ Aside0 (Below w.heap.size w w'))
 case atStart => exact ⟨(y137), (0), (by first | rfl | (simp; done) | (simp only [emptyNe_, emptyEq_]; done) | (simp [*]; done)), H', ⟨Nat.le_refl _⟩, ⟨by (with_reducible repeat (first | apply Kd.R_alloc | apply Kd.R_drewN | apply Kd.R_drew)); exact Kd.R_mono HO139.out (fun _ hk => ⟨hk.1.2, hk.2⟩)⟩, ⟨by (with_reducible repeat (first | apply Kd.R_alloc | apply Kd.R_drewN | apply Kd.R_drew)); exact Kd.R_mono HO142.out (fun _ hk => ⟨hk.1.2, hk.2⟩)⟩, ⟨by (with_reducible repeat (first | apply Kd.R_alloc | apply Kd.R_drewN | apply Kd.R_drew)); exact Kd.R_mono HO145.out (fun _ hk => ⟨hk.1.2, hk.2⟩)⟩, ⟨by repeat (first | (with_reducible first | exact HB.out | apply below_alloc | apply pw_below_drewN | apply below_drew1) | exact HB.out)⟩⟩
 case round =>
  clear H'; try clear c1; try clear p2
  obtain ⟨x4_1, x7_1, rfl, HA, HK1, HO_4, HO_5, HO_6, HB⟩ := hrel
  cases gk with
  | zero => exact absurd HA.out (by simp [logjamref38_Serial.l0])
  | succ k1 =>
   have H := HA.out
   clear HA
   simp only [logjamref38_Serial.l0] at H
   by_cases c8 : x7_1 < (t143.length : Int)
   ·rw [if_pos c8] at H
    have c8b0 : decide (x7_1 < (t143.length : Int)) = true := decide_eq_true c8
    clear c8
    by_cases c9 : 0 ≤ x7_1
    ·rw [if_pos c9] at H
     have c9b0 : decide (0 ≤ x7_1) = true := decide_eq_true c9
     clear c9
     by_cases c10 : 0 ≤ (rd t143 x7_1)
     ·rw [if_pos c10] at H
      have c10b0 : decide (0 ≤ (rd t143 x7_1)) = true := decide_eq_true c10
      clear c10
      by_cases c11 : (rd t143 x7_1) < (l0.length : Int)
      ·rw [if_pos c11] at H
       have c11b0 : decide ((rd t143 x7_1) < (l0.length : Int)) = true := decide_eq_true c11
       clear c11
       by_cases c12 : ((rd_T29 l0 (rd t143 x7_1)).f0) = 3
       ·rw [if_pos c12] at H
        have c12b0 : (((rd_T29 l0 (rd t143 x7_1)).f0) == 3) = true := beq_iff_eq.mpr c12
        have c12b1 : (((rd_T29 l0 (rd t143 x7_1)).f0) != 3) = false := bne_eq_false_iff_eq.mpr c12
        clear c12
        by_cases c13 : x4_1.length < 17592186044416
        ·rw [if_pos c13] at H
         have LMc13 := Aside0.mk c13
         clear c13
         obtain ⟨y150, hy150⟩ : ∃ y_ : List Int, y_ = (x4_1 ++ [(rd_T29 l0 (rd t143 x7_1)).f2]) := ⟨_, rfl⟩
         replace H : (logjamref38_Serial.l0 k1 l0 y150 y140 t143 (wrap64 (x7_1 + 1))) = some (r1, r2) := by first | (rw [hy150]; with_reducible exact H) | (have H2_ := (Option.bind_some _ _).symm.trans H; rw [hy150]; with_reducible exact H2_) | (have H2_ := (Option.bind_some _ _).symm.trans H; with_reducible exact H2_) | with_reducible exact H | (rw [hy150]; exact H) | exact H
         have Ny150 := Aside0.mk hy150
         clear hy150
         have H' := Aside0.mk H
         clear H
         obtain ⟨Ao14, co14, eo14⟩ := Kd.R_slice HO_6.out
         subst eo14
         have p146 : 0 ≤ (x7_1 : Int) := of_decide_eq_true (by first | (with_reducible assumption) | assumption)
         have q146 : x7_1 < (t143.length : Int) := of_decide_eq_true (by first | (with_reducible assumption) | assumption)
         obtain ⟨ad146, e146, hx146_0⟩ := Kd.at_int (Kd.R_reads' HO_6.out).2.2 x7_1 p146 q146
         cases e146
         replace p146 := eq_true p146
         replace q146 := eq_true q146
         have p147 : 0 ≤ ((rd t143 x7_1) : Int) := of_decide_eq_true (by first | (with_reducible assumption) | assumption)
         have q147 : (rd t143 x7_1) < (l0.length : Int) := of_decide_eq_true (by first | (with_reducible assumption) | assumption)
         obtain ⟨ad147, e147, hx147_0, hx147_1, hx147_2, hx147_3, hx147_4⟩ := at_T29 HR0.out (rd t143 x7_1) p147 q147
         cases e147
         replace hx147_0 := (HB.out.cell (World.block_lt_of_cell? w _ hx147_0)).trans hx147_0
         replace hx147_1 := (HB.out.cell (World.block_lt_of_cell? w _ hx147_1)).trans hx147_1
         replace hx147_2 := (HB.out.cell (World.block_lt_of_cell? w _ hx147_2)).trans hx147_2
         replace hx147_3 := (HB.out.cell (World.block_lt_of_cell? w _ hx147_3)).trans hx147_3
         replace hx147_4 := (HB.out.cell (World.block_lt_of_cell? w _ hx147_4)).trans hx147_4
         replace p147 := eq_true p147
         replace q147 := eq_true q147
         have p148 : 0 ≤ (x7_1 : Int) := of_decide_eq_true (by first | (with_reducible assumption) | assumption)
         have q148 : x7_1 < (t143.length : Int) := of_decide_eq_true (by first | (with_reducible assumption) | assumption)
         obtain ⟨ad148, e148, hx148_0⟩ := Kd.at_int (Kd.R_reads' HO_6.out).2.2 x7_1 p148 q148
         obtain rfl : ad146 = ad148 := (by injection e148)
         replace p148 := eq_true p148
         replace q148 := eq_true q148
         have p149 : 0 ≤ ((rd t143 x7_1) : Int) := of_decide_eq_true (by first | (with_reducible assumption) | assumption)
         have q149 : (rd t143 x7_1) < (l0.length : Int) := of_decide_eq_true (by first | (with_reducible assumption) | assumption)
         obtain ⟨ad149, e149, hx149_0, hx149_1, hx149_2, hx149_3, hx149_4⟩ := at_T29 HR0.out (rd t143 x7_1) p149 q149
         obtain rfl : ad147 = ad149 := (by injection e149)
         replace hx149_0 := (HB.out.cell (World.block_lt_of_cell? w _ hx149_0)).trans hx149_0
         replace hx149_1 := (HB.out.cell (World.block_lt_of_cell? w _ hx149_1)).trans hx149_1
         replace hx149_2 := (HB.out.cell (World.block_lt_of_cell? w _ hx149_2)).trans hx149_2
         replace hx149_3 := (HB.out.cell (World.block_lt_of_cell? w _ hx149_3)).trans hx149_3
         replace hx149_4 := (HB.out.cell (World.block_lt_of_cell? w _ hx149_4)).trans hx149_4
         replace p149 := eq_true p149
         replace q149 := eq_true q149
         go_wp2_with (first | ((with_reducible refine gate_builtin (b := .append) (xs := #[.tmp 33, .tmp 42]) rfl ?_); at_builtin; refine Kd.R_append (Kd.int .i64) (w0 := w) w.heap.size rfl (.tmp 33) (.tmp 42) 26 3 (.int .i64 0) 8 rfl Try.underlying26 info3 rfl (by decide) (by omega) u4 x4_1 ((rd_T29 l0 (rd t143 x7_1)).f2) [.int .i64 ((rd_T29 l0 (rd t143 x7_1)).f2)] (fun k_ => some k_ ≠ (v141 : Value).ownBlock ∧ some k_ ≠ (.slice (some ad146) t143.length co14 : Value).ownBlock) (fun _ => False) rfl rfl ?aP (fun _ hk => hk.elim) ?aF ?aO ?aB ?aS ?aL ?_; (case aP => exact rfl); (case aB => exact (by repeat (first | (with_reducible first | exact HB.out | apply below_alloc | apply pw_below_drewN | apply below_drew1) | exact HB.out))); (case aF => exact (fun k_ hk => ⟨Kd.fresh' (Kd.R_lt (by (with_reducible repeat (first | apply Kd.R_alloc | apply Kd.R_drewN | apply Kd.R_drew)); exact HO_5.out)) k_ hk, Kd.fresh' (Kd.R_lt (by (with_reducible repeat (first | apply Kd.R_alloc | apply Kd.R_drewN | apply Kd.R_drew)); exact HO_6.out)) k_ hk⟩)); (case aO => exact (by (with_reducible repeat (first | apply Kd.R_alloc | apply Kd.R_drewN | apply Kd.R_drew)); exact HO_4.out)); (case aS => exact (below_size (by repeat (first | (with_reducible first | exact HB.out | apply below_alloc | apply pw_below_drewN | apply below_drew1) | exact HB.out)))); (case aL => have := LMc13.out; omega); intro v151 w15 ho hb hg hat; rw [← Ny150.out] at ho; have n0_ := Aside0.mk (Kd.R_after (ok := (fun k_ => some k_ ≠ (.slice (some ad146) t143.length co14 : Value).ownBlock)) (by (with_reducible repeat (first | apply Kd.R_alloc | apply Kd.R_drewN | apply Kd.R_drew)); exact Kd.R_mono HO_5.out (fun _ hk => ⟨hk.2, hk.1⟩)) hg hat); have n1_ := Aside0.mk (Kd.R_after (ok := (fun k_ => some k_ ≠ (v141 : Value).ownBlock)) (by (with_reducible repeat (first | apply Kd.R_alloc | apply Kd.R_drewN | apply Kd.R_drew)); exact Kd.R_mono HO_6.out (fun _ hk => ⟨hk.2, hk.1⟩)) hg hat); have n2_ := Aside0.mk (hb); have n3_ := Aside0.mk (ho); clear HO_5; clear HO_6; clear HB; clear HO_4; have HO_5 := n0_; have HO_6 := n1_; have HB := n2_; have HO152 := n3_; clear n0_ n1_ n2_ n3_; clear ho hb hg hat))
         go_roundg k1
         case measure => have := HK1.out; omega
         case rel => exact ⟨(y150), (wrap64 (x7_1 + 1)), (by first | rfl | (simp; done) | (simp only [emptyNe_, emptyEq_]; done) | (simp [*]; done)), H', ⟨by have := HK1.out; omega⟩, ⟨by (with_reducible repeat (first | apply Kd.R_alloc | apply Kd.R_drewN | apply Kd.R_drew)); exact HO152.out⟩, ⟨by (with_reducible repeat (first | apply Kd.R_alloc | apply Kd.R_drewN | apply Kd.R_drew)); exact Kd.R_mono HO_5.out (fun _ hk => ⟨hk.2, hk.1⟩)⟩, ⟨by (with_reducible repeat (first | apply Kd.R_alloc | apply Kd.R_drewN | apply Kd.R_drew)); exact Kd.R_mono HO_6.out (fun _ hk => ⟨hk.2, hk.1⟩)⟩, ⟨by repeat (first | (with_reducible first | exact HB.out | apply below_alloc | apply pw_below_drewN | apply below_drew1) | exact HB.out)⟩⟩
        ·rw [if_neg c13] at H
         exact absurd H (by simp)
       ·rw [if_neg c12] at H
        have c12b0 : (((rd_T29 l0 (rd t143 x7_1)).f0) == 3) = false := beq_eq_false_iff_ne.mpr c12
        have c12b1 : (((rd_T29 l0 (rd t143 x7_1)).f0) != 3) = true := bne_iff_ne.mpr c12
        have H' := Aside0.mk H
        clear H
        obtain ⟨Ao16, co16, eo16⟩ := Kd.R_slice HO_6.out
        subst eo16
        have p146 : 0 ≤ (x7_1 : Int) := of_decide_eq_true (by first | (with_reducible assumption) | assumption)
        have q146 : x7_1 < (t143.length : Int) := of_decide_eq_true (by first | (with_reducible assumption) | assumption)
        obtain ⟨ad146, e146, hx146_0⟩ := Kd.at_int (Kd.R_reads' HO_6.out).2.2 x7_1 p146 q146
        cases e146
        replace p146 := eq_true p146
        replace q146 := eq_true q146
        have p147 : 0 ≤ ((rd t143 x7_1) : Int) := of_decide_eq_true (by first | (with_reducible assumption) | assumption)
        have q147 : (rd t143 x7_1) < (l0.length : Int) := of_decide_eq_true (by first | (with_reducible assumption) | assumption)
        obtain ⟨ad147, e147, hx147_0, hx147_1, hx147_2, hx147_3, hx147_4⟩ := at_T29 HR0.out (rd t143 x7_1) p147 q147
        cases e147
        replace hx147_0 := (HB.out.cell (World.block_lt_of_cell? w _ hx147_0)).trans hx147_0
        replace hx147_1 := (HB.out.cell (World.block_lt_of_cell? w _ hx147_1)).trans hx147_1
        replace hx147_2 := (HB.out.cell (World.block_lt_of_cell? w _ hx147_2)).trans hx147_2
        replace hx147_3 := (HB.out.cell (World.block_lt_of_cell? w _ hx147_3)).trans hx147_3
        replace hx147_4 := (HB.out.cell (World.block_lt_of_cell? w _ hx147_4)).trans hx147_4
        replace p147 := eq_true p147
        replace q147 := eq_true q147
        go_wp2
        go_roundg k1
        case measure => have := HK1.out; omega
        case rel => exact ⟨(x4_1), (wrap64 (x7_1 + 1)), (by first | rfl | (simp; done) | (simp only [emptyNe_, emptyEq_]; done) | (simp [*]; done)), H', ⟨by have := HK1.out; omega⟩, ⟨by (with_reducible repeat (first | apply Kd.R_alloc | apply Kd.R_drewN | apply Kd.R_drew)); exact HO_4.out⟩, ⟨by (with_reducible repeat (first | apply Kd.R_alloc | apply Kd.R_drewN | apply Kd.R_drew)); exact HO_5.out⟩, ⟨by (with_reducible repeat (first | apply Kd.R_alloc | apply Kd.R_drewN | apply Kd.R_drew)); exact HO_6.out⟩, ⟨by repeat (first | (with_reducible first | exact HB.out | apply below_alloc | apply pw_below_drewN | apply below_drew1) | exact HB.out)⟩⟩
      ·rw [if_neg c11] at H
       exact absurd H (by simp)
     ·rw [if_neg c10] at H
      exact absurd H (by simp)
    ·rw [if_neg c9] at H
     exact absurd H (by simp)
   ·rw [if_neg c8] at H
    have c8b0 : decide (x7_1 < (t143.length : Int)) = false := decide_eq_false c8
    clear c8
    have H' := Aside0.mk H
    clear H
    obtain ⟨Ao17, co17, eo17⟩ := Kd.R_slice HO_6.out
    subst eo17
    go_wp2
    go_loopg [4, 5] k1 (fun kq v4 v5 w' => ∃ (x4_2 : List Int) (x5_2 : List Int), Aside0 (logjamref38_Serial.l1 kq l0 x4_2 x5_2 = some (r1, r2)) ∧ Aside0 (kq ≤ k1) ∧ Aside0 (Kd.R (Kd.int .i64) 3 w' w.heap.size (fun k_ => some k_ ≠ (v5 : Value).ownBlock) v4 x4_2) ∧ Aside0 (Kd.R (Kd.int .i64) 3 w' w.heap.size (fun k_ => some k_ ≠ (v4 : Value).ownBlock) v5 x5_2) ∧ Aside0 (Below w.heap.size w w'))
    case atStart => exact ⟨(x4_1), (y140), H', ⟨Nat.le_refl _⟩, ⟨by (with_reducible repeat (first | apply Kd.R_alloc | apply Kd.R_drewN | apply Kd.R_drew)); exact Kd.R_mono HO_4.out (fun _ hk => hk.1)⟩, ⟨by (with_reducible repeat (first | apply Kd.R_alloc | apply Kd.R_drewN | apply Kd.R_drew)); exact Kd.R_mono HO_5.out (fun _ hk => hk.1)⟩, ⟨by repeat (first | (with_reducible first | exact HB.out | apply below_alloc | apply pw_below_drewN | apply below_drew1) | exact HB.out)⟩⟩
    case round =>
     clear H'; try clear c1; try clear p1; try clear q1; try clear hx1; try clear p2; try clear p6; try clear c8; try clear c8b0; try clear c9; try clear c9b0; try clear c10; try clear c10b0; try clear c11; try clear c11b0; try clear c12; try clear c12b0; try clear c12b1; try clear c13; try clear p14; try clear q14; try clear hx14; try clear hx146_0; try clear hx147_0; try clear hx147_1; try clear hx147_2; try clear hx147_3; try clear hx147_4; try clear hx148_0; try clear hx149_0; try clear hx149_1; try clear hx149_2; try clear hx149_3; try clear hx149_4; try clear p146; try clear p147; try clear p148; try clear p149; try clear p2; try clear q146; try clear q147; try clear q148; try clear q149
     obtain ⟨x4_2, x5_2, HA, HK2, HO_4, HO_5, HB⟩ := hrel
     cases gk with
     | zero => exact absurd HA.out (by simp [logjamref38_Serial.l1])
     | succ k2 =>
      have H := HA.out
      clear HA
      simp only [logjamref38_Serial.l1] at H
      by_cases c18 : (x4_2.length : Int) > 0
      ·rw [if_pos c18] at H
       have c18b0 : decide (0 < (x4_2.length : Int)) = true := decide_eq_true c18
       have c18b1 : decide (0 < x4_2.length) = true := decide_eq_true (by omega)
       clear c18
       obtain ⟨y153, hy153⟩ : ∃ y_ : List Int, y_ = (([] : List Int)) := ⟨_, rfl⟩
       replace H : (logjamref38_Serial.l2 k2 l0 x4_2 x5_2 0 y153 0) = some (r1, r2) := by first | (rw [hy153]; with_reducible exact H) | (have H2_ := (Option.bind_some _ _).symm.trans H; rw [hy153]; with_reducible exact H2_) | (have H2_ := (Option.bind_some _ _).symm.trans H; with_reducible exact H2_) | with_reducible exact H | (rw [hy153]; exact H) | exact H
       have Ny153 := Aside0.mk hy153
       clear hy153
       have H' := Aside0.mk H
       clear H
       obtain ⟨Ao19, co19, eo19⟩ := Kd.R_slice HO_4.out
       subst eo19
       go_wp2_with (first | ((with_reducible refine gate_dst (N := 47) rfl ?_); refine Kd.R_lit (Kd.int .i64) _ 3 ?hg (N := 47) ?hd (xs := ([] : List Int)) (inner := []) (ok := fun _ => True) (okp := fun _ => True) ?hr ?hp (fun _ hk => hk) trivial (Below.refl _ _) (Nat.le_refl _) (by simp) ?_; (case hd => rfl); (case hg => rfl); (case hr => first | (go_simp; done) | (go_simp; rfl)); (case hp => exact (Reps.none _ _)); intro v154 w20 ho21 hb hg_ hnew_; clear hg_ hnew_; (first | rw [← Ny153.out] at ho21 | (simp only [Int.reduceToNat] at ho21; rw [← Ny153.out] at ho21)); have n0_ := Aside0.mk (Kd.R_elder' (by (with_reducible repeat (first | apply Kd.R_alloc | apply Kd.R_drewN | apply Kd.R_drew)); exact HO_4.out) (Kd.R_base ho21) hb); have n1_ := Aside0.mk (Kd.R_elder' (by (with_reducible repeat (first | apply Kd.R_alloc | apply Kd.R_drewN | apply Kd.R_drew)); exact HO_5.out) (Kd.R_base ho21) hb); have n2_ := Aside0.mk (Kd.R_lower (Kd.R_new' (Kd.R_new' ho21 (Kd.R_lt (by (with_reducible repeat (first | apply Kd.R_alloc | apply Kd.R_drewN | apply Kd.R_drew)); exact HO_4.out))) (Kd.R_lt (by (with_reducible repeat (first | apply Kd.R_alloc | apply Kd.R_drewN | apply Kd.R_drew)); exact HO_5.out))) (below_size (by repeat (first | (with_reducible first | exact HB.out | apply below_alloc | apply pw_below_drewN | apply below_drew1) | exact HB.out)))); have n3_ := Aside0.mk (below_step (by repeat (first | (with_reducible first | exact HB.out | apply below_alloc | apply pw_below_drewN | apply below_drew1) | exact HB.out)) hb); clear HO_4; clear HO_5; clear HB; have HO_4 := n0_; have HO_5 := n1_; have HO155 := n2_; have HB := n3_; clear n0_ n1_ n2_ n3_; clear hb ho21))
       go_loopg [8, 10] k2 (fun kq v8 v10 w' => ∃ (x8_3 : Int) (x10_3 : Int), v8 = .int .i64 x8_3 ∧ v10 = .int .i64 x10_3 ∧ Aside0 (logjamref38_Serial.l2 kq l0 x4_2 x5_2 x8_3 y153 x10_3 = some (r1, r2)) ∧ Aside0 (kq ≤ k2) ∧ Aside0 (Kd.R (Kd.int .i64) 3 w' w.heap.size (fun k_ => some k_ ≠ (u5 : Value).ownBlock ∧ some k_ ≠ (v154 : Value).ownBlock) (.slice Ao19 x4_2.length co19) x4_2) ∧ Aside0 (Kd.R (Kd.int .i64) 3 w' w.heap.size (fun k_ => some k_ ≠ ((.slice Ao19 x4_2.length co19) : Value).ownBlock ∧ some k_ ≠ (v154 : Value).ownBlock) u5 x5_2) ∧ Aside0 (Kd.R (Kd.int .i64) 3 w' w.heap.size (fun k_ => some k_ ≠ ((.slice Ao19 x4_2.length co19) : Value).ownBlock ∧ some k_ ≠ (u5 : Value).ownBlock) v154 y153) ∧ Aside0 (Below w.heap.size w w'))
       case atStart => exact ⟨(0), (0), (by first | rfl | (simp; done) | (simp only [emptyNe_, emptyEq_]; done) | (simp [*]; done)), (by first | rfl | (simp; done) | (simp only [emptyNe_, emptyEq_]; done) | (simp [*]; done)), H', ⟨Nat.le_refl _⟩, ⟨by (with_reducible repeat (first | apply Kd.R_alloc | apply Kd.R_drewN | apply Kd.R_drew)); exact HO_4.out⟩, ⟨by (with_reducible repeat (first | apply Kd.R_alloc | apply Kd.R_drewN | apply Kd.R_drew)); exact HO_5.out⟩, ⟨by (with_reducible repeat (first | apply Kd.R_alloc | apply Kd.R_drewN | apply Kd.R_drew)); exact Kd.R_mono HO155.out (fun _ hk => ⟨hk.1.2, hk.2⟩)⟩, ⟨by repeat (first | (with_reducible first | exact HB.out | apply below_alloc | apply pw_below_drewN | apply below_drew1) | exact HB.out)⟩⟩
       case round =>
        clear H'; try clear c1; try clear p1; try clear q1; try clear hx1; try clear p2; try clear p6; try clear c8; try clear c8b0; try clear c9; try clear c9b0; try clear c10; try clear c10b0; try clear c11; try clear c11b0; try clear c12; try clear c12b0; try clear c12b1; try clear c13; try clear p14; try clear q14; try clear hx14; try clear c18; try clear c18b0; try clear c18b1; try clear hx146_0; try clear hx147_0; try clear hx147_1; try clear hx147_2; try clear hx147_3; try clear hx147_4; try clear hx148_0; try clear hx149_0; try clear hx149_1; try clear hx149_2; try clear hx149_3; try clear hx149_4; try clear p1; try clear p14; try clear p146; try clear p147; try clear p148; try clear p149; try clear p2; try clear p6; try clear q1; try clear q14; try clear q146; try clear q147; try clear q148; try clear q149
        obtain ⟨x8_3, x10_3, rfl, rfl, HA, HK3, HO_4, HO_5, HO_9, HB⟩ := hrel
        cases gk with
        | zero => exact absurd HA.out (by simp [logjamref38_Serial.l2])
        | succ k3 =>
         have H := HA.out
         clear HA
         simp only [logjamref38_Serial.l2] at H
         by_cases c22 : x10_3 < (x4_2.length : Int)
         ·rw [if_pos c22] at H
          have c22b0 : decide (x10_3 < (x4_2.length : Int)) = true := decide_eq_true c22
          clear c22
          have H' := Aside0.mk H
          clear H
          go_wp2
          go_loopg [11, 12] k3 (fun kq v11 v12 w' => ∃ (x11_4 : Bool) (x12_4 : Int), v11 = .bool x11_4 ∧ v12 = .int .i64 x12_4 ∧ Aside0 (logjamref38_Serial.l3 kq l0 x4_2 x5_2 x8_3 y153 x10_3 x11_4 x12_4 = some (r1, r2)) ∧ Aside0 (kq ≤ k3) ∧ Aside0 (Kd.R (Kd.int .i64) 3 w' w.heap.size (fun k_ => some k_ ≠ (u5 : Value).ownBlock ∧ some k_ ≠ (v154 : Value).ownBlock) (.slice Ao19 x4_2.length co19) x4_2) ∧ Aside0 (Kd.R (Kd.int .i64) 3 w' w.heap.size (fun k_ => some k_ ≠ ((.slice Ao19 x4_2.length co19) : Value).ownBlock ∧ some k_ ≠ (v154 : Value).ownBlock) u5 x5_2) ∧ Aside0 (Kd.R (Kd.int .i64) 3 w' w.heap.size (fun k_ => some k_ ≠ ((.slice Ao19 x4_2.length co19) : Value).ownBlock ∧ some k_ ≠ (u5 : Value).ownBlock) v154 y153) ∧ Aside0 (Below w.heap.size w w'))
          case atStart => exact ⟨(true), (0), (by first | rfl | (simp; done) | (simp only [emptyNe_, emptyEq_]; done) | (simp [*]; done)), (by first | rfl | (simp; done) | (simp only [emptyNe_, emptyEq_]; done) | (simp [*]; done)), H', ⟨Nat.le_refl _⟩, ⟨by (with_reducible repeat (first | apply Kd.R_alloc | apply Kd.R_drewN | apply Kd.R_drew)); exact HO_4.out⟩, ⟨by (with_reducible repeat (first | apply Kd.R_alloc | apply Kd.R_drewN | apply Kd.R_drew)); exact HO_5.out⟩, ⟨by (with_reducible repeat (first | apply Kd.R_alloc | apply Kd.R_drewN | apply Kd.R_drew)); exact HO_9.out⟩, ⟨by repeat (first | (with_reducible first | exact HB.out | apply below_alloc | apply pw_below_drewN | apply below_drew1) | exact HB.out)⟩⟩
          case round =>
           clear H'; try clear c1; try clear p1; try clear q1; try clear hx1; try clear c2; try clear p2; try clear p6; try clear c8; try clear c8b0; try clear c9; try clear c9b0; try clear c10; try clear c10b0; try clear c11; try clear c11b0; try clear c12; try clear c12b0; try clear c12b1; try clear c13; try clear p14; try clear q14; try clear hx14; try clear c18; try clear c18b0; try clear c18b1; try clear c22; try clear c22b0; try clear hx146_0; try clear hx147_0; try clear hx147_1; try clear hx147_2; try clear hx147_3; try clear hx147_4; try clear hx148_0; try clear hx149_0; try clear hx149_1; try clear hx149_2; try clear hx149_3; try clear hx149_4; try clear p1; try clear p14; try clear p146; try clear p147; try clear p148; try clear p149; try clear p2; try clear p6; try clear q1; try clear q14; try clear q146; try clear q147; try clear q148; try clear q149
           obtain ⟨x11_4, x12_4, rfl, rfl, HA, HK4, HO_4, HO_5, HO_9, HB⟩ := hrel
           cases gk with
           | zero => exact absurd HA.out (by simp [logjamref38_Serial.l3])
           | succ k4 =>
            have H := HA.out
            clear HA
            simp only [logjamref38_Serial.l3] at H
            by_cases c23 : x12_4 < (x4_2.length : Int)
            ·rw [if_pos c23] at H
             have c23b0 : decide (x12_4 < (x4_2.length : Int)) = true := decide_eq_true c23
             clear c23
             by_cases c24 : x11_4 = true
             ·subst c24
              have H1 : (if x12_4 = x10_3 then (logjamref38_Serial.l3 k4 l0 x4_2 x5_2 x8_3 y153 x10_3 true (wrap64 (x12_4 + 1))) else (if 0 ≤ x12_4 then (if 0 ≤ x10_3 then (if x10_3 < (x4_2.length : Int) then ((logjamref38_Conflict.f k4 l0 (rd x4_2 x12_4) (rd x4_2 x10_3)).bind fun t158 => (logjamref38_Serial.l3 k4 l0 x4_2 x5_2 x8_3 y153 x10_3 (!t158) (wrap64 (x12_4 + 1)))) else (none)) else (none)) else (none))) = some (r1, r2) := by rw [if_pos rfl] at H; exact H
              clear H
              have H := H1
              clear H1
              by_cases c25 : x12_4 = x10_3
              ·rw [if_pos c25] at H
               have c25b0 : (x12_4 == x10_3) = true := beq_iff_eq.mpr c25
               have c25b1 : (x12_4 != x10_3) = false := bne_eq_false_iff_eq.mpr c25
               clear c25
               have H' := Aside0.mk H
               clear H
               try go_wp2
               have n0_ := Aside0.mk (Kd.R_drew HO_4.out)
               have n1_ := Aside0.mk (Kd.R_drew HO_5.out)
               have n2_ := Aside0.mk (Kd.R_drew HO_9.out)
               have n3_ := Aside0.mk (below_drew1 HB.out)
               clear HO_4; clear HO_5; clear HO_9; clear HB; have HO_4 := n0_; have HO_5 := n1_; have HO_9 := n2_; have HB := n3_; clear n0_ n1_ n2_ n3_
               refine start_ (n := 20) (S := fun w' => True) (ds := []) #[false, false, false, false, false, false, false, false, false, false, false, false, false, false, false, false, false, false, false, false] (by kernel_rfl) rfl rfl trivial (fun hHeld => ?_); refine with_tabW logjamref38_Serial.tab17 logjamref38_Serial.bits17 (fun HT_ HW_ => ?_)
               generalize wr.drew = w26 at HO_4 HO_5 HO_9 HB hHeld ⊢
               refine pure_ (i := 0) (N := some 60) (v := ?_) (a' := ?_) #[true, false, false, false, false, false, false, false, false, false, false, false, false, false, false, false, false, false, false, false] rfl rfl (any_of HT_.out (by kernel_rfl)) (fun _ _ _ h => h) (Or.inl ⟨by rfl, ?_⟩) ?_ ?_
               rotate_left
               ·intro w'
                go_simp
                with_reducible rfl
               rotate_left
               ·simp only [Act.put, List.setIfInBounds_toArray, List.set_cons_zero, List.set_cons_succ, i64_w, i32_w]
                rfl
               refine pure_ (i := 1) (N := some 61) (v := ?_) (a' := ?_) #[true, true, false, false, false, false, false, false, false, false, false, false, false, false, false, false, false, false, false, false] rfl rfl (any_of HT_.out (by kernel_rfl)) (fun _ _ _ h => h) (Or.inl ⟨by rfl, ?_⟩) ?_ ?_
               rotate_left
               ·intro w'
                go_simp
                with_reducible rfl
               rotate_left
               ·simp only [Act.put, List.setIfInBounds_toArray, List.set_cons_zero, List.set_cons_succ, i64_w, i32_w]
                rfl
               refine pure_ (i := 2) (N := some 62) (v := ?_) (a' := ?_) #[true, true, true, false, false, false, false, false, false, false, false, false, false, false, false, false, false, false, false, false] rfl rfl (any_of HT_.out (by kernel_rfl)) (fun _ _ _ h => h) (Or.inl ⟨by rfl, ?_⟩) ?_ ?_
               rotate_left
               ·intro w'
                go_simp
                with_reducible rfl
               rotate_left
               ·simp only [Act.put, List.setIfInBounds_toArray, List.set_cons_zero, List.set_cons_succ, i64_w, i32_w]
                rfl
               refine pure_ (i := 3) (N := some 63) (v := ?_) (a' := ?_) #[true, true, true, true, false, false, false, false, false, false, false, false, false, false, false, false, false, false, false, false] rfl rfl (any_of HT_.out (by kernel_rfl)) (fun _ _ _ h => h) (Or.inl ⟨by rfl, ?_⟩) ?_ ?_
               rotate_left
               ·intro w'
                go_simp
                with_reducible rfl
               rotate_left
               ·simp only [Act.put, List.setIfInBounds_toArray, List.set_cons_zero, List.set_cons_succ, i64_w, i32_w]
                rfl
               refine pure_ (i := 4) (N := some 64) (v := ?_) (a' := ?_) #[true, true, true, true, true, false, false, false, false, false, false, false, false, false, false, false, false, false, false, false] rfl rfl (any_of HT_.out (by kernel_rfl)) (fun _ _ _ h => h) (Or.inl ⟨by rfl, ?_⟩) ?_ ?_
               rotate_left
               ·intro w'
                go_simp
                with_reducible rfl
               rotate_left
               ·simp only [Act.put, List.setIfInBounds_toArray, List.set_cons_zero, List.set_cons_succ, i64_w, i32_w]
                rfl
               refine pure_ (i := 5) (N := some 65) (v := ?_) (a' := ?_) #[true, true, true, true, true, true, false, false, false, false, false, false, false, false, false, false, false, false, false, false] rfl rfl (any_of HT_.out (by kernel_rfl)) (fun _ _ _ h => h) (Or.inl ⟨by rfl, ?_⟩) ?_ ?_
               rotate_left
               ·intro w'
                go_simp
                with_reducible rfl
               rotate_left
               ·simp only [Act.put, List.setIfInBounds_toArray, List.set_cons_zero, List.set_cons_succ, i64_w, i32_w]
                rfl
               refine pure_ (i := 6) (N := some 66) (v := undef) (a' := ?_) #[true, true, true, true, true, true, true, false, false, false, false, false, false, false, false, false, false, false, false, false] rfl rfl (any_of HT_.out (by kernel_rfl)) (fun _ _ _ h => h) (Or.inr ⟨by rfl, rfl⟩) ?_ ?_
               rotate_left
               ·simp only [Act.put, List.setIfInBounds_toArray, List.set_cons_zero, List.set_cons_succ, i64_w, i32_w]
                rfl
               refine pure_ (i := 7) (N := some 67) (v := undef) (a' := ?_) #[true, true, true, true, true, true, true, true, false, false, false, false, false, false, false, false, false, false, false, false] rfl rfl (any_of HT_.out (by kernel_rfl)) (fun _ _ _ h => h) (Or.inr ⟨by rfl, rfl⟩) ?_ ?_
               rotate_left
               ·simp only [Act.put, List.setIfInBounds_toArray, List.set_cons_zero, List.set_cons_succ, i64_w, i32_w]
                rfl
               refine pure_ (i := 8) (N := some 68) (v := undef) (a' := ?_) #[true, true, true, true, true, true, true, true, true, false, false, false, false, false, false, false, false, false, false, false] rfl rfl (any_of HT_.out (by kernel_rfl)) (fun _ _ _ h => h) (Or.inr ⟨by rfl, rfl⟩) ?_ ?_
               rotate_left
               ·simp only [Act.put, List.setIfInBounds_toArray, List.set_cons_zero, List.set_cons_succ, i64_w, i32_w]
                rfl
               refine pure_ (i := 9) (N := some 69) (v := undef) (a' := ?_) #[true, true, true, true, true, true, true, true, true, true, false, false, false, false, false, false, false, false, false, false] rfl rfl (any_of HT_.out (by kernel_rfl)) (fun _ _ _ h => h) (Or.inr ⟨by rfl, rfl⟩) ?_ ?_
               rotate_left
               ·simp only [Act.put, List.setIfInBounds_toArray, List.set_cons_zero, List.set_cons_succ, i64_w, i32_w]
                rfl
               refine pure_ (i := 10) (N := some 70) (v := undef) (a' := ?_) #[true, true, true, true, true, true, true, true, true, true, true, false, false, false, false, false, false, false, false, false] rfl rfl (any_of HT_.out (by kernel_rfl)) (fun _ _ _ h => h) (Or.inr ⟨by rfl, rfl⟩) ?_ ?_
               rotate_left
               ·simp only [Act.put, List.setIfInBounds_toArray, List.set_cons_zero, List.set_cons_succ, i64_w, i32_w]
                rfl
               refine pure_ (i := 11) (N := some 71) (v := undef) (a' := ?_) #[true, true, true, true, true, true, true, true, true, true, true, true, false, false, false, false, false, false, false, false] rfl rfl (any_of HT_.out (by kernel_rfl)) (fun _ _ _ h => h) (Or.inr ⟨by rfl, rfl⟩) ?_ ?_
               rotate_left
               ·simp only [Act.put, List.setIfInBounds_toArray, List.set_cons_zero, List.set_cons_succ, i64_w, i32_w]
                rfl
               refine pure_ (i := 12) (N := some 72) (v := undef) (a' := ?_) #[true, true, true, true, true, true, true, true, true, true, true, true, true, false, false, false, false, false, false, false] rfl rfl (any_of HT_.out (by kernel_rfl)) (fun _ _ _ h => h) (Or.inr ⟨by rfl, rfl⟩) ?_ ?_
               rotate_left
               ·simp only [Act.put, List.setIfInBounds_toArray, List.set_cons_zero, List.set_cons_succ, i64_w, i32_w]
                rfl
               refine pure_ (i := 13) (N := some 73) (v := undef) (a' := ?_) #[true, true, true, true, true, true, true, true, true, true, true, true, true, true, false, false, false, false, false, false] rfl rfl (any_of HT_.out (by kernel_rfl)) (fun _ _ _ h => h) (Or.inr ⟨by rfl, rfl⟩) ?_ ?_
               rotate_left
               ·simp only [Act.put, List.setIfInBounds_toArray, List.set_cons_zero, List.set_cons_succ, i64_w, i32_w]
                rfl
               refine pure_ (i := 14) (N := some 74) (v := undef) (a' := ?_) #[true, true, true, true, true, true, true, true, true, true, true, true, true, true, true, false, false, false, false, false] rfl rfl (any_of HT_.out (by kernel_rfl)) (fun _ _ _ h => h) (Or.inr ⟨by rfl, rfl⟩) ?_ ?_
               rotate_left
               ·simp only [Act.put, List.setIfInBounds_toArray, List.set_cons_zero, List.set_cons_succ, i64_w, i32_w]
                rfl
               refine pure_ (i := 15) (N := some 75) (v := undef) (a' := ?_) #[true, true, true, true, true, true, true, true, true, true, true, true, true, true, true, true, false, false, false, false] rfl rfl (any_of HT_.out (by kernel_rfl)) (fun _ _ _ h => h) (Or.inr ⟨by rfl, rfl⟩) ?_ ?_
               rotate_left
               ·simp only [Act.put, List.setIfInBounds_toArray, List.set_cons_zero, List.set_cons_succ, i64_w, i32_w]
                rfl
               refine pure_ (i := 16) (N := some 76) (v := undef) (a' := ?_) #[true, true, true, true, true, true, true, true, true, true, true, true, true, true, true, true, true, false, false, false] rfl rfl (any_of HT_.out (by kernel_rfl)) (fun _ _ _ h => h) (Or.inr ⟨by rfl, rfl⟩) ?_ ?_
               rotate_left
               ·simp only [Act.put, List.setIfInBounds_toArray, List.set_cons_zero, List.set_cons_succ, i64_w, i32_w]
                rfl
               refine pure_ (i := 17) (N := some 77) (v := ?_) (a' := ?_) #[true, true, true, true, true, true, true, true, true, true, true, true, true, true, true, true, true, true, false, false] rfl rfl (any_of HT_.out (by kernel_rfl)) (fun _ _ _ h => h) (Or.inl ⟨by rfl, ?_⟩) ?_ ?_
               rotate_left
               ·intro w'
                go_simp
                with_reducible rfl
               rotate_left
               ·simp only [Act.put, List.setIfInBounds_toArray, List.set_cons_zero, List.set_cons_succ, i64_w, i32_w]
                rfl
               refine pure_ (i := 18) (N := some 78) (v := ?_) (a' := ?_) #[true, true, true, true, true, true, true, true, true, true, true, true, true, true, true, true, true, true, true, false] rfl rfl (any_of HT_.out (by kernel_rfl)) (fun _ _ _ h => h) (Or.inl ⟨by rfl, ?_⟩) ?_ ?_
               rotate_left
               ·intro w'
                go_simp
                with_reducible rfl
               rotate_left
               ·simp only [Act.put, List.setIfInBounds_toArray, List.set_cons_zero, List.set_cons_succ, i64_w, i32_w]
                rfl
               refine pure_ (i := 19) (N := some 11) (v := ?_) (a' := ?_) #[true, true, true, true, true, true, true, true, true, true, true, true, true, true, true, true, true, true, true, true] rfl rfl (any_of HT_.out (by kernel_rfl)) (fun _ _ _ h => h) (Or.inl ⟨by rfl, ?_⟩) ?_ ?_
               rotate_left
               ·intro w'
                go_simp
                with_reducible rfl
               rotate_left
               ·simp only [Act.put, List.setIfInBounds_toArray, List.set_cons_zero, List.set_cons_succ, i64_w, i32_w]
                rfl
               refine done_ (done_of HT_.out (by kernel_rfl)) ?_
               try go_wp2
               go_roundg k4
               case measure => have := HK1.out; have := HK2.out; have := HK3.out; have := HK4.out; omega
               case rel => exact ⟨(true), (wrap64 (x12_4 + 1)), (by first | rfl | (simp; done) | (simp only [emptyNe_, emptyEq_]; done) | (simp [*]; done)), (by first | rfl | (simp; done) | (simp only [emptyNe_, emptyEq_]; done) | (simp [*]; done)), H', ⟨by have := HK1.out; have := HK2.out; have := HK3.out; have := HK4.out; omega⟩, ⟨by (with_reducible repeat (first | apply Kd.R_alloc | apply Kd.R_drewN | apply Kd.R_drew)); exact HO_4.out⟩, ⟨by (with_reducible repeat (first | apply Kd.R_alloc | apply Kd.R_drewN | apply Kd.R_drew)); exact HO_5.out⟩, ⟨by (with_reducible repeat (first | apply Kd.R_alloc | apply Kd.R_drewN | apply Kd.R_drew)); exact HO_9.out⟩, ⟨by repeat (first | (with_reducible first | exact HB.out | apply below_alloc | apply pw_below_drewN | apply below_drew1) | exact HB.out)⟩⟩
              ·rw [if_neg c25] at H
               have c25b0 : (x12_4 == x10_3) = false := beq_eq_false_iff_ne.mpr c25
               have c25b1 : (x12_4 != x10_3) = true := bne_iff_ne.mpr c25
               by_cases c27 : 0 ≤ x12_4
               ·rw [if_pos c27] at H
                have c27b0 : decide (0 ≤ x12_4) = true := decide_eq_true c27
                clear c27
                by_cases c28 : 0 ≤ x10_3
                ·rw [if_pos c28] at H
                 have c28b0 : decide (0 ≤ x10_3) = true := decide_eq_true c28
                 clear c28
                 by_cases c29 : x10_3 < (x4_2.length : Int)
                 ·rw [if_pos c29] at H
                  have c29b0 : decide (x10_3 < (x4_2.length : Int)) = true := decide_eq_true c29
                  clear c29
                  replace H := Option.bind_eq_some_iff.mp H
                  obtain ⟨t158, A300, H⟩ := H
                  replace H : (logjamref38_Serial.l3 k4 l0 x4_2 x5_2 x8_3 y153 x10_3 (!t158) (wrap64 (x12_4 + 1))) = some (r1, r2) := H
                  have A30 := Aside0.mk A300
                  clear A300
                  have H' := Aside0.mk H
                  clear H
                  try go_wp2
                  have n0_ := Aside0.mk (Kd.R_drew HO_4.out)
                  have n1_ := Aside0.mk (Kd.R_drew HO_5.out)
                  have n2_ := Aside0.mk (Kd.R_drew HO_9.out)
                  have n3_ := Aside0.mk (below_drew1 HB.out)
                  clear HO_4; clear HO_5; clear HO_9; clear HB; have HO_4 := n0_; have HO_5 := n1_; have HO_9 := n2_; have HB := n3_; clear n0_ n1_ n2_ n3_
                  have p156 : 0 ≤ (x12_4 : Int) := of_decide_eq_true (by first | (with_reducible assumption) | assumption)
                  have q156 : x12_4 < (x4_2.length : Int) := of_decide_eq_true (by first | (with_reducible assumption) | assumption)
                  obtain ⟨ad156, e156, hx156_0⟩ := Kd.at_int (Kd.R_reads' HO_4.out).2.2 x12_4 p156 q156
                  cases e156
                  replace p156 := eq_true p156
                  replace q156 := eq_true q156
                  have p157 : 0 ≤ (x10_3 : Int) := of_decide_eq_true (by first | (with_reducible assumption) | assumption)
                  have q157 : x10_3 < (x4_2.length : Int) := of_decide_eq_true (by first | (with_reducible assumption) | assumption)
                  obtain ⟨ad157, e157, hx157_0⟩ := Kd.at_int (Kd.R_reads' HO_4.out).2.2 x10_3 p157 q157
                  obtain rfl : ad156 = ad157 := (by injection e157)
                  replace p157 := eq_true p157
                  replace q157 := eq_true q157
                  refine start_ (n := 20) (S := fun w' => w'.cell? (ad156.add (x12_4).toNat) = some (.int .i64 (rd x4_2 x12_4)) ∧ w'.cell? (ad156.add (x10_3).toNat) = some (.int .i64 (rd x4_2 x10_3))) (ds := []) #[false, false, false, false, false, false, false, false, false, false, false, false, false, false, false, false, false, false, false, false] (by kernel_rfl) rfl rfl ⟨hx156_0, hx157_0⟩ (fun hHeld => ?_); refine with_tabW logjamref38_Serial.tab17 logjamref38_Serial.bits17 (fun HT_ HW_ => ?_)
                  generalize wr.drew = w31 at HO_4 HO_5 HO_9 HB hx156_0 hx157_0 hHeld ⊢
                  refine pure_ (i := 0) (N := some 60) (v := ?_) (a' := ?_) #[true, false, false, false, false, false, false, false, false, false, false, false, false, false, false, false, false, false, false, false] rfl rfl (any_of HT_.out (by kernel_rfl)) (fun _ _ _ h => h) (Or.inl ⟨by rfl, ?_⟩) ?_ ?_
                  rotate_left
                  ·intro w'
                   go_simp
                   with_reducible rfl
                  rotate_left
                  ·simp only [Act.put, List.setIfInBounds_toArray, List.set_cons_zero, List.set_cons_succ, i64_w, i32_w]
                   rfl
                  refine pure_ (i := 1) (N := some 61) (v := ?_) (a' := ?_) #[true, true, false, false, false, false, false, false, false, false, false, false, false, false, false, false, false, false, false, false] rfl rfl (any_of HT_.out (by kernel_rfl)) (fun _ _ _ h => h) (Or.inl ⟨by rfl, ?_⟩) ?_ ?_
                  rotate_left
                  ·intro w'
                   go_simp
                   with_reducible rfl
                  rotate_left
                  ·simp only [Act.put, List.setIfInBounds_toArray, List.set_cons_zero, List.set_cons_succ, i64_w, i32_w]
                   rfl
                  refine pure_ (i := 2) (N := some 62) (v := ?_) (a' := ?_) #[true, true, true, false, false, false, false, false, false, false, false, false, false, false, false, false, false, false, false, false] rfl rfl (any_of HT_.out (by kernel_rfl)) (fun _ _ _ h => h) (Or.inl ⟨by rfl, ?_⟩) ?_ ?_
                  rotate_left
                  ·intro w'
                   go_simp
                   with_reducible rfl
                  rotate_left
                  ·simp only [Act.put, List.setIfInBounds_toArray, List.set_cons_zero, List.set_cons_succ, i64_w, i32_w]
                   rfl
                  refine pure_ (i := 3) (N := some 63) (v := ?_) (a' := ?_) #[true, true, true, true, false, false, false, false, false, false, false, false, false, false, false, false, false, false, false, false] rfl rfl (any_of HT_.out (by kernel_rfl)) (fun _ _ _ h => h) (Or.inl ⟨by rfl, ?_⟩) ?_ ?_
                  rotate_left
                  ·intro w'
                   go_simp
                   with_reducible rfl
                  rotate_left
                  ·simp only [Act.put, List.setIfInBounds_toArray, List.set_cons_zero, List.set_cons_succ, i64_w, i32_w]
                   rfl
                  refine pure_ (i := 4) (N := some 64) (v := ?_) (a' := ?_) #[true, true, true, true, true, false, false, false, false, false, false, false, false, false, false, false, false, false, false, false] rfl rfl (any_of HT_.out (by kernel_rfl)) (fun _ _ _ h => h) (Or.inl ⟨by rfl, ?_⟩) ?_ ?_
                  rotate_left
                  ·intro w'
                   go_simp
                   with_reducible rfl
                  rotate_left
                  ·simp only [Act.put, List.setIfInBounds_toArray, List.set_cons_zero, List.set_cons_succ, i64_w, i32_w]
                   rfl
                  refine pure_ (i := 5) (N := some 65) (v := ?_) (a' := ?_) #[true, true, true, true, true, true, false, false, false, false, false, false, false, false, false, false, false, false, false, false] rfl rfl (any_of HT_.out (by kernel_rfl)) (fun _ _ _ h => h) (Or.inl ⟨by rfl, ?_⟩) ?_ ?_
                  rotate_left
                  ·intro w'
                   go_simp
                   with_reducible rfl
                  rotate_left
                  ·simp only [Act.put, List.setIfInBounds_toArray, List.set_cons_zero, List.set_cons_succ, i64_w, i32_w]
                   rfl
                  refine pure_ (i := 6) (N := some 66) (v := ?_) (a' := ?_) #[true, true, true, true, true, true, true, false, false, false, false, false, false, false, false, false, false, false, false, false] rfl rfl (any_of HT_.out (by kernel_rfl)) (fun _ _ _ h => h) (Or.inl ⟨by rfl, ?_⟩) ?_ ?_
                  rotate_left
                  ·intro w'
                   go_simp
                   with_reducible rfl
                  rotate_left
                  ·simp only [Act.put, List.setIfInBounds_toArray, List.set_cons_zero, List.set_cons_succ, i64_w, i32_w]
                   rfl
                  refine pure_ (i := 7) (N := some 67) (v := ?_) (a' := ?_) #[true, true, true, true, true, true, true, true, false, false, false, false, false, false, false, false, false, false, false, false] rfl rfl (any_of HT_.out (by kernel_rfl)) (fun _ _ _ h => h) (Or.inl ⟨by rfl, ?_⟩) ?_ ?_
                  rotate_left
                  ·intro w'
                   go_simp
                   with_reducible rfl
                  rotate_left
                  ·simp only [Act.put, List.setIfInBounds_toArray, List.set_cons_zero, List.set_cons_succ, i64_w, i32_w]
                   rfl
                  refine pure_ (i := 8) (N := some 68) (v := ?_) (a' := ?_) #[true, true, true, true, true, true, true, true, true, false, false, false, false, false, false, false, false, false, false, false] rfl rfl (any_of HT_.out (by kernel_rfl)) (fun _ _ _ h => h) (Or.inl ⟨by rfl, ?_⟩) ?_ ?_
                  rotate_left
                  ·intro w'
                   go_simp
                   with_reducible rfl
                  rotate_left
                  ·simp only [Act.put, List.setIfInBounds_toArray, List.set_cons_zero, List.set_cons_succ, i64_w, i32_w]
                   rfl
                  refine pure_ (i := 9) (N := some 69) (v := ?_) (a' := ?_) #[true, true, true, true, true, true, true, true, true, true, false, false, false, false, false, false, false, false, false, false] rfl rfl (any_of HT_.out (by kernel_rfl)) (fun _ _ _ h => h) (Or.inl ⟨by rfl, ?_⟩) ?_ ?_
                  rotate_left
                  ·intro w'
                   go_simp
                   with_reducible rfl
                  rotate_left
                  ·simp only [Act.put, List.setIfInBounds_toArray, List.set_cons_zero, List.set_cons_succ, i64_w, i32_w]
                   rfl
                  refine pure_ (i := 11) (N := some 71) (v := ?_) (a' := ?_) #[true, true, true, true, true, true, true, true, true, true, false, true, false, false, false, false, false, false, false, false] rfl rfl (any_of HT_.out (by kernel_rfl)) (fun _ _ _ h => h) (Or.inl ⟨by rfl, ?_⟩) ?_ ?_
                  rotate_left
                  ·intro w'
                   go_simp
                   with_reducible rfl
                  rotate_left
                  ·simp only [Act.put, List.setIfInBounds_toArray, List.set_cons_zero, List.set_cons_succ, i64_w, i32_w]
                   rfl
                  refine pure_ (i := 12) (N := some 72) (v := ?_) (a' := ?_) #[true, true, true, true, true, true, true, true, true, true, false, true, true, false, false, false, false, false, false, false] rfl rfl (any_of HT_.out (by kernel_rfl)) (fun _ _ _ h => h) (Or.inl ⟨by rfl, ?_⟩) ?_ ?_
                  rotate_left
                  ·intro w'
                   go_simp
                   with_reducible rfl
                  rotate_left
                  ·simp only [Act.put, List.setIfInBounds_toArray, List.set_cons_zero, List.set_cons_succ, i64_w, i32_w]
                   rfl
                  refine pure_ (i := 13) (N := some 73) (v := ?_) (a' := ?_) #[true, true, true, true, true, true, true, true, true, true, false, true, true, true, false, false, false, false, false, false] rfl rfl (any_of HT_.out (by kernel_rfl)) (fun _ _ _ h => h) (Or.inl ⟨by rfl, ?_⟩) ?_ ?_
                  rotate_left
                  ·intro w'
                   go_simp
                   with_reducible rfl
                  rotate_left
                  ·simp only [Act.put, List.setIfInBounds_toArray, List.set_cons_zero, List.set_cons_succ, i64_w, i32_w]
                   rfl
                  refine take_ (i := 10) (N := some 70) (v := ?_) (a' := ?_) #[true, true, true, true, true, true, true, true, true, true, true, true, true, true, false, false, false, false, false, false] rfl rfl (take_ofW HT_.out HW_.out (by kernel_rfl)) (fun _ _ _ h => h) (Or.inl ⟨by rfl, ?_⟩) hHeld ?_ ?_
                  rotate_left
                  ·rintro w' ⟨s0, s1⟩
                   go_simp
                   with_reducible rfl
                  rotate_left
                  ·simp only [Act.put, List.setIfInBounds_toArray, List.set_cons_zero, List.set_cons_succ, i64_w, i32_w]
                   rfl
                  refine take_ (i := 14) (N := some 74) (v := ?_) (a' := ?_) #[true, true, true, true, true, true, true, true, true, true, true, true, true, true, true, false, false, false, false, false] rfl rfl (take_ofW HT_.out HW_.out (by kernel_rfl)) (fun _ _ _ h => h) (Or.inl ⟨by rfl, ?_⟩) hHeld ?_ ?_
                  rotate_left
                  ·rintro w' ⟨s0, s1⟩
                   go_simp
                   with_reducible rfl
                  rotate_left
                  ·simp only [Act.put, List.setIfInBounds_toArray, List.set_cons_zero, List.set_cons_succ, i64_w, i32_w]
                   rfl
                  refine one_ (i := 15) (N := some 75) #[true, true, true, true, true, true, true, true, true, true, true, true, true, true, true, true, false, false, false, false] rfl rfl (one_of HT_.out (by kernel_rfl)) (by decide) (fun K hK => ?_)
                  refine goes_ Try.func28 (by kernel_rfl) rfl #[.slice A0 l0.length c0, .int .i64 (rd x4_2 x12_4), .int .i64 (rd x4_2 x10_3)] (by rfl) rfl rfl (by (try simp only [List.map_toArray, List.map_cons, List.map_nil]); first | done | rfl | (simp only [List.length_drop, List.length_take]; rfl)) ?_
                  with_reducible refine (logjamref38_Conflict.calls k4 _ _ l0 (rd x4_2 x12_4) (rd x4_2 x10_3) t158 _ ?side1 ?side2 A30.out).mono ?_
                  (case side1 => repeat (first | exact (Kd.C_below HR0.out HB.out) | (with_reducible refine Kd.C_alloc ?_ _) | (with_reducible refine Kd.C_drewN ?_ _) | (with_reducible refine Kd.C_drew ?_)))
                  (case side2 => exact HC0.out)
                  rintro e w32 ⟨rfl, hb⟩
                  have HS0_ := (hb.cell (World.block_lt_of_cell? _ _ (hHeld.1))).trans (hHeld.1)
                  have HS1_ := (hb.cell (World.block_lt_of_cell? _ _ (hHeld.2))).trans (hHeld.2)
                  refine ⟨_, rfl, ?_⟩
                  have n0_ := Aside0.mk (Kd.R_below (by (with_reducible repeat (first | apply Kd.R_alloc | apply Kd.R_drewN | apply Kd.R_drew)); exact HO_4.out) hb)
                  have n1_ := Aside0.mk (Kd.R_below (by (with_reducible repeat (first | apply Kd.R_alloc | apply Kd.R_drewN | apply Kd.R_drew)); exact HO_5.out) hb)
                  have n2_ := Aside0.mk (Kd.R_below (by (with_reducible repeat (first | apply Kd.R_alloc | apply Kd.R_drewN | apply Kd.R_drew)); exact HO_9.out) hb)
                  have n3_ := Aside0.mk (below_step (by repeat (first | (with_reducible first | exact HB.out | apply below_alloc | apply pw_below_drewN | apply below_drew1) | exact HB.out)) hb)
                  clear HO_4; clear HO_5; clear HO_9; clear HB; have HO_4 := n0_; have HO_5 := n1_; have HO_9 := n2_; have HB := n3_; clear n0_ n1_ n2_ n3_; (try clear hb); (try clear hb2); (try clear hk); (try clear hi)
                  refine hK.out _ _ ⟨HS0_, HS1_⟩ (fun hHeld => ?_)
                  clear hK K
                  refine norm_ (a' := ?_) ?_ ?_
                  rotate_left
                  ·show Act.put _ (some 75) _ = _
                   simp only [Act.put, List.setIfInBounds_toArray, List.set_cons_zero, List.set_cons_succ, i64_w, i32_w]
                   rfl
                  refine pure_ (i := 16) (N := some 76) (v := ?_) (a' := ?_) #[true, true, true, true, true, true, true, true, true, true, true, true, true, true, true, true, true, false, false, false] rfl rfl (any_of HT_.out (by kernel_rfl)) (fun _ _ _ h => h) (Or.inl ⟨by rfl, ?_⟩) ?_ ?_
                  rotate_left
                  ·intro w'
                   go_simp
                   with_reducible rfl
                  rotate_left
                  ·simp only [Act.put, List.setIfInBounds_toArray, List.set_cons_zero, List.set_cons_succ, i64_w, i32_w]
                   rfl
                  refine pure_ (i := 17) (N := some 77) (v := ?_) (a' := ?_) #[true, true, true, true, true, true, true, true, true, true, true, true, true, true, true, true, true, true, false, false] rfl rfl (any_of HT_.out (by kernel_rfl)) (fun _ _ _ h => h) (Or.inl ⟨by rfl, ?_⟩) ?_ ?_
                  rotate_left
                  ·intro w'
                   go_simp
                   with_reducible rfl
                  rotate_left
                  ·simp only [Act.put, List.setIfInBounds_toArray, List.set_cons_zero, List.set_cons_succ, i64_w, i32_w]
                   rfl
                  refine pure_ (i := 18) (N := some 78) (v := ?_) (a' := ?_) #[true, true, true, true, true, true, true, true, true, true, true, true, true, true, true, true, true, true, true, false] rfl rfl (any_of HT_.out (by kernel_rfl)) (fun _ _ _ h => h) (Or.inl ⟨by rfl, ?_⟩) ?_ ?_
                  rotate_left
                  ·intro w'
                   go_simp
                   with_reducible rfl
                  rotate_left
                  ·simp only [Act.put, List.setIfInBounds_toArray, List.set_cons_zero, List.set_cons_succ, i64_w, i32_w]
                   rfl
                  refine pure_ (i := 19) (N := some 11) (v := ?_) (a' := ?_) #[true, true, true, true, true, true, true, true, true, true, true, true, true, true, true, true, true, true, true, true] rfl rfl (any_of HT_.out (by kernel_rfl)) (fun _ _ _ h => h) (Or.inl ⟨by rfl, ?_⟩) ?_ ?_
                  rotate_left
                  ·intro w'
                   go_simp
                   with_reducible rfl
                  rotate_left
                  ·simp only [Act.put, List.setIfInBounds_toArray, List.set_cons_zero, List.set_cons_succ, i64_w, i32_w]
                   rfl
                  refine done_ (done_of HT_.out (by kernel_rfl)) ?_
                  try go_wp2
                  go_roundg k4
                  case measure => have := HK1.out; have := HK2.out; have := HK3.out; have := HK4.out; omega
                  case rel => exact ⟨(!t158), (wrap64 (x12_4 + 1)), (by first | rfl | (simp; done) | (simp only [emptyNe_, emptyEq_]; done) | (simp [*]; done)), (by first | rfl | (simp; done) | (simp only [emptyNe_, emptyEq_]; done) | (simp [*]; done)), H', ⟨by have := HK1.out; have := HK2.out; have := HK3.out; have := HK4.out; omega⟩, ⟨by (with_reducible repeat (first | apply Kd.R_alloc | apply Kd.R_drewN | apply Kd.R_drew)); exact HO_4.out⟩, ⟨by (with_reducible repeat (first | apply Kd.R_alloc | apply Kd.R_drewN | apply Kd.R_drew)); exact HO_5.out⟩, ⟨by (with_reducible repeat (first | apply Kd.R_alloc | apply Kd.R_drewN | apply Kd.R_drew)); exact HO_9.out⟩, ⟨by repeat (first | (with_reducible first | exact HB.out | apply below_alloc | apply pw_below_drewN | apply below_drew1) | exact HB.out)⟩⟩
                 ·rw [if_neg c29] at H
                  exact absurd H (by simp)
                ·rw [if_neg c28] at H
                 exact absurd H (by simp)
               ·rw [if_neg c27] at H
                exact absurd H (by simp)
             ·replace c24 := Bool.eq_false_iff.mpr c24
              subst c24
              have H1 : (logjamref38_Serial.l3 k4 l0 x4_2 x5_2 x8_3 y153 x10_3 false (wrap64 (x12_4 + 1))) = some (r1, r2) := by rw [if_neg (show ¬ (false = true) by decide)] at H; exact H
              clear H
              have H := H1
              clear H1
              have H' := Aside0.mk H
              clear H
              try go_wp2
              have n0_ := Aside0.mk (Kd.R_drew HO_4.out)
              have n1_ := Aside0.mk (Kd.R_drew HO_5.out)
              have n2_ := Aside0.mk (Kd.R_drew HO_9.out)
              have n3_ := Aside0.mk (below_drew1 HB.out)
              clear HO_4; clear HO_5; clear HO_9; clear HB; have HO_4 := n0_; have HO_5 := n1_; have HO_9 := n2_; have HB := n3_; clear n0_ n1_ n2_ n3_
              refine start_ (n := 20) (S := fun w' => True) (ds := []) #[false, false, false, false, false, false, false, false, false, false, false, false, false, false, false, false, false, false, false, false] (by kernel_rfl) rfl rfl trivial (fun hHeld => ?_); refine with_tabW logjamref38_Serial.tab17 logjamref38_Serial.bits17 (fun HT_ HW_ => ?_)
              generalize wr.drew = w33 at HO_4 HO_5 HO_9 HB hHeld ⊢
              refine pure_ (i := 0) (N := some 60) (v := ?_) (a' := ?_) #[true, false, false, false, false, false, false, false, false, false, false, false, false, false, false, false, false, false, false, false] rfl rfl (any_of HT_.out (by kernel_rfl)) (fun _ _ _ h => h) (Or.inl ⟨by rfl, ?_⟩) ?_ ?_
              rotate_left
              ·intro w'
               go_simp
               with_reducible rfl
              rotate_left
              ·simp only [Act.put, List.setIfInBounds_toArray, List.set_cons_zero, List.set_cons_succ, i64_w, i32_w]
               rfl
              refine pure_ (i := 1) (N := some 61) (v := ?_) (a' := ?_) #[true, true, false, false, false, false, false, false, false, false, false, false, false, false, false, false, false, false, false, false] rfl rfl (any_of HT_.out (by kernel_rfl)) (fun _ _ _ h => h) (Or.inl ⟨by rfl, ?_⟩) ?_ ?_
              rotate_left
              ·intro w'
               go_simp
               with_reducible rfl
              rotate_left
              ·simp only [Act.put, List.setIfInBounds_toArray, List.set_cons_zero, List.set_cons_succ, i64_w, i32_w]
               rfl
              refine pure_ (i := 2) (N := some 62) (v := undef) (a' := ?_) #[true, true, true, false, false, false, false, false, false, false, false, false, false, false, false, false, false, false, false, false] rfl rfl (any_of HT_.out (by kernel_rfl)) (fun _ _ _ h => h) (Or.inr ⟨by rfl, rfl⟩) ?_ ?_
              rotate_left
              ·simp only [Act.put, List.setIfInBounds_toArray, List.set_cons_zero, List.set_cons_succ, i64_w, i32_w]
               rfl
              refine pure_ (i := 3) (N := some 63) (v := undef) (a' := ?_) #[true, true, true, true, false, false, false, false, false, false, false, false, false, false, false, false, false, false, false, false] rfl rfl (any_of HT_.out (by kernel_rfl)) (fun _ _ _ h => h) (Or.inr ⟨by rfl, rfl⟩) ?_ ?_
              rotate_left
              ·simp only [Act.put, List.setIfInBounds_toArray, List.set_cons_zero, List.set_cons_succ, i64_w, i32_w]
               rfl
              refine pure_ (i := 4) (N := some 64) (v := undef) (a' := ?_) #[true, true, true, true, true, false, false, false, false, false, false, false, false, false, false, false, false, false, false, false] rfl rfl (any_of HT_.out (by kernel_rfl)) (fun _ _ _ h => h) (Or.inr ⟨by rfl, rfl⟩) ?_ ?_
              rotate_left
              ·simp only [Act.put, List.setIfInBounds_toArray, List.set_cons_zero, List.set_cons_succ, i64_w, i32_w]
               rfl
              refine pure_ (i := 5) (N := some 65) (v := undef) (a' := ?_) #[true, true, true, true, true, true, false, false, false, false, false, false, false, false, false, false, false, false, false, false] rfl rfl (any_of HT_.out (by kernel_rfl)) (fun _ _ _ h => h) (Or.inr ⟨by rfl, rfl⟩) ?_ ?_
              rotate_left
              ·simp only [Act.put, List.setIfInBounds_toArray, List.set_cons_zero, List.set_cons_succ, i64_w, i32_w]
               rfl
              refine pure_ (i := 6) (N := some 66) (v := undef) (a' := ?_) #[true, true, true, true, true, true, true, false, false, false, false, false, false, false, false, false, false, false, false, false] rfl rfl (any_of HT_.out (by kernel_rfl)) (fun _ _ _ h => h) (Or.inr ⟨by rfl, rfl⟩) ?_ ?_
              rotate_left
              ·simp only [Act.put, List.setIfInBounds_toArray, List.set_cons_zero, List.set_cons_succ, i64_w, i32_w]
               rfl
              refine pure_ (i := 7) (N := some 67) (v := undef) (a' := ?_) #[true, true, true, true, true, true, true, true, false, false, false, false, false, false, false, false, false, false, false, false] rfl rfl (any_of HT_.out (by kernel_rfl)) (fun _ _ _ h => h) (Or.inr ⟨by rfl, rfl⟩) ?_ ?_
              rotate_left
              ·simp only [Act.put, List.setIfInBounds_toArray, List.set_cons_zero, List.set_cons_succ, i64_w, i32_w]
               rfl
              refine pure_ (i := 8) (N := some 68) (v := undef) (a' := ?_) #[true, true, true, true, true, true, true, true, true, false, false, false, false, false, false, false, false, false, false, false] rfl rfl (any_of HT_.out (by kernel_rfl)) (fun _ _ _ h => h) (Or.inr ⟨by rfl, rfl⟩) ?_ ?_
              rotate_left
              ·simp only [Act.put, List.setIfInBounds_toArray, List.set_cons_zero, List.set_cons_succ, i64_w, i32_w]
               rfl
              refine pure_ (i := 9) (N := some 69) (v := undef) (a' := ?_) #[true, true, true, true, true, true, true, true, true, true, false, false, false, false, false, false, false, false, false, false] rfl rfl (any_of HT_.out (by kernel_rfl)) (fun _ _ _ h => h) (Or.inr ⟨by rfl, rfl⟩) ?_ ?_
              rotate_left
              ·simp only [Act.put, List.setIfInBounds_toArray, List.set_cons_zero, List.set_cons_succ, i64_w, i32_w]
               rfl
              refine pure_ (i := 10) (N := some 70) (v := undef) (a' := ?_) #[true, true, true, true, true, true, true, true, true, true, true, false, false, false, false, false, false, false, false, false] rfl rfl (any_of HT_.out (by kernel_rfl)) (fun _ _ _ h => h) (Or.inr ⟨by rfl, rfl⟩) ?_ ?_
              rotate_left
              ·simp only [Act.put, List.setIfInBounds_toArray, List.set_cons_zero, List.set_cons_succ, i64_w, i32_w]
               rfl
              refine pure_ (i := 11) (N := some 71) (v := undef) (a' := ?_) #[true, true, true, true, true, true, true, true, true, true, true, true, false, false, false, false, false, false, false, false] rfl rfl (any_of HT_.out (by kernel_rfl)) (fun _ _ _ h => h) (Or.inr ⟨by rfl, rfl⟩) ?_ ?_
              rotate_left
              ·simp only [Act.put, List.setIfInBounds_toArray, List.set_cons_zero, List.set_cons_succ, i64_w, i32_w]
               rfl
              refine pure_ (i := 12) (N := some 72) (v := undef) (a' := ?_) #[true, true, true, true, true, true, true, true, true, true, true, true, true, false, false, false, false, false, false, false] rfl rfl (any_of HT_.out (by kernel_rfl)) (fun _ _ _ h => h) (Or.inr ⟨by rfl, rfl⟩) ?_ ?_
              rotate_left
              ·simp only [Act.put, List.setIfInBounds_toArray, List.set_cons_zero, List.set_cons_succ, i64_w, i32_w]
               rfl
              refine pure_ (i := 13) (N := some 73) (v := undef) (a' := ?_) #[true, true, true, true, true, true, true, true, true, true, true, true, true, true, false, false, false, false, false, false] rfl rfl (any_of HT_.out (by kernel_rfl)) (fun _ _ _ h => h) (Or.inr ⟨by rfl, rfl⟩) ?_ ?_
              rotate_left
              ·simp only [Act.put, List.setIfInBounds_toArray, List.set_cons_zero, List.set_cons_succ, i64_w, i32_w]
               rfl
              refine pure_ (i := 14) (N := some 74) (v := undef) (a' := ?_) #[true, true, true, true, true, true, true, true, true, true, true, true, true, true, true, false, false, false, false, false] rfl rfl (any_of HT_.out (by kernel_rfl)) (fun _ _ _ h => h) (Or.inr ⟨by rfl, rfl⟩) ?_ ?_
              rotate_left
              ·simp only [Act.put, List.setIfInBounds_toArray, List.set_cons_zero, List.set_cons_succ, i64_w, i32_w]
               rfl
              refine pure_ (i := 15) (N := some 75) (v := undef) (a' := ?_) #[true, true, true, true, true, true, true, true, true, true, true, true, true, true, true, true, false, false, false, false] rfl rfl (any_of HT_.out (by kernel_rfl)) (fun _ _ _ h => h) (Or.inr ⟨by rfl, rfl⟩) ?_ ?_
              rotate_left
              ·simp only [Act.put, List.setIfInBounds_toArray, List.set_cons_zero, List.set_cons_succ, i64_w, i32_w]
               rfl
              refine pure_ (i := 16) (N := some 76) (v := undef) (a' := ?_) #[true, true, true, true, true, true, true, true, true, true, true, true, true, true, true, true, true, false, false, false] rfl rfl (any_of HT_.out (by kernel_rfl)) (fun _ _ _ h => h) (Or.inr ⟨by rfl, rfl⟩) ?_ ?_
              rotate_left
              ·simp only [Act.put, List.setIfInBounds_toArray, List.set_cons_zero, List.set_cons_succ, i64_w, i32_w]
               rfl
              refine pure_ (i := 17) (N := some 77) (v := undef) (a' := ?_) #[true, true, true, true, true, true, true, true, true, true, true, true, true, true, true, true, true, true, false, false] rfl rfl (any_of HT_.out (by kernel_rfl)) (fun _ _ _ h => h) (Or.inr ⟨by rfl, rfl⟩) ?_ ?_
              rotate_left
              ·simp only [Act.put, List.setIfInBounds_toArray, List.set_cons_zero, List.set_cons_succ, i64_w, i32_w]
               rfl
              refine pure_ (i := 18) (N := some 78) (v := ?_) (a' := ?_) #[true, true, true, true, true, true, true, true, true, true, true, true, true, true, true, true, true, true, true, false] rfl rfl (any_of HT_.out (by kernel_rfl)) (fun _ _ _ h => h) (Or.inl ⟨by rfl, ?_⟩) ?_ ?_
              rotate_left
              ·intro w'
               go_simp
               with_reducible rfl
              rotate_left
              ·simp only [Act.put, List.setIfInBounds_toArray, List.set_cons_zero, List.set_cons_succ, i64_w, i32_w]
               rfl
              refine pure_ (i := 19) (N := some 11) (v := ?_) (a' := ?_) #[true, true, true, true, true, true, true, true, true, true, true, true, true, true, true, true, true, true, true, true] rfl rfl (any_of HT_.out (by kernel_rfl)) (fun _ _ _ h => h) (Or.inl ⟨by rfl, ?_⟩) ?_ ?_
              rotate_left
              ·intro w'
               go_simp
               with_reducible rfl
              rotate_left
              ·simp only [Act.put, List.setIfInBounds_toArray, List.set_cons_zero, List.set_cons_succ, i64_w, i32_w]
               rfl
              refine done_ (done_of HT_.out (by kernel_rfl)) ?_
              try go_wp2
              go_roundg k4
              case measure => have := HK1.out; have := HK2.out; have := HK3.out; have := HK4.out; omega
              case rel => exact ⟨(false), (wrap64 (x12_4 + 1)), (by first | rfl | (simp; done) | (simp only [emptyNe_, emptyEq_]; done) | (simp [*]; done)), (by first | rfl | (simp; done) | (simp only [emptyNe_, emptyEq_]; done) | (simp [*]; done)), H', ⟨by have := HK1.out; have := HK2.out; have := HK3.out; have := HK4.out; omega⟩, ⟨by (with_reducible repeat (first | apply Kd.R_alloc | apply Kd.R_drewN | apply Kd.R_drew)); exact HO_4.out⟩, ⟨by (with_reducible repeat (first | apply Kd.R_alloc | apply Kd.R_drewN | apply Kd.R_drew)); exact HO_5.out⟩, ⟨by (with_reducible repeat (first | apply Kd.R_alloc | apply Kd.R_drewN | apply Kd.R_drew)); exact HO_9.out⟩, ⟨by repeat (first | (with_reducible first | exact HB.out | apply below_alloc | apply pw_below_drewN | apply below_drew1) | exact HB.out)⟩⟩
            ·rw [if_neg c23] at H
             have c23b0 : decide (x12_4 < (x4_2.length : Int)) = false := decide_eq_false c23
             clear c23
             by_cases c34 : x11_4 = true
             ·subst c34
              have H1 : (if x8_3 = 0 then (if 0 ≤ x10_3 then (if x10_3 < (x4_2.length : Int) then (logjamref38_Serial.l2 k4 l0 x4_2 x5_2 (rd x4_2 x10_3) y153 (wrap64 (x10_3 + 1))) else (none)) else (none)) else (if 0 ≤ x10_3 then (if x10_3 < (x4_2.length : Int) then (if (rd x4_2 x10_3) < x8_3 then (logjamref38_Serial.l2 k4 l0 x4_2 x5_2 (rd x4_2 x10_3) y153 (wrap64 (x10_3 + 1))) else (logjamref38_Serial.l2 k4 l0 x4_2 x5_2 x8_3 y153 (wrap64 (x10_3 + 1)))) else (none)) else (none))) = some (r1, r2) := by rw [if_pos rfl] at H; exact H
              clear H
              have H := H1
              clear H1
              by_cases c35 : x8_3 = 0
              ·rw [if_pos c35] at H
               have c35b0 : (x8_3 == 0) = true := beq_iff_eq.mpr c35
               have c35b1 : (x8_3 != 0) = false := bne_eq_false_iff_eq.mpr c35
               clear c35
               by_cases c36 : 0 ≤ x10_3
               ·rw [if_pos c36] at H
                have c36b0 : decide (0 ≤ x10_3) = true := decide_eq_true c36
                clear c36
                by_cases c37 : x10_3 < (x4_2.length : Int)
                ·rw [if_pos c37] at H
                 have c37b0 : decide (x10_3 < (x4_2.length : Int)) = true := decide_eq_true c37
                 clear c37
                 have H' := Aside0.mk H
                 clear H
                 have p160 : 0 ≤ (x10_3 : Int) := of_decide_eq_true (by first | (with_reducible assumption) | assumption)
                 have q160 : x10_3 < (x4_2.length : Int) := of_decide_eq_true (by first | (with_reducible assumption) | assumption)
                 obtain ⟨ad160, e160, hx160_0⟩ := Kd.at_int (Kd.R_reads' HO_4.out).2.2 x10_3 p160 q160
                 cases e160
                 replace p160 := eq_true p160
                 replace q160 := eq_true q160
                 go_wp2
                 go_roundg k4
                 case measure => have := HK1.out; have := HK2.out; have := HK3.out; have := HK4.out; omega
                 case rel => exact ⟨(rd x4_2 x10_3), (wrap64 (x10_3 + 1)), (by first | rfl | (simp; done) | (simp only [emptyNe_, emptyEq_]; done) | (simp [*]; done)), (by first | rfl | (simp; done) | (simp only [emptyNe_, emptyEq_]; done) | (simp [*]; done)), H', ⟨by have := HK1.out; have := HK2.out; have := HK3.out; have := HK4.out; omega⟩, ⟨by (with_reducible repeat (first | apply Kd.R_alloc | apply Kd.R_drewN | apply Kd.R_drew)); exact HO_4.out⟩, ⟨by (with_reducible repeat (first | apply Kd.R_alloc | apply Kd.R_drewN | apply Kd.R_drew)); exact HO_5.out⟩, ⟨by (with_reducible repeat (first | apply Kd.R_alloc | apply Kd.R_drewN | apply Kd.R_drew)); exact HO_9.out⟩, ⟨by repeat (first | (with_reducible first | exact HB.out | apply below_alloc | apply pw_below_drewN | apply below_drew1) | exact HB.out)⟩⟩
                ·rw [if_neg c37] at H
                 exact absurd H (by simp)
               ·rw [if_neg c36] at H
                exact absurd H (by simp)
              ·rw [if_neg c35] at H
               have c35b0 : (x8_3 == 0) = false := beq_eq_false_iff_ne.mpr c35
               have c35b1 : (x8_3 != 0) = true := bne_iff_ne.mpr c35
               by_cases c38 : 0 ≤ x10_3
               ·rw [if_pos c38] at H
                have c38b0 : decide (0 ≤ x10_3) = true := decide_eq_true c38
                clear c38
                by_cases c39 : x10_3 < (x4_2.length : Int)
                ·rw [if_pos c39] at H
                 have c39b0 : decide (x10_3 < (x4_2.length : Int)) = true := decide_eq_true c39
                 clear c39
                 by_cases c40 : (rd x4_2 x10_3) < x8_3
                 ·rw [if_pos c40] at H
                  have c40b0 : decide ((rd x4_2 x10_3) < x8_3) = true := decide_eq_true c40
                  clear c40
                  have H' := Aside0.mk H
                  clear H
                  have p159 : 0 ≤ (x10_3 : Int) := of_decide_eq_true (by first | (with_reducible assumption) | assumption)
                  have q159 : x10_3 < (x4_2.length : Int) := of_decide_eq_true (by first | (with_reducible assumption) | assumption)
                  obtain ⟨ad159, e159, hx159_0⟩ := Kd.at_int (Kd.R_reads' HO_4.out).2.2 x10_3 p159 q159
                  cases e159
                  replace p159 := eq_true p159
                  replace q159 := eq_true q159
                  have p161 : 0 ≤ (x10_3 : Int) := of_decide_eq_true (by first | (with_reducible assumption) | assumption)
                  have q161 : x10_3 < (x4_2.length : Int) := of_decide_eq_true (by first | (with_reducible assumption) | assumption)
                  obtain ⟨ad161, e161, hx161_0⟩ := Kd.at_int (Kd.R_reads' HO_4.out).2.2 x10_3 p161 q161
                  obtain rfl : ad159 = ad161 := (by injection e161)
                  replace p161 := eq_true p161
                  replace q161 := eq_true q161
                  go_wp2
                  go_roundg k4
                  case measure => have := HK1.out; have := HK2.out; have := HK3.out; have := HK4.out; omega
                  case rel => exact ⟨(rd x4_2 x10_3), (wrap64 (x10_3 + 1)), (by first | rfl | (simp; done) | (simp only [emptyNe_, emptyEq_]; done) | (simp [*]; done)), (by first | rfl | (simp; done) | (simp only [emptyNe_, emptyEq_]; done) | (simp [*]; done)), H', ⟨by have := HK1.out; have := HK2.out; have := HK3.out; have := HK4.out; omega⟩, ⟨by (with_reducible repeat (first | apply Kd.R_alloc | apply Kd.R_drewN | apply Kd.R_drew)); exact HO_4.out⟩, ⟨by (with_reducible repeat (first | apply Kd.R_alloc | apply Kd.R_drewN | apply Kd.R_drew)); exact HO_5.out⟩, ⟨by (with_reducible repeat (first | apply Kd.R_alloc | apply Kd.R_drewN | apply Kd.R_drew)); exact HO_9.out⟩, ⟨by repeat (first | (with_reducible first | exact HB.out | apply below_alloc | apply pw_below_drewN | apply below_drew1) | exact HB.out)⟩⟩
                 ·rw [if_neg c40] at H
                  have c40b0 : decide ((rd x4_2 x10_3) < x8_3) = false := decide_eq_false c40
                  clear c40
                  have H' := Aside0.mk H
                  clear H
                  have p159 : 0 ≤ (x10_3 : Int) := of_decide_eq_true (by first | (with_reducible assumption) | assumption)
                  have q159 : x10_3 < (x4_2.length : Int) := of_decide_eq_true (by first | (with_reducible assumption) | assumption)
                  obtain ⟨ad159, e159, hx159_0⟩ := Kd.at_int (Kd.R_reads' HO_4.out).2.2 x10_3 p159 q159
                  cases e159
                  replace p159 := eq_true p159
                  replace q159 := eq_true q159
                  go_wp2
                  go_roundg k4
                  case measure => have := HK1.out; have := HK2.out; have := HK3.out; have := HK4.out; omega
                  case rel => exact ⟨(x8_3), (wrap64 (x10_3 + 1)), (by first | rfl | (simp; done) | (simp only [emptyNe_, emptyEq_]; done) | (simp [*]; done)), (by first | rfl | (simp; done) | (simp only [emptyNe_, emptyEq_]; done) | (simp [*]; done)), H', ⟨by have := HK1.out; have := HK2.out; have := HK3.out; have := HK4.out; omega⟩, ⟨by (with_reducible repeat (first | apply Kd.R_alloc | apply Kd.R_drewN | apply Kd.R_drew)); exact HO_4.out⟩, ⟨by (with_reducible repeat (first | apply Kd.R_alloc | apply Kd.R_drewN | apply Kd.R_drew)); exact HO_5.out⟩, ⟨by (with_reducible repeat (first | apply Kd.R_alloc | apply Kd.R_drewN | apply Kd.R_drew)); exact HO_9.out⟩, ⟨by repeat (first | (with_reducible first | exact HB.out | apply below_alloc | apply pw_below_drewN | apply below_drew1) | exact HB.out)⟩⟩
                ·rw [if_neg c39] at H
                 exact absurd H (by simp)
               ·rw [if_neg c38] at H
                exact absurd H (by simp)
             ·replace c34 := Bool.eq_false_iff.mpr c34
              subst c34
              have H1 : (logjamref38_Serial.l2 k4 l0 x4_2 x5_2 x8_3 y153 (wrap64 (x10_3 + 1))) = some (r1, r2) := by rw [if_neg (show ¬ (false = true) by decide)] at H; exact H
              clear H
              have H := H1
              clear H1
              have H' := Aside0.mk H
              clear H
              go_wp2
              go_roundg k4
              case measure => have := HK1.out; have := HK2.out; have := HK3.out; have := HK4.out; omega
              case rel => exact ⟨(x8_3), (wrap64 (x10_3 + 1)), (by first | rfl | (simp; done) | (simp only [emptyNe_, emptyEq_]; done) | (simp [*]; done)), (by first | rfl | (simp; done) | (simp only [emptyNe_, emptyEq_]; done) | (simp [*]; done)), H', ⟨by have := HK1.out; have := HK2.out; have := HK3.out; have := HK4.out; omega⟩, ⟨by (with_reducible repeat (first | apply Kd.R_alloc | apply Kd.R_drewN | apply Kd.R_drew)); exact HO_4.out⟩, ⟨by (with_reducible repeat (first | apply Kd.R_alloc | apply Kd.R_drewN | apply Kd.R_drew)); exact HO_5.out⟩, ⟨by (with_reducible repeat (first | apply Kd.R_alloc | apply Kd.R_drewN | apply Kd.R_drew)); exact HO_9.out⟩, ⟨by repeat (first | (with_reducible first | exact HB.out | apply below_alloc | apply pw_below_drewN | apply below_drew1) | exact HB.out)⟩⟩
         ·rw [if_neg c22] at H
          have c22b0 : decide (x10_3 < (x4_2.length : Int)) = false := decide_eq_false c22
          clear c22
          by_cases c41 : x8_3 = 0
          ·rw [if_pos c41] at H
           have c41b0 : (x8_3 == 0) = true := beq_iff_eq.mpr c41
           have c41b1 : (x8_3 != 0) = false := bne_eq_false_iff_eq.mpr c41
           clear c41
           simp only [Option.some.injEq, Prod.mk.injEq] at H
           obtain ⟨rfl, rfl⟩ := H
           go_wp2
           go_ret2
           exact ⟨_, by first | rfl | (simp [errW_none, errW_some] <;> rfl) | (simp [*, errW_none, errW_some] <;> rfl), by (with_reducible repeat (first | apply Kd.R_alloc | apply Kd.R_drewN | apply Kd.R_drew)); exact Kd.R_mono HO_5.out (fun _ hk => trivial), by repeat (first | (with_reducible first | exact HB.out | apply below_alloc | apply pw_below_drewN | apply below_drew1) | exact HB.out)⟩
          ·rw [if_neg c41] at H
           have c41b0 : (x8_3 == 0) = false := beq_eq_false_iff_ne.mpr c41
           have c41b1 : (x8_3 != 0) = true := bne_iff_ne.mpr c41
           have H' := Aside0.mk H
           clear H
           go_wp2
           go_loopg [9, 13] k3 (fun kq v9 v13 w' => ∃ (x9_4 : List Int) (x13_4 : Int), v13 = .int .i64 x13_4 ∧ Aside0 (logjamref38_Serial.l4 kq l0 x4_2 x5_2 x8_3 x9_4 x13_4 = some (r1, r2)) ∧ Aside0 (kq ≤ k3) ∧ Aside0 (Kd.R (Kd.int .i64) 3 w' w.heap.size (fun k_ => some k_ ≠ (u5 : Value).ownBlock ∧ some k_ ≠ (v9 : Value).ownBlock) (.slice Ao19 x4_2.length co19) x4_2) ∧ Aside0 (Kd.R (Kd.int .i64) 3 w' w.heap.size (fun k_ => some k_ ≠ ((.slice Ao19 x4_2.length co19) : Value).ownBlock ∧ some k_ ≠ (v9 : Value).ownBlock) u5 x5_2) ∧ Aside0 (Kd.R (Kd.int .i64) 3 w' w.heap.size (fun k_ => some k_ ≠ ((.slice Ao19 x4_2.length co19) : Value).ownBlock ∧ some k_ ≠ (u5 : Value).ownBlock) v9 x9_4) ∧ Aside0 (Below w.heap.size w w'))
           case atStart => exact ⟨(y153), (0), (by first | rfl | (simp; done) | (simp only [emptyNe_, emptyEq_]; done) | (simp [*]; done)), H', ⟨Nat.le_refl _⟩, ⟨by (with_reducible repeat (first | apply Kd.R_alloc | apply Kd.R_drewN | apply Kd.R_drew)); exact HO_4.out⟩, ⟨by (with_reducible repeat (first | apply Kd.R_alloc | apply Kd.R_drewN | apply Kd.R_drew)); exact HO_5.out⟩, ⟨by (with_reducible repeat (first | apply Kd.R_alloc | apply Kd.R_drewN | apply Kd.R_drew)); exact HO_9.out⟩, ⟨by repeat (first | (with_reducible first | exact HB.out | apply below_alloc | apply pw_below_drewN | apply below_drew1) | exact HB.out)⟩⟩
           case round =>
            clear H'; try clear p1; try clear q1; try clear hx1; try clear c2; try clear p2; try clear c3; try clear c4; try clear p6; try clear p15; try clear q15; try clear hx15; try clear p16; try clear q16; try clear hx16; try clear c22; try clear c22b0; try clear c23; try clear c23b0; try clear c24; try clear c25; try clear c25b0; try clear c25b1; try clear c27; try clear c27b0; try clear c28; try clear c28b0; try clear c29; try clear c29b0; try clear c34; try clear c35; try clear c35b0; try clear c35b1; try clear c36; try clear c36b0; try clear c37; try clear c37b0; try clear c38; try clear c38b0; try clear c39; try clear c39b0; try clear c40; try clear c40b0; try clear c41; try clear c41b0; try clear c41b1; try clear hx156_0; try clear hx157_0; try clear hx159_0; try clear hx160_0; try clear hx161_0; try clear p156; try clear p157; try clear p159; try clear p160; try clear p161; try clear q156; try clear q157; try clear q159; try clear q160; try clear q161
            obtain ⟨x9_4, x13_4, rfl, HA, HK4, HO_4, HO_5, HO_9, HB⟩ := hrel
            cases gk with
            | zero => exact absurd HA.out (by simp [logjamref38_Serial.l4])
            | succ k4 =>
             have H := HA.out
             clear HA
             simp only [logjamref38_Serial.l4] at H
             by_cases c42 : x13_4 < (x4_2.length : Int)
             ·rw [if_pos c42] at H
              have c42b0 : decide (x13_4 < (x4_2.length : Int)) = true := decide_eq_true c42
              clear c42
              by_cases c43 : 0 ≤ x13_4
              ·rw [if_pos c43] at H
               have c43b0 : decide (0 ≤ x13_4) = true := decide_eq_true c43
               clear c43
               by_cases c44 : (rd x4_2 x13_4) = x8_3
               ·rw [if_pos c44] at H
                have c44b0 : ((rd x4_2 x13_4) == x8_3) = true := beq_iff_eq.mpr c44
                have c44b1 : ((rd x4_2 x13_4) != x8_3) = false := bne_eq_false_iff_eq.mpr c44
                clear c44
                have H' := Aside0.mk H
                clear H
                have p162 : 0 ≤ (x13_4 : Int) := of_decide_eq_true (by first | (with_reducible assumption) | assumption)
                have q162 : x13_4 < (x4_2.length : Int) := of_decide_eq_true (by first | (with_reducible assumption) | assumption)
                obtain ⟨ad162, e162, hx162_0⟩ := Kd.at_int (Kd.R_reads' HO_4.out).2.2 x13_4 p162 q162
                cases e162
                replace p162 := eq_true p162
                replace q162 := eq_true q162
                go_wp2
                go_roundg k4
                case measure => have := HK1.out; have := HK2.out; have := HK3.out; have := HK4.out; omega
                case rel => exact ⟨(x9_4), (wrap64 (x13_4 + 1)), (by first | rfl | (simp; done) | (simp only [emptyNe_, emptyEq_]; done) | (simp [*]; done)), H', ⟨by have := HK1.out; have := HK2.out; have := HK3.out; have := HK4.out; omega⟩, ⟨by (with_reducible repeat (first | apply Kd.R_alloc | apply Kd.R_drewN | apply Kd.R_drew)); exact HO_4.out⟩, ⟨by (with_reducible repeat (first | apply Kd.R_alloc | apply Kd.R_drewN | apply Kd.R_drew)); exact HO_5.out⟩, ⟨by (with_reducible repeat (first | apply Kd.R_alloc | apply Kd.R_drewN | apply Kd.R_drew)); exact HO_9.out⟩, ⟨by repeat (first | (with_reducible first | exact HB.out | apply below_alloc | apply pw_below_drewN | apply below_drew1) | exact HB.out)⟩⟩
               ·rw [if_neg c44] at H
                have c44b0 : ((rd x4_2 x13_4) == x8_3) = false := beq_eq_false_iff_ne.mpr c44
                have c44b1 : ((rd x4_2 x13_4) != x8_3) = true := bne_iff_ne.mpr c44
                by_cases c45 : x9_4.length < 17592186044416
                ·rw [if_pos c45] at H
                 have LMc45 := Aside0.mk c45
                 clear c45
                 obtain ⟨y164, hy164⟩ : ∃ y_ : List Int, y_ = (x9_4 ++ [rd x4_2 x13_4]) := ⟨_, rfl⟩
                 replace H : (logjamref38_Serial.l4 k4 l0 x4_2 x5_2 x8_3 y164 (wrap64 (x13_4 + 1))) = some (r1, r2) := by first | (rw [hy164]; with_reducible exact H) | (have H2_ := (Option.bind_some _ _).symm.trans H; rw [hy164]; with_reducible exact H2_) | (have H2_ := (Option.bind_some _ _).symm.trans H; with_reducible exact H2_) | with_reducible exact H | (rw [hy164]; exact H) | exact H
                 have Ny164 := Aside0.mk hy164
                 clear hy164
                 have H' := Aside0.mk H
                 clear H
                 have p162 : 0 ≤ (x13_4 : Int) := of_decide_eq_true (by first | (with_reducible assumption) | assumption)
                 have q162 : x13_4 < (x4_2.length : Int) := of_decide_eq_true (by first | (with_reducible assumption) | assumption)
                 obtain ⟨ad162, e162, hx162_0⟩ := Kd.at_int (Kd.R_reads' HO_4.out).2.2 x13_4 p162 q162
                 cases e162
                 replace p162 := eq_true p162
                 replace q162 := eq_true q162
                 have p163 : 0 ≤ (x13_4 : Int) := of_decide_eq_true (by first | (with_reducible assumption) | assumption)
                 have q163 : x13_4 < (x4_2.length : Int) := of_decide_eq_true (by first | (with_reducible assumption) | assumption)
                 obtain ⟨ad163, e163, hx163_0⟩ := Kd.at_int (Kd.R_reads' HO_4.out).2.2 x13_4 p163 q163
                 obtain rfl : ad162 = ad163 := (by injection e163)
                 replace p163 := eq_true p163
                 replace q163 := eq_true q163
                 go_wp2_with (first | ((with_reducible refine gate_builtin (b := .append) (xs := #[.tmp 111, .tmp 116]) rfl ?_); at_builtin; refine Kd.R_append (Kd.int .i64) (w0 := w) w.heap.size rfl (.tmp 111) (.tmp 116) 26 3 (.int .i64 0) 8 rfl Try.underlying26 info3 rfl (by decide) (by omega) u9 x9_4 (rd x4_2 x13_4) [.int .i64 (rd x4_2 x13_4)] (fun k_ => some k_ ≠ (.slice (some ad162) x4_2.length co19 : Value).ownBlock ∧ some k_ ≠ (u5 : Value).ownBlock) (fun _ => False) rfl rfl ?aP (fun _ hk => hk.elim) ?aF ?aO ?aB ?aS ?aL ?_; (case aP => exact rfl); (case aB => exact (by repeat (first | (with_reducible first | exact HB.out | apply below_alloc | apply pw_below_drewN | apply below_drew1) | exact HB.out))); (case aF => exact (fun k_ hk => ⟨Kd.fresh' (Kd.R_lt (by (with_reducible repeat (first | apply Kd.R_alloc | apply Kd.R_drewN | apply Kd.R_drew)); exact HO_4.out)) k_ hk, Kd.fresh' (Kd.R_lt (by (with_reducible repeat (first | apply Kd.R_alloc | apply Kd.R_drewN | apply Kd.R_drew)); exact HO_5.out)) k_ hk⟩)); (case aO => exact (by (with_reducible repeat (first | apply Kd.R_alloc | apply Kd.R_drewN | apply Kd.R_drew)); exact HO_9.out)); (case aS => exact (below_size (by repeat (first | (with_reducible first | exact HB.out | apply below_alloc | apply pw_below_drewN | apply below_drew1) | exact HB.out)))); (case aL => have := LMc45.out; omega); intro v165 w46 ho hb hg hat; rw [← Ny164.out] at ho; have n0_ := Aside0.mk (Kd.R_after (ok := (fun k_ => some k_ ≠ (u5 : Value).ownBlock)) (by (with_reducible repeat (first | apply Kd.R_alloc | apply Kd.R_drewN | apply Kd.R_drew)); exact HO_4.out) hg hat); have n1_ := Aside0.mk (Kd.R_after (ok := (fun k_ => some k_ ≠ (.slice (some ad162) x4_2.length co19 : Value).ownBlock)) (by (with_reducible repeat (first | apply Kd.R_alloc | apply Kd.R_drewN | apply Kd.R_drew)); exact HO_5.out) hg hat); have n2_ := Aside0.mk (hb); have n3_ := Aside0.mk (ho); clear HO_4; clear HO_5; clear HB; clear HO_9; have HO_4 := n0_; have HO_5 := n1_; have HB := n2_; have HO166 := n3_; clear n0_ n1_ n2_ n3_; clear ho hb hg hat))
                 go_roundg k4
                 case measure => have := HK1.out; have := HK2.out; have := HK3.out; have := HK4.out; omega
                 case rel => exact ⟨(y164), (wrap64 (x13_4 + 1)), (by first | rfl | (simp; done) | (simp only [emptyNe_, emptyEq_]; done) | (simp [*]; done)), H', ⟨by have := HK1.out; have := HK2.out; have := HK3.out; have := HK4.out; omega⟩, ⟨by (with_reducible repeat (first | apply Kd.R_alloc | apply Kd.R_drewN | apply Kd.R_drew)); exact HO_4.out⟩, ⟨by (with_reducible repeat (first | apply Kd.R_alloc | apply Kd.R_drewN | apply Kd.R_drew)); exact HO_5.out⟩, ⟨by (with_reducible repeat (first | apply Kd.R_alloc | apply Kd.R_drewN | apply Kd.R_drew)); exact HO166.out⟩, ⟨by repeat (first | (with_reducible first | exact HB.out | apply below_alloc | apply pw_below_drewN | apply below_drew1) | exact HB.out)⟩⟩
                ·rw [if_neg c45] at H
                 exact absurd H (by simp)
              ·rw [if_neg c43] at H
               exact absurd H (by simp)
             ·rw [if_neg c42] at H
              have c42b0 : decide (x13_4 < (x4_2.length : Int)) = false := decide_eq_false c42
              clear c42
              by_cases c47 : x5_2.length < 17592186044416
              ·rw [if_pos c47] at H
               have LMc47 := Aside0.mk c47
               clear c47
               obtain ⟨y167, hy167⟩ : ∃ y_ : List Int, y_ = (x5_2 ++ [x8_3]) := ⟨_, rfl⟩
               replace H : (logjamref38_Serial.l1 k4 l0 x9_4 y167) = some (r1, r2) := by first | (rw [hy167]; with_reducible exact H) | (have H2_ := (Option.bind_some _ _).symm.trans H; rw [hy167]; with_reducible exact H2_) | (have H2_ := (Option.bind_some _ _).symm.trans H; with_reducible exact H2_) | with_reducible exact H | (rw [hy167]; exact H) | exact H
               have Ny167 := Aside0.mk hy167
               clear hy167
               have H' := Aside0.mk H
               clear H
               go_wp2_with (first | ((with_reducible refine gate_builtin (b := .append) (xs := #[.tmp 118, .tmp 120]) rfl ?_); at_builtin; refine Kd.R_append (Kd.int .i64) (w0 := w) w.heap.size rfl (.tmp 118) (.tmp 120) 26 3 (.int .i64 0) 8 rfl Try.underlying26 info3 rfl (by decide) (by omega) u5 x5_2 x8_3 [.int .i64 x8_3] (fun k_ => some k_ ≠ (.slice Ao19 x4_2.length co19 : Value).ownBlock ∧ some k_ ≠ (u9 : Value).ownBlock) (fun _ => False) rfl rfl ?aP (fun _ hk => hk.elim) ?aF ?aO ?aB ?aS ?aL ?_; (case aP => exact rfl); (case aB => exact (by repeat (first | (with_reducible first | exact HB.out | apply below_alloc | apply pw_below_drewN | apply below_drew1) | exact HB.out))); (case aF => exact (fun k_ hk => ⟨Kd.fresh' (Kd.R_lt (by (with_reducible repeat (first | apply Kd.R_alloc | apply Kd.R_drewN | apply Kd.R_drew)); exact HO_4.out)) k_ hk, Kd.fresh' (Kd.R_lt (by (with_reducible repeat (first | apply Kd.R_alloc | apply Kd.R_drewN | apply Kd.R_drew)); exact HO_9.out)) k_ hk⟩)); (case aO => exact (by (with_reducible repeat (first | apply Kd.R_alloc | apply Kd.R_drewN | apply Kd.R_drew)); exact HO_5.out)); (case aS => exact (below_size (by repeat (first | (with_reducible first | exact HB.out | apply below_alloc | apply pw_below_drewN | apply below_drew1) | exact HB.out)))); (case aL => have := LMc47.out; omega); intro v168 w48 ho hb hg hat; rw [← Ny167.out] at ho; have n0_ := Aside0.mk (Kd.R_after (ok := (fun k_ => some k_ ≠ (u9 : Value).ownBlock)) (by (with_reducible repeat (first | apply Kd.R_alloc | apply Kd.R_drewN | apply Kd.R_drew)); exact Kd.R_mono HO_4.out (fun _ hk => ⟨hk.2, hk.1⟩)) hg hat); have n1_ := Aside0.mk (Kd.R_after (ok := (fun k_ => some k_ ≠ (.slice Ao19 x4_2.length co19 : Value).ownBlock)) (by (with_reducible repeat (first | apply Kd.R_alloc | apply Kd.R_drewN | apply Kd.R_drew)); exact HO_9.out) hg hat); have n2_ := Aside0.mk (hb); have n3_ := Aside0.mk (ho); clear HO_4; clear HO_9; clear HB; clear HO_5; have HO_4 := n0_; have HO_9 := n1_; have HB := n2_; have HO169 := n3_; clear n0_ n1_ n2_ n3_; clear ho hb hg hat))
               go_roundg k4
               case measure => have := HK1.out; have := HK2.out; have := HK3.out; have := HK4.out; omega
               case rel => exact ⟨(x9_4), (y167), H', ⟨by have := HK1.out; have := HK2.out; have := HK3.out; have := HK4.out; omega⟩, ⟨by (with_reducible repeat (first | apply Kd.R_alloc | apply Kd.R_drewN | apply Kd.R_drew)); exact Kd.R_mono HO_9.out (fun _ hk => hk.2)⟩, ⟨by (with_reducible repeat (first | apply Kd.R_alloc | apply Kd.R_drewN | apply Kd.R_drew)); exact Kd.R_mono HO169.out (fun _ hk => hk.2)⟩, ⟨by repeat (first | (with_reducible first | exact HB.out | apply below_alloc | apply pw_below_drewN | apply below_drew1) | exact HB.out)⟩⟩
              ·rw [if_neg c47] at H
               exact absurd H (by simp)
      ·rw [if_neg c18] at H
       have c18b0 : decide (0 < (x4_2.length : Int)) = false := decide_eq_false c18
       have c18b1 : decide (0 < x4_2.length) = false := decide_eq_false (by omega)
       clear c18
       simp only [Option.some.injEq, Prod.mk.injEq] at H
       obtain ⟨rfl, rfl⟩ := H
       obtain ⟨Ao49, co49, eo49⟩ := Kd.R_slice HO_4.out
       subst eo49
       go_wp2
       go_ret2
       exact ⟨_, by first | rfl | (simp [errW_none, errW_some] <;> rfl) | (simp [*, errW_none, errW_some] <;> rfl), by (with_reducible repeat (first | apply Kd.R_alloc | apply Kd.R_drewN | apply Kd.R_drew)); exact Kd.R_mono HO_5.out (fun _ hk => trivial), by repeat (first | (with_reducible first | exact HB.out | apply below_alloc | apply pw_below_drewN | apply below_drew1) | exact HB.out)⟩
end Go.Proofs.Ytadepdeckapgcaa.PHi
end
