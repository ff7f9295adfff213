/- LawHistoryOrders, part 4: what the proof stands on (merged by wip/shake.py out of the session's texts and of what the print wrote for this claim). -/
import Derived.Test.YtadepdeckapgcaaYbC

section
namespace Go.Proofs.Ytadepdeckapgcaa.PHi
open Go.RowKit Go.Proofs.Ytadepdeckapgcaa.Orc Go.Proofs.YtadepdeckapgcaaW.PrintWords Go.Proofs.YtadepdeckapgcaaW.PrintLast Go.Proofs.YtadepdeckapgcaaW.PrintMore
attribute [local go_sem] max2_int min2_int max_two min_two max_three min_three max_four min_four
set_option linter.unusedVariables false
set_option linter.unusedSimpArgs false
def logjamlaw30_Ints.l0 : Nat → List Int → List Int → Int → Option (Bool)
 | 0, _, _, _ => none
 | k + 1, x0, x1, x5 => if x5 < (x0.length : Int) then (if 0 ≤ x5 then (if x5 < (x1.length : Int) then (if (rd x0 x5) = (rd x1 x5) then (logjamlaw30_Ints.l0 k x0 x1 (wrap64 (x5 + 1))) else (some false)) else (none)) else (none)) else (some true)
def logjamlaw30_Ints.f (k : Nat) (l0 : List Int) (l1 : List Int) : Option (Bool) := if (l0.length : Int) = (l1.length : Int) then (logjamlaw30_Ints.l0 k l0 l1 0) else (some false)
set_option maxHeartbeats 8000000 in
set_option maxRecDepth 100000 in
theorem logjamlaw30_Ints.calls (k : Nat) (A0 : Option Addr) (c0 : Nat) (l0 : List Int) (A1 : Option Addr) (c1 : Nat) (l1 : List Int) (r : Bool) (w : World) (hr0 : Kd.C (Kd.int .i64) w A0 l0.length l0) (hc0 : l0.length ≤ c0) (hr1 : Kd.C (Kd.int .i64) w A1 l1.length l1) (hc1 : l1.length ≤ c1) (h : logjamlaw30_Ints.f k l0 l1 = some r) :
  Calls Try.prog 11 #[.slice A0 l0.length c0, .slice A1 l1.length c1] w fun e w' => e = .returned (.bool r) ∧ Drawn0 w w' := by
 have HR0 := Aside0.mk hr0
 have HC0 := Aside0.mk hc0
 clear hr0 hc0
 have HR1 := Aside0.mk hr1
 have HC1 := Aside0.mk hc1
 clear hr1 hc1
 have H : (if (l0.length : Int) = (l1.length : Int) then (logjamlaw30_Ints.l0 k l0 l1 0) else (some false)) = some r := h
 clear h
 by_cases c3 : (l0.length : Int) = (l1.length : Int)
 ·rw [if_pos c3] at H
  have c3b0 : ((l0.length : Int) == (l1.length : Int)) = true := beq_iff_eq.mpr c3
  have c3b1 : ((l0.length : Int) != (l1.length : Int)) = false := bne_eq_false_iff_eq.mpr c3
  have c3b2 : (l0.length == l1.length) = true := by first | simpa using c3 | (simp at c3 ⊢; omega)
  clear c3
  have H' := Aside0.mk H
  clear H
  go_enter Try.func11, Try.ntmps11
  go_wp2
  repeat (go_quiet (fail); try go_wp2)
  go_loopg [5] k (fun kq v5 w' => ∃ (x5_1 : Int), v5 = .int .i64 x5_1 ∧ Aside0 (logjamlaw30_Ints.l0 kq l0 l1 x5_1 = some r) ∧ Aside0 (kq ≤ k) ∧ Drawn0 w w')
  case atStart => exact ⟨(0), (by first | rfl | (simp; done) | (simp only [emptyNe_, emptyEq_]; done) | (simp [*]; done)), H', ⟨Nat.le_refl _⟩, by repeat (first | exact Drawn0.refl _ | apply Drawn0.step)⟩
  case round =>
   clear H'; try clear c1; try clear p2; try clear c3; try clear c3b0; try clear c3b1; try clear c3b2
   obtain ⟨x5_1, rfl, HA, HK1, ⟨m1, rfl⟩⟩ := hrel
   cases gk with
   | zero => exact absurd HA.out (by simp [logjamlaw30_Ints.l0])
   | succ k1 =>
    have H := HA.out
    clear HA
    simp only [logjamlaw30_Ints.l0] at H
    by_cases c4 : x5_1 < (l0.length : Int)
    ·rw [if_pos c4] at H
     have c4b0 : decide (x5_1 < (l0.length : Int)) = true := decide_eq_true c4
     clear c4
     by_cases c5 : 0 ≤ x5_1
     ·rw [if_pos c5] at H
      have c5b0 : decide (0 ≤ x5_1) = true := decide_eq_true c5
      clear c5
      by_cases c6 : x5_1 < (l1.length : Int)
      ·rw [if_pos c6] at H
       have c6b0 : decide (x5_1 < (l1.length : Int)) = true := decide_eq_true c6
       clear c6
       by_cases c7 : (rd l0 x5_1) = (rd l1 x5_1)
       ·rw [if_pos c7] at H
        have c7b0 : ((rd l0 x5_1) == (rd l1 x5_1)) = true := beq_iff_eq.mpr c7
        have c7b1 : ((rd l0 x5_1) != (rd l1 x5_1)) = false := bne_eq_false_iff_eq.mpr c7
        clear c7
        have H' := Aside0.mk H
        clear H
        have p170 : 0 ≤ (x5_1 : Int) := of_decide_eq_true (by first | (with_reducible assumption) | assumption)
        have q170 : x5_1 < (l0.length : Int) := of_decide_eq_true (by first | (with_reducible assumption) | assumption)
        obtain ⟨ad170, e170, hx170_0⟩ := Kd.at_int HR0.out x5_1 p170 q170
        cases e170
        replace p170 := eq_true p170
        replace q170 := eq_true q170
        have p171 : 0 ≤ (x5_1 : Int) := of_decide_eq_true (by first | (with_reducible assumption) | assumption)
        have q171 : x5_1 < (l1.length : Int) := of_decide_eq_true (by first | (with_reducible assumption) | assumption)
        obtain ⟨ad171, e171, hx171_0⟩ := Kd.at_int HR1.out x5_1 p171 q171
        cases e171
        replace p171 := eq_true p171
        replace q171 := eq_true q171
        go_wp2
        repeat (go_quiet (fail); try go_wp2)
        go_roundg k1
        case measure => have := HK1.out; omega
        case rel => exact ⟨(wrap64 (x5_1 + 1)), (by first | rfl | (simp; done) | (simp only [emptyNe_, emptyEq_]; done) | (simp [*]; done)), H', ⟨by have := HK1.out; omega⟩, by repeat (first | exact Drawn0.refl _ | apply Drawn0.step)⟩
       ·rw [if_neg c7] at H
        have c7b0 : ((rd l0 x5_1) == (rd l1 x5_1)) = false := beq_eq_false_iff_ne.mpr c7
        have c7b1 : ((rd l0 x5_1) != (rd l1 x5_1)) = true := bne_iff_ne.mpr c7
        obtain rfl := Option.some.inj H
        have p170 : 0 ≤ (x5_1 : Int) := of_decide_eq_true (by first | (with_reducible assumption) | assumption)
        have q170 : x5_1 < (l0.length : Int) := of_decide_eq_true (by first | (with_reducible assumption) | assumption)
        obtain ⟨ad170, e170, hx170_0⟩ := Kd.at_int HR0.out x5_1 p170 q170
        cases e170
        replace p170 := eq_true p170
        replace q170 := eq_true q170
        have p171 : 0 ≤ (x5_1 : Int) := of_decide_eq_true (by first | (with_reducible assumption) | assumption)
        have q171 : x5_1 < (l1.length : Int) := of_decide_eq_true (by first | (with_reducible assumption) | assumption)
        obtain ⟨ad171, e171, hx171_0⟩ := Kd.at_int HR1.out x5_1 p171 q171
        cases e171
        replace p171 := eq_true p171
        replace q171 := eq_true q171
        go_wp2
        repeat (go_quiet (fail); try go_wp2)
        go_ret
        exact ⟨by first | rfl | (simp; done) | (simp only [emptyNe_, emptyEq_]; done) | (simp [*]; done), by repeat (first | exact Drawn0.refl _ | apply Drawn0.step)⟩
      ·rw [if_neg c6] at H
       exact absurd H (by simp)
     ·rw [if_neg c5] at H
      exact absurd H (by simp)
    ·rw [if_neg c4] at H
     have c4b0 : decide (x5_1 < (l0.length : Int)) = false := decide_eq_false c4
     clear c4
     obtain rfl := Option.some.inj H
     go_wp2
     repeat (go_quiet (fail); try go_wp2)
     go_ret
     exact ⟨by first | rfl | (simp; done) | (simp only [emptyNe_, emptyEq_]; done) | (simp [*]; done), by repeat (first | exact Drawn0.refl _ | apply Drawn0.step)⟩
 ·rw [if_neg c3] at H
  have c3b0 : ((l0.length : Int) == (l1.length : Int)) = false := beq_eq_false_iff_ne.mpr c3
  have c3b1 : ((l0.length : Int) != (l1.length : Int)) = true := bne_iff_ne.mpr c3
  have c3b2 : (l0.length == l1.length) = false := by first | simpa using c3 | (simp at c3 ⊢; omega)
  obtain rfl := Option.some.inj H
  go_enter Try.func11, Try.ntmps11
  go_wp2
  repeat (go_quiet (fail); try go_wp2)
  go_ret
  exact ⟨by first | rfl | (simp; done) | (simp only [emptyNe_, emptyEq_]; done) | (simp [*]; done), by repeat (first | exact Drawn0.refl _ | apply Drawn0.step)⟩
def slices_Index_int_int.l0 : Nat → List Int → Int → Int → Int → Option (Int)
 | 0, _, _, _, _ => none
 | k + 1, x0, x1, x7, x8 => if x8 < x7 then (if 0 ≤ x8 then (if x8 < (x0.length : Int) then (if x1 = (rd x0 x8) then (some x8) else (slices_Index_int_int.l0 k x0 x1 x7 (wrap64 (x8 + 1)))) else (none)) else (none)) else (some (-1))
def slices_Index_int_int.f (k : Nat) (l0 : List Int) (a1 : Int) : Option (Int) := slices_Index_int_int.l0 k l0 a1 (l0.length : Int) 0
set_option maxHeartbeats 8000000 in
set_option maxRecDepth 100000 in
theorem slices_Index_int_int.calls (k : Nat) (A0 : Option Addr) (c0 : Nat) (l0 : List Int) (a1 : Int) (r : Int) (w : World) (hr0 : Kd.C (Kd.int .i64) w A0 l0.length l0) (hc0 : l0.length ≤ c0) (h : slices_Index_int_int.f k l0 a1 = some r) :
  Calls Try.prog 50 #[.slice A0 l0.length c0, .int .i64 a1] w fun e w' => e = .returned (.int .i64 r) ∧ Drawn0 w w' := by
 have HR0 := Aside0.mk hr0
 have HC0 := Aside0.mk hc0
 clear hr0 hc0
 have H : (slices_Index_int_int.l0 k l0 a1 (l0.length : Int) 0) = some r := h
 clear h
 have H' := Aside0.mk H
 clear H
 go_enter Try.func50, Try.ntmps50
 go_wp2
 go_loopg [8] k (fun kq v8 w' => ∃ (x8_1 : Int), v8 = .int .i64 x8_1 ∧ Aside0 (slices_Index_int_int.l0 kq l0 a1 (l0.length : Int) x8_1 = some r) ∧ Aside0 (kq ≤ k) ∧ Drawn0 w w')
 case atStart => exact ⟨(0), (by first | rfl | (simp; done) | (simp only [emptyNe_, emptyEq_]; done) | (simp [*]; done)), H', ⟨Nat.le_refl _⟩, by repeat (first | exact Drawn0.refl _ | apply Drawn0.step)⟩
 case round =>
  clear H'; try clear p2
  obtain ⟨x8_1, rfl, HA, HK1, ⟨m1, rfl⟩⟩ := hrel
  cases gk with
  | zero => exact absurd HA.out (by simp [slices_Index_int_int.l0])
  | succ k1 =>
   have H := HA.out
   clear HA
   simp only [slices_Index_int_int.l0] at H
   by_cases c3 : x8_1 < (l0.length : Int)
   ·rw [if_pos c3] at H
    have c3b0 : decide (x8_1 < (l0.length : Int)) = true := decide_eq_true c3
    clear c3
    by_cases c4 : 0 ≤ x8_1
    ·rw [if_pos c4] at H
     have c4b0 : decide (0 ≤ x8_1) = true := decide_eq_true c4
     clear c4
     by_cases c5 : x8_1 < (l0.length : Int)
     ·rw [if_pos c5] at H
      have c5b0 : decide (x8_1 < (l0.length : Int)) = true := decide_eq_true c5
      clear c5
      by_cases c6 : a1 = (rd l0 x8_1)
      ·rw [if_pos c6] at H
       have c6b0 : (a1 == (rd l0 x8_1)) = true := beq_iff_eq.mpr c6
       have c6b1 : (a1 != (rd l0 x8_1)) = false := bne_eq_false_iff_eq.mpr c6
       clear c6
       obtain rfl := Option.some.inj H
       have p172 : 0 ≤ (x8_1 : Int) := of_decide_eq_true (by first | (with_reducible assumption) | assumption)
       have q172 : x8_1 < (l0.length : Int) := of_decide_eq_true (by first | (with_reducible assumption) | assumption)
       obtain ⟨ad172, e172, hx172_0⟩ := Kd.at_int HR0.out x8_1 p172 q172
       cases e172
       replace p172 := eq_true p172
       replace q172 := eq_true q172
       go_wp2
       go_ret
       exact ⟨by first | rfl | (simp; done) | (simp only [emptyNe_, emptyEq_]; done) | (simp [*]; done), by repeat (first | exact Drawn0.refl _ | apply Drawn0.step)⟩
      ·rw [if_neg c6] at H
       have c6b0 : (a1 == (rd l0 x8_1)) = false := beq_eq_false_iff_ne.mpr c6
       have c6b1 : (a1 != (rd l0 x8_1)) = true := bne_iff_ne.mpr c6
       have H' := Aside0.mk H
       clear H
       have p172 : 0 ≤ (x8_1 : Int) := of_decide_eq_true (by first | (with_reducible assumption) | assumption)
       have q172 : x8_1 < (l0.length : Int) := of_decide_eq_true (by first | (with_reducible assumption) | assumption)
       obtain ⟨ad172, e172, hx172_0⟩ := Kd.at_int HR0.out x8_1 p172 q172
       cases e172
       replace p172 := eq_true p172
       replace q172 := eq_true q172
       go_wp2
       go_roundg k1
       case measure => have := HK1.out; omega
       case rel => exact ⟨(wrap64 (x8_1 + 1)), (by first | rfl | (simp; done) | (simp only [emptyNe_, emptyEq_]; done) | (simp [*]; done)), H', ⟨by have := HK1.out; omega⟩, by repeat (first | exact Drawn0.refl _ | apply Drawn0.step)⟩
     ·rw [if_neg c5] at H
      exact absurd H (by simp)
    ·rw [if_neg c4] at H
     exact absurd H (by simp)
   ·rw [if_neg c3] at H
    have c3b0 : decide (x8_1 < (l0.length : Int)) = false := decide_eq_false c3
    clear c3
    obtain rfl := Option.some.inj H
    go_wp2
    go_ret
    exact ⟨by first | rfl | (simp; done) | (simp only [emptyNe_, emptyEq_]; done) | (simp [*]; done), by repeat (first | exact Drawn0.refl _ | apply Drawn0.step)⟩
def slices_Contains_int_int.f (k : Nat) (l0 : List Int) (a1 : Int) : Option (Bool) := (slices_Index_int_int.f k l0 a1).bind fun t173 => (some (decide (t173 ≥ 0)))
set_option maxHeartbeats 8000000 in
set_option maxRecDepth 100000 in
theorem slices_Contains_int_int.calls (k : Nat) (A0 : Option Addr) (c0 : Nat) (l0 : List Int) (a1 : Int) (r : Bool) (w : World) (hr0 : Kd.C (Kd.int .i64) w A0 l0.length l0) (hc0 : l0.length ≤ c0) (h : slices_Contains_int_int.f k l0 a1 = some r) :
  Calls Try.prog 29 #[.slice A0 l0.length c0, .int .i64 a1] w fun e w' => e = .returned (.bool r) ∧ Drawn0 w w' := by
 have HR0 := Aside0.mk hr0
 have HC0 := Aside0.mk hc0
 clear hr0 hc0
 have H : ((slices_Index_int_int.f k l0 a1).bind fun t173 => (some (decide (t173 ≥ 0)))) = some r := h
 clear h
 replace H := Option.bind_eq_some_iff.mp H
 obtain ⟨t173, A30, H⟩ := H
 replace H : (some (decide (t173 ≥ 0))) = some r := H
 have A3 := Aside0.mk A30
 clear A30
 obtain rfl := Option.some.inj H
 go_enter Try.func29, Try.ntmps29
 go_wp2_with (first | ((with_reducible refine gate_callee (f := 50) rfl ?_); refine goesL_ (some 7) rfl rfl Try.func50 (by kernel_rfl) rfl #[.slice A0 l0.length c0, .int .i64 a1] rfl (by (try simp only [List.map_toArray, List.map_cons, List.map_nil]); first | done | rfl | (simp only [List.length_drop, List.length_take]; rfl)) ?_; (with_reducible refine (slices_Index_int_int.calls k _ _ l0 a1 t173 _ ?side1 ?side2 A3.out).mono ?_); (case side1 => repeat (first | exact HR0.out | (with_reducible refine Kd.C_alloc ?_ _) | (with_reducible refine Kd.C_drewN ?_ _) | (with_reducible refine Kd.C_drew ?_))); (case side2 => exact HC0.out); rintro e w' ⟨rfl, ⟨nd, rfl⟩⟩; refine ⟨_, rfl, ?_⟩))
 go_ret
 exact ⟨by first | rfl | (simp; done) | (simp only [emptyNe_, emptyEq_]; done) | (simp [*]; done), by repeat (first | exact Drawn0.refl _ | apply Drawn0.step)⟩
def history_Before.j0 : Nat → Bool → Option (Bool)
 | 0, _ => none
 | k + 1, x6 => some x6
def history_Before.f (k : Nat) (l0 : List (S29)) (a1 : Int) (a2 : Int) : Option (Bool) := (o_committed.f l0).bind fun t174 => (if a1 = a2 then (history_Before.j0 k false) else ((slices_Contains_int_int.f k t174 a1).bind fun t177 => (if t177 = true then ((slices_Contains_int_int.f k t174 a2).bind fun t178 => (if t178 = true then ((o_conflict.f l0 a1 a2).bind fun t179 => (history_Before.j0 k t179)) else (history_Before.j0 k false))) else (history_Before.j0 k false))))
set_option maxHeartbeats 8000000 in
set_option maxRecDepth 100000 in
theorem history_Before.calls (k : Nat) (A0 : Option Addr) (c0 : Nat) (l0 : List (S29)) (a1 : Int) (a2 : Int) (r : Bool) (w : World) (hr0 : Kd.C k29 w A0 l0.length l0) (hc0 : l0.length ≤ c0) (h : history_Before.f k l0 a1 a2 = some r) :
  Calls Try.prog 12 #[.slice A0 l0.length c0, .int .i64 a1, .int .i64 a2] w fun e w' => e = .returned (.bool r) ∧ Below w.heap.size w w' := by
 have HR0 := Aside0.mk hr0
 have HC0 := Aside0.mk hc0
 clear hr0 hc0
 have HB := Aside0.mk (Below.refl w.heap.size w)
 have H : ((o_committed.f l0).bind fun t174 => (if a1 = a2 then (history_Before.j0 k false) else ((slices_Contains_int_int.f k t174 a1).bind fun t177 => (if t177 = true then ((slices_Contains_int_int.f k t174 a2).bind fun t178 => (if t178 = true then ((o_conflict.f l0 a1 a2).bind fun t179 => (history_Before.j0 k t179)) else (history_Before.j0 k false))) else (history_Before.j0 k false))))) = some r := h
 clear h
 replace H := Option.bind_eq_some_iff.mp H
 obtain ⟨t174, A40, H⟩ := H
 replace H : (if a1 = a2 then (history_Before.j0 k false) else ((slices_Contains_int_int.f k t174 a1).bind fun t177 => (if t177 = true then ((slices_Contains_int_int.f k t174 a2).bind fun t178 => (if t178 = true then ((o_conflict.f l0 a1 a2).bind fun t179 => (history_Before.j0 k t179)) else (history_Before.j0 k false))) else (history_Before.j0 k false)))) = some r := H
 have A4 := Aside0.mk A40
 clear A40
 have HC5 := Aside0.mk H
 clear H
 go_enter Try.func12, Try.ntmps12
 go_upto_region 2 with (first | ((with_reducible refine gate_callee (f := 21) rfl ?_); refine goesL_ (some 9) rfl rfl Try.func21 (by kernel_rfl) rfl #[.slice A0 l0.length c0] rfl (by (try simp only [List.map_toArray, List.map_cons, List.map_nil]); first | done | rfl | (simp only [List.length_drop, List.length_take]; rfl)) ?_; (with_reducible refine (o_committed.calls _ _ l0 t174 _ ?side1 ?side2 A4.out).mono ?_); (case side1 => repeat (first | exact HR0.out | (with_reducible refine Kd.C_alloc ?_ _) | (with_reducible refine Kd.C_drewN ?_ _) | (with_reducible refine Kd.C_drew ?_))); (case side2 => exact HC0.out); rintro e w6 ⟨v175, rfl, ho0, hb⟩; refine ⟨_, rfl, ?_⟩; have n0_ := Aside0.mk (Kd.R_lower ho0 (below_size (by repeat (first | (with_reducible first | exact HB.out | apply below_alloc | apply pw_below_drewN | apply below_drew1) | exact HB.out)))); have n1_ := Aside0.mk (below_step (by repeat (first | (with_reducible first | exact HB.out | apply below_alloc | apply pw_below_drewN | apply below_drew1) | exact HB.out)) hb); clear HB; have HO176 := n0_; have HB := n1_; clear n0_ n1_; (try clear hb); (try clear hb2); (try clear hk); (try clear hi); (try clear ho0)))
 (try simp only [Act.put, List.setIfInBounds_toArray, List.set_cons_zero, List.set_cons_succ])
 go_cut [6] (fun v6 wc => ∃ (kq : Nat) (x6_4 : Bool), v6 = .bool x6_4 ∧ Aside0 (history_Before.j0 kq x6_4 = some r) ∧ Aside0 (kq ≤ k) ∧ Aside0 (Below w.heap.size w wc))
 case first =>
  have H := HC5.out
  clear HC5
  by_cases c7 : a1 = a2
  ·rw [if_pos c7] at H
   have c7b0 : (a1 == a2) = true := beq_iff_eq.mpr c7
   have c7b1 : (a1 != a2) = false := bne_eq_false_iff_eq.mpr c7
   clear c7
   (first | rw [c7b0] | (simp only [i64_w, i32_w]; rw [c7b0]) | skip)
   have H' := Aside0.mk H
   clear H
   go_wp2
   go_meet
   case rel => exact ⟨_, (false), (by first | rfl | (simp; done) | (simp only [emptyNe_, emptyEq_]; done) | (simp [*]; done)), H', ⟨by first | omega | exact Nat.le_refl _⟩, ⟨by repeat (first | (with_reducible first | exact HB.out | apply below_alloc | apply pw_below_drewN | apply below_drew1) | exact HB.out)⟩⟩
  ·rw [if_neg c7] at H
   have c7b0 : (a1 == a2) = false := beq_eq_false_iff_ne.mpr c7
   have c7b1 : (a1 != a2) = true := bne_iff_ne.mpr c7
   (first | rw [c7b0] | (simp only [i64_w, i32_w]; rw [c7b0]) | skip)
   replace H := Option.bind_eq_some_iff.mp H
   obtain ⟨t177, A80, H⟩ := H
   replace H : (if t177 = true then ((slices_Contains_int_int.f k t174 a2).bind fun t178 => (if t178 = true then ((o_conflict.f l0 a1 a2).bind fun t179 => (history_Before.j0 k t179)) else (history_Before.j0 k false))) else (history_Before.j0 k false)) = some r := H
   have A8 := Aside0.mk A80
   clear A80
   by_cases c9 : t177 = true
   ·subst c9
    have H1 : ((slices_Contains_int_int.f k t174 a2).bind fun t178 => (if t178 = true then ((o_conflict.f l0 a1 a2).bind fun t179 => (history_Before.j0 k t179)) else (history_Before.j0 k false))) = some r := by rw [if_pos rfl] at H; exact H
    clear H
    have H := H1
    clear H1
    replace H := Option.bind_eq_some_iff.mp H
    obtain ⟨t178, A100, H⟩ := H
    replace H : (if t178 = true then ((o_conflict.f l0 a1 a2).bind fun t179 => (history_Before.j0 k t179)) else (history_Before.j0 k false)) = some r := H
    have A10 := Aside0.mk A100
    clear A100
    by_cases c11 : t178 = true
    ·subst c11
     have H1 : ((o_conflict.f l0 a1 a2).bind fun t179 => (history_Before.j0 k t179)) = some r := by rw [if_pos rfl] at H; exact H
     clear H
     have H := H1
     clear H1
     replace H := Option.bind_eq_some_iff.mp H
     obtain ⟨t179, A120, H⟩ := H
     replace H : (history_Before.j0 k t179) = some r := H
     have A12 := Aside0.mk A120
     clear A120
     have H' := Aside0.mk H
     clear H
     obtain ⟨Ao13, co13, eo13⟩ := Kd.R_slice HO176.out
     subst eo13
     go_wp2_with (first | (go_at_call 29; (with_reducible refine (slices_Contains_int_int.calls k _ _ t174 a1 true _ ?side1 ?side2 A8.out).mono ?_); (case side1 => repeat (first | exact (Kd.R_reads' HO176.out).2.2 | (with_reducible refine Kd.C_alloc ?_ _) | (with_reducible refine Kd.C_drewN ?_ _) | (with_reducible refine Kd.C_drew ?_))); (case side2 => exact (Kd.R_reads' HO176.out).2.1); rintro e w' ⟨rfl, ⟨nd, rfl⟩⟩) | (go_at_call 29; (with_reducible refine (slices_Contains_int_int.calls k _ _ t174 a2 true _ ?side1 ?side2 A10.out).mono ?_); (case side1 => repeat (first | exact (Kd.R_reads' HO176.out).2.2 | (with_reducible refine Kd.C_alloc ?_ _) | (with_reducible refine Kd.C_drewN ?_ _) | (with_reducible refine Kd.C_drew ?_))); (case side2 => exact (Kd.R_reads' HO176.out).2.1); rintro e w' ⟨rfl, ⟨nd, rfl⟩⟩) | (go_at_call 26; (with_reducible refine (o_conflict.calls _ _ l0 a1 a2 t179 _ ?side1 ?side2 A12.out).mono ?_); (case side1 => repeat (first | exact (Kd.C_below HR0.out (by repeat (first | (with_reducible first | exact HB.out | apply below_alloc | apply pw_below_drewN | apply below_drew1) | exact HB.out))) | (with_reducible refine Kd.C_alloc ?_ _) | (with_reducible refine Kd.C_drewN ?_ _) | (with_reducible refine Kd.C_drew ?_))); (case side2 => exact HC0.out); rintro e w14 ⟨rfl, hb⟩; have n0_ := Aside0.mk (Kd.R_below (by (with_reducible repeat (first | apply Kd.R_alloc | apply Kd.R_drewN | apply Kd.R_drew)); exact HO176.out) hb); have n1_ := Aside0.mk (below_step (by repeat (first | (with_reducible first | exact HB.out | apply below_alloc | apply pw_below_drewN | apply below_drew1) | exact HB.out)) hb); clear HO176; clear HB; have HO176 := n0_; have HB := n1_; clear n0_ n1_; (try clear hb); (try clear hb2); (try clear hk); (try clear hi)))
     go_meet
     case rel => exact ⟨_, (t179), (by first | rfl | (simp; done) | (simp only [emptyNe_, emptyEq_]; done) | (simp [*]; done)), H', ⟨by first | omega | exact Nat.le_refl _⟩, ⟨by repeat (first | (with_reducible first | exact HB.out | apply below_alloc | apply pw_below_drewN | apply below_drew1) | exact HB.out)⟩⟩
    ·replace c11 := Bool.eq_false_iff.mpr c11
     subst c11
     have H1 : (history_Before.j0 k false) = some r := by rw [if_neg (show ¬ (false = true) by decide)] at H; exact H
     clear H
     have H := H1
     clear H1
     have H' := Aside0.mk H
     clear H
     obtain ⟨Ao15, co15, eo15⟩ := Kd.R_slice HO176.out
     subst eo15
     go_wp2_with (first | (go_at_call 29; (with_reducible refine (slices_Contains_int_int.calls k _ _ t174 a1 true _ ?side1 ?side2 A8.out).mono ?_); (case side1 => repeat (first | exact (Kd.R_reads' HO176.out).2.2 | (with_reducible refine Kd.C_alloc ?_ _) | (with_reducible refine Kd.C_drewN ?_ _) | (with_reducible refine Kd.C_drew ?_))); (case side2 => exact (Kd.R_reads' HO176.out).2.1); rintro e w' ⟨rfl, ⟨nd, rfl⟩⟩) | (go_at_call 29; (with_reducible refine (slices_Contains_int_int.calls k _ _ t174 a2 false _ ?side1 ?side2 A10.out).mono ?_); (case side1 => repeat (first | exact (Kd.R_reads' HO176.out).2.2 | (with_reducible refine Kd.C_alloc ?_ _) | (with_reducible refine Kd.C_drewN ?_ _) | (with_reducible refine Kd.C_drew ?_))); (case side2 => exact (Kd.R_reads' HO176.out).2.1); rintro e w' ⟨rfl, ⟨nd, rfl⟩⟩))
     go_meet
     case rel => exact ⟨_, (false), (by first | rfl | (simp; done) | (simp only [emptyNe_, emptyEq_]; done) | (simp [*]; done)), H', ⟨by first | omega | exact Nat.le_refl _⟩, ⟨by repeat (first | (with_reducible first | exact HB.out | apply below_alloc | apply pw_below_drewN | apply below_drew1) | exact HB.out)⟩⟩
   ·replace c9 := Bool.eq_false_iff.mpr c9
    subst c9
    have H1 : (history_Before.j0 k false) = some r := by rw [if_neg (show ¬ (false = true) by decide)] at H; exact H
    clear H
    have H := H1
    clear H1
    have H' := Aside0.mk H
    clear H
    obtain ⟨Ao16, co16, eo16⟩ := Kd.R_slice HO176.out
    subst eo16
    go_wp2_with (first | (go_at_call 29; (with_reducible refine (slices_Contains_int_int.calls k _ _ t174 a1 false _ ?side1 ?side2 A8.out).mono ?_); (case side1 => repeat (first | exact (Kd.R_reads' HO176.out).2.2 | (with_reducible refine Kd.C_alloc ?_ _) | (with_reducible refine Kd.C_drewN ?_ _) | (with_reducible refine Kd.C_drew ?_))); (case side2 => exact (Kd.R_reads' HO176.out).2.1); rintro e w' ⟨rfl, ⟨nd, rfl⟩⟩))
    go_meet
    case rel => exact ⟨_, (false), (by first | rfl | (simp; done) | (simp only [emptyNe_, emptyEq_]; done) | (simp [*]; done)), H', ⟨by first | omega | exact Nat.le_refl _⟩, ⟨by repeat (first | (with_reducible first | exact HB.out | apply below_alloc | apply pw_below_drewN | apply below_drew1) | exact HB.out)⟩⟩
 case rest =>
  clear HC5; try clear c1; try clear c2; try clear p2; try clear c7; try clear c7b0; try clear c7b1; try clear c9; try clear c11; try clear c12
  obtain ⟨kq, x6_4, rfl, HA, HJ4, HB⟩ := hcut
  cases kq with
  | zero => exact absurd HA.out (by simp [history_Before.j0])
  | succ kj4 =>
   have H := HA.out
   clear HA
   simp only [history_Before.j0] at H
   obtain rfl := Option.some.inj H
   go_wp2
   go_ret
   exact ⟨by first | rfl | (simp [errW_none, errW_some] <;> rfl) | (simp [*, errW_none, errW_some] <;> rfl), by repeat (first | (with_reducible first | exact HB.out | apply below_alloc | apply pw_below_drewN | apply below_drew1) | exact HB.out)⟩
def logjamref38_Committed.l0 : Nat → List (S29) → Int → List Int → Int → Option (Bool)
 | 0, _, _, _, _ => none
 | k + 1, x0, x1, x5, x6 => if x6 < (x5.length : Int) then (if 0 ≤ x6 then (if 0 ≤ (rd x5 x6) then (if (rd x5 x6) < (x0.length : Int) then (if ((rd_T29 x0 (rd x5 x6)).f2) = x1 then (some (((rd_T29 x0 (rd x5 x6)).f0) == 3)) else (logjamref38_Committed.l0 k x0 x1 x5 (wrap64 (x6 + 1)))) else (none)) else (none)) else (none)) else (some false)
def logjamref38_Committed.f (k : Nat) (l0 : List (S29)) (a1 : Int) : Option (Bool) := (logjamref38_Ends.f k l0).bind fun t180 => (logjamref38_Committed.l0 k l0 a1 t180 0)
set_option maxHeartbeats 8000000 in
set_option maxRecDepth 100000 in
theorem logjamref38_Committed.calls (k : Nat) (A0 : Option Addr) (c0 : Nat) (l0 : List (S29)) (a1 : Int) (r : Bool) (w : World) (hr0 : Kd.C k29 w A0 l0.length l0) (hc0 : l0.length ≤ c0) (h : logjamref38_Committed.f k l0 a1 = some r) :
  Calls Try.prog 30 #[.slice A0 l0.length c0, .int .i64 a1] w fun e w' => e = .returned (.bool r) ∧ Below w.heap.size w w' := by
 have HR0 := Aside0.mk hr0
 have HC0 := Aside0.mk hc0
 clear hr0 hc0
 have HB := Aside0.mk (Below.refl w.heap.size w)
 have H : ((logjamref38_Ends.f k l0).bind fun t180 => (logjamref38_Committed.l0 k l0 a1 t180 0)) = some r := h
 clear h
 replace H := Option.bind_eq_some_iff.mp H
 obtain ⟨t180, A30, H⟩ := H
 replace H : (logjamref38_Committed.l0 k l0 a1 t180 0) = some r := H
 have A3 := Aside0.mk A30
 clear A30
 have H' := Aside0.mk H
 clear H
 go_enter Try.func30, Try.ntmps30
 go_wp2_with (first | ((with_reducible refine gate_callee (f := 8) rfl ?_); refine goesL_ (some 8) rfl rfl Try.func8 (by kernel_rfl) rfl #[.slice A0 l0.length c0] rfl (by (try simp only [List.map_toArray, List.map_cons, List.map_nil]); first | done | rfl | (simp only [List.length_drop, List.length_take]; rfl)) ?_; (with_reducible refine (logjamref38_Ends.calls k _ _ l0 t180 _ ?side1 ?side2 A3.out).mono ?_); (case side1 => repeat (first | exact HR0.out | (with_reducible refine Kd.C_alloc ?_ _) | (with_reducible refine Kd.C_drewN ?_ _) | (with_reducible refine Kd.C_drew ?_))); (case side2 => exact HC0.out); rintro e w4 ⟨v181, rfl, ho0, hb⟩; refine ⟨_, rfl, ?_⟩; have n0_ := Aside0.mk (Kd.R_lower ho0 (below_size (by repeat (first | (with_reducible first | exact HB.out | apply below_alloc | apply pw_below_drewN | apply below_drew1) | exact HB.out)))); have n1_ := Aside0.mk (below_step (by repeat (first | (with_reducible first | exact HB.out | apply below_alloc | apply pw_below_drewN | apply below_drew1) | exact HB.out)) hb); clear HB; have HO182 := n0_; have HB := n1_; clear n0_ n1_; (try clear hb); (try clear hb2); (try clear hk); (try clear hi); (try clear ho0)))
 go_loopg [6] k (fun kq v6 w' => ∃ (x6_1 : Int), v6 = .int .i64 x6_1 ∧ Aside0 (logjamref38_Committed.l0 kq l0 a1 t180 x6_1 = some r) ∧ Aside0 (kq ≤ k) ∧ Aside0 (Kd.R (Kd.int .i64) 3 w' w.heap.size (fun _ => True) v181 t180) ∧ Aside0 (Below w.heap.size w w'))
 case atStart => exact ⟨(0), (by first | rfl | (simp; done) | (simp only [emptyNe_, emptyEq_]; done) | (simp [*]; done)), H', ⟨Nat.le_refl _⟩, ⟨by (with_reducible repeat (first | apply Kd.R_alloc | apply Kd.R_drewN | apply Kd.R_drew)); exact HO182.out⟩, ⟨by repeat (first | (with_reducible first | exact HB.out | apply below_alloc | apply pw_below_drewN | apply below_drew1) | exact HB.out)⟩⟩
 case round =>
  clear H'; try clear p2; try clear c3
  obtain ⟨x6_1, rfl, HA, HK1, HO_5, HB⟩ := hrel
  cases gk with
  | zero => exact absurd HA.out (by simp [logjamref38_Committed.l0])
  | succ k1 =>
   have H := HA.out
   clear HA
   simp only [logjamref38_Committed.l0] at H
   by_cases c5 : x6_1 < (t180.length : Int)
   ·rw [if_pos c5] at H
    have c5b0 : decide (x6_1 < (t180.length : Int)) = true := decide_eq_true c5
    clear c5
    by_cases c6 : 0 ≤ x6_1
    ·rw [if_pos c6] at H
     have c6b0 : decide (0 ≤ x6_1) = true := decide_eq_true c6
     clear c6
     by_cases c7 : 0 ≤ (rd t180 x6_1)
     ·rw [if_pos c7] at H
      have c7b0 : decide (0 ≤ (rd t180 x6_1)) = true := decide_eq_true c7
      clear c7
      by_cases c8 : (rd t180 x6_1) < (l0.length : Int)
      ·rw [if_pos c8] at H
       have c8b0 : decide ((rd t180 x6_1) < (l0.length : Int)) = true := decide_eq_true c8
       clear c8
       by_cases c9 : ((rd_T29 l0 (rd t180 x6_1)).f2) = a1
       ·rw [if_pos c9] at H
        have c9b0 : (((rd_T29 l0 (rd t180 x6_1)).f2) == a1) = true := beq_iff_eq.mpr c9
        have c9b1 : (((rd_T29 l0 (rd t180 x6_1)).f2) != a1) = false := bne_eq_false_iff_eq.mpr c9
        clear c9
        obtain rfl := Option.some.inj H
        obtain ⟨Ao10, co10, eo10⟩ := Kd.R_slice HO_5.out
        subst eo10
        have p183 : 0 ≤ (x6_1 : Int) := of_decide_eq_true (by first | (with_reducible assumption) | assumption)
        have q183 : x6_1 < (t180.length : Int) := of_decide_eq_true (by first | (with_reducible assumption) | assumption)
        obtain ⟨ad183, e183, hx183_0⟩ := Kd.at_int (Kd.R_reads' HO_5.out).2.2 x6_1 p183 q183
        cases e183
        replace p183 := eq_true p183
        replace q183 := eq_true q183
        have p184 : 0 ≤ ((rd t180 x6_1) : Int) := of_decide_eq_true (by first | (with_reducible assumption) | assumption)
        have q184 : (rd t180 x6_1) < (l0.length : Int) := of_decide_eq_true (by first | (with_reducible assumption) | assumption)
        obtain ⟨ad184, e184, hx184_0, hx184_1, hx184_2, hx184_3, hx184_4⟩ := at_T29 HR0.out (rd t180 x6_1) p184 q184
        cases e184
        replace hx184_0 := (HB.out.cell (World.block_lt_of_cell? w _ hx184_0)).trans hx184_0
        replace hx184_1 := (HB.out.cell (World.block_lt_of_cell? w _ hx184_1)).trans hx184_1
        replace hx184_2 := (HB.out.cell (World.block_lt_of_cell? w _ hx184_2)).trans hx184_2
        replace hx184_3 := (HB.out.cell (World.block_lt_of_cell? w _ hx184_3)).trans hx184_3
        replace hx184_4 := (HB.out.cell (World.block_lt_of_cell? w _ hx184_4)).trans hx184_4
        replace p184 := eq_true p184
        replace q184 := eq_true q184
        have p185 : 0 ≤ (x6_1 : Int) := of_decide_eq_true (by first | (with_reducible assumption) | assumption)
        have q185 : x6_1 < (t180.length : Int) := of_decide_eq_true (by first | (with_reducible assumption) | assumption)
        obtain ⟨ad185, e185, hx185_0⟩ := Kd.at_int (Kd.R_reads' HO_5.out).2.2 x6_1 p185 q185
        obtain rfl : ad183 = ad185 := (by injection e185)
        replace p185 := eq_true p185
        replace q185 := eq_true q185
        have p186 : 0 ≤ ((rd t180 x6_1) : Int) := of_decide_eq_true (by first | (with_reducible assumption) | assumption)
        have q186 : (rd t180 x6_1) < (l0.length : Int) := of_decide_eq_true (by first | (with_reducible assumption) | assumption)
        obtain ⟨ad186, e186, hx186_0, hx186_1, hx186_2, hx186_3, hx186_4⟩ := at_T29 HR0.out (rd t180 x6_1) p186 q186
        obtain rfl : ad184 = ad186 := (by injection e186)
        replace hx186_0 := (HB.out.cell (World.block_lt_of_cell? w _ hx186_0)).trans hx186_0
        replace hx186_1 := (HB.out.cell (World.block_lt_of_cell? w _ hx186_1)).trans hx186_1
        replace hx186_2 := (HB.out.cell (World.block_lt_of_cell? w _ hx186_2)).trans hx186_2
        replace hx186_3 := (HB.out.cell (World.block_lt_of_cell? w _ hx186_3)).trans hx186_3
        replace hx186_4 := (HB.out.cell (World.block_lt_of_cell? w _ hx186_4)).trans hx186_4
        replace p186 := eq_true p186
        replace q186 := eq_true q186
        go_wp2
        go_ret
        exact ⟨by first | rfl | (simp [errW_none, errW_some] <;> rfl) | (simp [*, errW_none, errW_some] <;> rfl), by repeat (first | (with_reducible first | exact HB.out | apply below_alloc | apply pw_below_drewN | apply below_drew1) | exact HB.out)⟩
       ·rw [if_neg c9] at H
        have c9b0 : (((rd_T29 l0 (rd t180 x6_1)).f2) == a1) = false := beq_eq_false_iff_ne.mpr c9
        have c9b1 : (((rd_T29 l0 (rd t180 x6_1)).f2) != a1) = true := bne_iff_ne.mpr c9
        have H' := Aside0.mk H
        clear H
        obtain ⟨Ao11, co11, eo11⟩ := Kd.R_slice HO_5.out
        subst eo11
        have p183 : 0 ≤ (x6_1 : Int) := of_decide_eq_true (by first | (with_reducible assumption) | assumption)
        have q183 : x6_1 < (t180.length : Int) := of_decide_eq_true (by first | (with_reducible assumption) | assumption)
        obtain ⟨ad183, e183, hx183_0⟩ := Kd.at_int (Kd.R_reads' HO_5.out).2.2 x6_1 p183 q183
        cases e183
        replace p183 := eq_true p183
        replace q183 := eq_true q183
        have p184 : 0 ≤ ((rd t180 x6_1) : Int) := of_decide_eq_true (by first | (with_reducible assumption) | assumption)
        have q184 : (rd t180 x6_1) < (l0.length : Int) := of_decide_eq_true (by first | (with_reducible assumption) | assumption)
        obtain ⟨ad184, e184, hx184_0, hx184_1, hx184_2, hx184_3, hx184_4⟩ := at_T29 HR0.out (rd t180 x6_1) p184 q184
        cases e184
        replace hx184_0 := (HB.out.cell (World.block_lt_of_cell? w _ hx184_0)).trans hx184_0
        replace hx184_1 := (HB.out.cell (World.block_lt_of_cell? w _ hx184_1)).trans hx184_1
        replace hx184_2 := (HB.out.cell (World.block_lt_of_cell? w _ hx184_2)).trans hx184_2
        replace hx184_3 := (HB.out.cell (World.block_lt_of_cell? w _ hx184_3)).trans hx184_3
        replace hx184_4 := (HB.out.cell (World.block_lt_of_cell? w _ hx184_4)).trans hx184_4
        replace p184 := eq_true p184
        replace q184 := eq_true q184
        go_wp2
        go_roundg k1
        case measure => have := HK1.out; omega
        case rel => exact ⟨(wrap64 (x6_1 + 1)), (by first | rfl | (simp; done) | (simp only [emptyNe_, emptyEq_]; done) | (simp [*]; done)), H', ⟨by have := HK1.out; omega⟩, ⟨by (with_reducible repeat (first | apply Kd.R_alloc | apply Kd.R_drewN | apply Kd.R_drew)); exact HO_5.out⟩, ⟨by repeat (first | (with_reducible first | exact HB.out | apply below_alloc | apply pw_below_drewN | apply below_drew1) | exact HB.out)⟩⟩
      ·rw [if_neg c8] at H
       exact absurd H (by simp)
     ·rw [if_neg c7] at H
      exact absurd H (by simp)
    ·rw [if_neg c6] at H
     exact absurd H (by simp)
   ·rw [if_neg c5] at H
    have c5b0 : decide (x6_1 < (t180.length : Int)) = false := decide_eq_false c5
    clear c5
    obtain rfl := Option.some.inj H
    obtain ⟨Ao12, co12, eo12⟩ := Kd.R_slice HO_5.out
    subst eo12
    go_wp2
    go_ret
    exact ⟨by first | rfl | (simp [errW_none, errW_some] <;> rfl) | (simp [*, errW_none, errW_some] <;> rfl), by repeat (first | (with_reducible first | exact HB.out | apply below_alloc | apply pw_below_drewN | apply below_drew1) | exact HB.out)⟩
def logjamref38_Before.j0 : Nat → Bool → Option (Bool)
 | 0, _ => none
 | k + 1, x6 => some x6
def logjamref38_Before.f (k : Nat) (l0 : List (S29)) (a1 : Int) (a2 : Int) : Option (Bool) := if a1 = a2 then (logjamref38_Before.j0 k false) else ((logjamref38_Committed.f k l0 a1).bind fun t187 => (if t187 = true then ((logjamref38_Committed.f k l0 a2).bind fun t188 => (if t188 = true then ((logjamref38_Conflict.f k l0 a1 a2).bind fun t189 => (logjamref38_Before.j0 k t189)) else (logjamref38_Before.j0 k false))) else (logjamref38_Before.j0 k false)))
set_option maxHeartbeats 8000000 in
set_option maxRecDepth 100000 in
theorem logjamref38_Before.calls (k : Nat) (A0 : Option Addr) (c0 : Nat) (l0 : List (S29)) (a1 : Int) (a2 : Int) (r : Bool) (w : World) (hr0 : Kd.C k29 w A0 l0.length l0) (hc0 : l0.length ≤ c0) (h : logjamref38_Before.f k l0 a1 a2 = some r) :
  Calls Try.prog 13 #[.slice A0 l0.length c0, .int .i64 a1, .int .i64 a2] w fun e w' => e = .returned (.bool r) ∧ Below w.heap.size w w' := by
 have HR0 := Aside0.mk hr0
 have HC0 := Aside0.mk hc0
 clear hr0 hc0
 have HB := Aside0.mk (Below.refl w.heap.size w)
 have H : (if a1 = a2 then (logjamref38_Before.j0 k false) else ((logjamref38_Committed.f k l0 a1).bind fun t187 => (if t187 = true then ((logjamref38_Committed.f k l0 a2).bind fun t188 => (if t188 = true then ((logjamref38_Conflict.f k l0 a1 a2).bind fun t189 => (logjamref38_Before.j0 k t189)) else (logjamref38_Before.j0 k false))) else (logjamref38_Before.j0 k false)))) = some r := h
 clear h
 have HC4 := Aside0.mk H
 clear H
 go_enter Try.func13, Try.ntmps13
 go_upto_region 1 with (fail)
 go_cut [6] (fun v6 wc => ∃ (kq : Nat) (x6_3 : Bool), v6 = .bool x6_3 ∧ Aside0 (logjamref38_Before.j0 kq x6_3 = some r) ∧ Aside0 (kq ≤ k) ∧ Aside0 (Below w.heap.size w wc))
 case first =>
  have H := HC4.out
  clear HC4
  by_cases c5 : a1 = a2
  ·rw [if_pos c5] at H
   have c5b0 : (a1 == a2) = true := beq_iff_eq.mpr c5
   have c5b1 : (a1 != a2) = false := bne_eq_false_iff_eq.mpr c5
   clear c5
   (first | rw [c5b0] | (simp only [i64_w, i32_w]; rw [c5b0]) | skip)
   have H' := Aside0.mk H
   clear H
   go_wp2
   go_meet
   case rel => exact ⟨_, (false), (by first | rfl | (simp; done) | (simp only [emptyNe_, emptyEq_]; done) | (simp [*]; done)), H', ⟨by first | omega | exact Nat.le_refl _⟩, ⟨by repeat (first | (with_reducible first | exact HB.out | apply below_alloc | apply pw_below_drewN | apply below_drew1) | exact HB.out)⟩⟩
  ·rw [if_neg c5] at H
   have c5b0 : (a1 == a2) = false := beq_eq_false_iff_ne.mpr c5
   have c5b1 : (a1 != a2) = true := bne_iff_ne.mpr c5
   (first | rw [c5b0] | (simp only [i64_w, i32_w]; rw [c5b0]) | skip)
   replace H := Option.bind_eq_some_iff.mp H
   obtain ⟨t187, A60, H⟩ := H
   replace H : (if t187 = true then ((logjamref38_Committed.f k l0 a2).bind fun t188 => (if t188 = true then ((logjamref38_Conflict.f k l0 a1 a2).bind fun t189 => (logjamref38_Before.j0 k t189)) else (logjamref38_Before.j0 k false))) else (logjamref38_Before.j0 k false)) = some r := H
   have A6 := Aside0.mk A60
   clear A60
   by_cases c7 : t187 = true
   ·subst c7
    have H1 : ((logjamref38_Committed.f k l0 a2).bind fun t188 => (if t188 = true then ((logjamref38_Conflict.f k l0 a1 a2).bind fun t189 => (logjamref38_Before.j0 k t189)) else (logjamref38_Before.j0 k false))) = some r := by rw [if_pos rfl] at H; exact H
    clear H
    have H := H1
    clear H1
    replace H := Option.bind_eq_some_iff.mp H
    obtain ⟨t188, A80, H⟩ := H
    replace H : (if t188 = true then ((logjamref38_Conflict.f k l0 a1 a2).bind fun t189 => (logjamref38_Before.j0 k t189)) else (logjamref38_Before.j0 k false)) = some r := H
    have A8 := Aside0.mk A80
    clear A80
    by_cases c9 : t188 = true
    ·subst c9
     have H1 : ((logjamref38_Conflict.f k l0 a1 a2).bind fun t189 => (logjamref38_Before.j0 k t189)) = some r := by rw [if_pos rfl] at H; exact H
     clear H
     have H := H1
     clear H1
     replace H := Option.bind_eq_some_iff.mp H
     obtain ⟨t189, A100, H⟩ := H
     replace H : (logjamref38_Before.j0 k t189) = some r := H
     have A10 := Aside0.mk A100
     clear A100
     have H' := Aside0.mk H
     clear H
     go_wp2_with (first | (go_at_call 30; (with_reducible refine (logjamref38_Committed.calls k _ _ l0 a1 true _ ?side1 ?side2 A6.out).mono ?_); (case side1 => repeat (first | exact (Kd.C_below HR0.out HB.out) | (with_reducible refine Kd.C_alloc ?_ _) | (with_reducible refine Kd.C_drewN ?_ _) | (with_reducible refine Kd.C_drew ?_))); (case side2 => exact HC0.out); rintro e w11 ⟨rfl, hb⟩; have n0_ := Aside0.mk (below_step (by repeat (first | (with_reducible first | exact HB.out | apply below_alloc | apply pw_below_drewN | apply below_drew1) | exact HB.out)) hb); clear HB; have HB := n0_; clear n0_; (try clear hb); (try clear hb2); (try clear hk); (try clear hi)) | (go_at_call 30; (with_reducible refine (logjamref38_Committed.calls k _ _ l0 a2 true _ ?side1 ?side2 A8.out).mono ?_); (case side1 => repeat (first | exact (Kd.C_below HR0.out HB.out) | (with_reducible refine Kd.C_alloc ?_ _) | (with_reducible refine Kd.C_drewN ?_ _) | (with_reducible refine Kd.C_drew ?_))); (case side2 => exact HC0.out); rintro e w12 ⟨rfl, hb⟩; have n0_ := Aside0.mk (below_step (by repeat (first | (with_reducible first | exact HB.out | apply below_alloc | apply pw_below_drewN | apply below_drew1) | exact HB.out)) hb); clear HB; have HB := n0_; clear n0_; (try clear hb); (try clear hb2); (try clear hk); (try clear hi)) | (go_at_call 28; (with_reducible refine (logjamref38_Conflict.calls k _ _ l0 a1 a2 t189 _ ?side1 ?side2 A10.out).mono ?_); (case side1 => repeat (first | exact (Kd.C_below HR0.out HB.out) | (with_reducible refine Kd.C_alloc ?_ _) | (with_reducible refine Kd.C_drewN ?_ _) | (with_reducible refine Kd.C_drew ?_))); (case side2 => exact HC0.out); rintro e w13 ⟨rfl, hb⟩; have n0_ := Aside0.mk (below_step (by repeat (first | (with_reducible first | exact HB.out | apply below_alloc | apply pw_below_drewN | apply below_drew1) | exact HB.out)) hb); clear HB; have HB := n0_; clear n0_; (try clear hb); (try clear hb2); (try clear hk); (try clear hi)))
     go_meet
     case rel => exact ⟨_, (t189), (by first | rfl | (simp; done) | (simp only [emptyNe_, emptyEq_]; done) | (simp [*]; done)), H', ⟨by first | omega | exact Nat.le_refl _⟩, ⟨by repeat (first | (with_reducible first | exact HB.out | apply below_alloc | apply pw_below_drewN | apply below_drew1) | exact HB.out)⟩⟩
    ·replace c9 := Bool.eq_false_iff.mpr c9
     subst c9
     have H1 : (logjamref38_Before.j0 k false) = some r := by rw [if_neg (show ¬ (false = true) by decide)] at H; exact H
     clear H
     have H := H1
     clear H1
     have H' := Aside0.mk H
     clear H
     go_wp2_with (first | (go_at_call 30; (with_reducible refine (logjamref38_Committed.calls k _ _ l0 a1 true _ ?side1 ?side2 A6.out).mono ?_); (case side1 => repeat (first | exact (Kd.C_below HR0.out HB.out) | (with_reducible refine Kd.C_alloc ?_ _) | (with_reducible refine Kd.C_drewN ?_ _) | (with_reducible refine Kd.C_drew ?_))); (case side2 => exact HC0.out); rintro e w14 ⟨rfl, hb⟩; have n0_ := Aside0.mk (below_step (by repeat (first | (with_reducible first | exact HB.out | apply below_alloc | apply pw_below_drewN | apply below_drew1) | exact HB.out)) hb); clear HB; have HB := n0_; clear n0_; (try clear hb); (try clear hb2); (try clear hk); (try clear hi)) | (go_at_call 30; (with_reducible refine (logjamref38_Committed.calls k _ _ l0 a2 false _ ?side1 ?side2 A8.out).mono ?_); (case side1 => repeat (first | exact (Kd.C_below HR0.out HB.out) | (with_reducible refine Kd.C_alloc ?_ _) | (with_reducible refine Kd.C_drewN ?_ _) | (with_reducible refine Kd.C_drew ?_))); (case side2 => exact HC0.out); rintro e w15 ⟨rfl, hb⟩; have n0_ := Aside0.mk (below_step (by repeat (first | (with_reducible first | exact HB.out | apply below_alloc | apply pw_below_drewN | apply below_drew1) | exact HB.out)) hb); clear HB; have HB := n0_; clear n0_; (try clear hb); (try clear hb2); (try clear hk); (try clear hi)))
     go_meet
     case rel => exact ⟨_, (false), (by first | rfl | (simp; done) | (simp only [emptyNe_, emptyEq_]; done) | (simp [*]; done)), H', ⟨by first | omega | exact Nat.le_refl _⟩, ⟨by repeat (first | (with_reducible first | exact HB.out | apply below_alloc | apply pw_below_drewN | apply below_drew1) | exact HB.out)⟩⟩
   ·replace c7 := Bool.eq_false_iff.mpr c7
    subst c7
    have H1 : (logjamref38_Before.j0 k false) = some r := by rw [if_neg (show ¬ (false = true) by decide)] at H; exact H
    clear H
    have H := H1
    clear H1
    have H' := Aside0.mk H
    clear H
    go_wp2_with (first | (go_at_call 30; (with_reducible refine (logjamref38_Committed.calls k _ _ l0 a1 false _ ?side1 ?side2 A6.out).mono ?_); (case side1 => repeat (first | exact (Kd.C_below HR0.out HB.out) | (with_reducible refine Kd.C_alloc ?_ _) | (with_reducible refine Kd.C_drewN ?_ _) | (with_reducible refine Kd.C_drew ?_))); (case side2 => exact HC0.out); rintro e w16 ⟨rfl, hb⟩; have n0_ := Aside0.mk (below_step (by repeat (first | (with_reducible first | exact HB.out | apply below_alloc | apply pw_below_drewN | apply below_drew1) | exact HB.out)) hb); clear HB; have HB := n0_; clear n0_; (try clear hb); (try clear hb2); (try clear hk); (try clear hi)))
    go_meet
    case rel => exact ⟨_, (false), (by first | rfl | (simp; done) | (simp only [emptyNe_, emptyEq_]; done) | (simp [*]; done)), H', ⟨by first | omega | exact Nat.le_refl _⟩, ⟨by repeat (first | (with_reducible first | exact HB.out | apply below_alloc | apply pw_below_drewN | apply below_drew1) | exact HB.out)⟩⟩
 case rest =>
  clear HC4; try clear c1; try clear p2; try clear c5; try clear c5b0; try clear c5b1; try clear c7; try clear c9; try clear c13
  obtain ⟨kq, x6_3, rfl, HA, HJ3, HB⟩ := hcut
  cases kq with
  | zero => exact absurd HA.out (by simp [logjamref38_Before.j0])
  | succ kj3 =>
   have H := HA.out
   clear HA
   simp only [logjamref38_Before.j0] at H
   obtain rfl := Option.some.inj H
   go_wp2
   go_ret
   exact ⟨by first | rfl | (simp [errW_none, errW_some] <;> rfl) | (simp [*, errW_none, errW_some] <;> rfl), by repeat (first | (with_reducible first | exact HB.out | apply below_alloc | apply pw_below_drewN | apply below_drew1) | exact HB.out)⟩
end Go.Proofs.Ytadepdeckapgcaa.PHi
end

section
namespace Go.Proofs.Ytadepdeckapgcaa.Hi
open Go.RowKit Go.Proofs.YtadepdeckapgcaaW.PrintWords Go.Proofs.YtadepdeckapgcaaW.PrintLast Go.Proofs.YtadepdeckapgcaaW.PrintMore Go.Proofs.Ytadepdeckapgcaa.PHi Go.Proofs.Ytadepdeckapgcaa.Orc
set_option linter.unusedVariables false
set_option linter.unusedSimpArgs false
theorem Ev.step1 {α : Type} {g : Nat → Option α} {r : α} (h : ∀ k, g (k + 1) = some r) : Ev g r := Ev.step h (Ev.now r)
def MX : Nat := 9223372036854775807
theorem drop_cons' {α : Type} (d : α) (l : List α) (k : Nat) (h : k < l.length) : l.drop k = l.getD k d :: l.drop (k + 1) := by
  rw [List.drop_eq_getElem_cons h]; simp [h]
theorem wrap_succ (i : Nat) (n : Nat) (h : i < n) (hn : n ≤ MX) : wrap64 ((i : Int) + 1) = ((i + 1 : Nat) : Int) := by unfold wrap64; unfold MX at hn; omega
theorem getD_mem {l : List Int} {i : Nat} (h : i < l.length) : l.getD i 0 ∈ l := by rw [show l.getD i 0 = l[i] from by simp [h]]; exact List.getElem_mem _
theorem ev_few (l : List Mk) : Ev (fun k => logjamlaw38_few.f k l) (l.take 120) := by
  by_cases q : (l.length : Int) > 120
  · refine Ev.congr (f := fun k => logjamlaw38_few.j0 k (l.take 120)) (fun k => by simp only [logjamlaw38_few.f]; rw [if_pos q, if_pos (by omega)]) ?_
    exact Ev.step1 (fun k => by simp only [logjamlaw38_few.j0, Option.bind_some]; rw [if_pos (by simp; omega)]; rfl)
  · rw [List.take_of_length_le (by omega)]
    refine Ev.congr (f := fun k => logjamlaw38_few.j0 k l) (fun k => by simp only [logjamlaw38_few.f]; rw [if_neg q]) ?_
    exact Ev.step1 (fun k => by simp only [logjamlaw38_few.j0, Option.bind_some]; rw [if_pos (by simp; omega)]; rfl)
def ixG : List Mk → Nat → List Int → List Int
  | [], _, _ => []
  | m :: r, i, L => if isEnd m = true then (if m.f2 ∈ L then ixG r (i + 1) L else (i : Int) :: ixG r (i + 1) (m.f2 :: L)) else ixG r (i + 1) L
def mkAt (m : List Mk) (j : Int) : Mk := rd_T29 m j
theorem ends_l1 (m : List Mk) (x : List Int) (i : Nat) (hi : i < m.length) (hm : m.length ≤ MX) (hx : x.length ≤ MX) (hj : ∀ j ∈ x, 0 ≤ j ∧ j < m.length) (r : List Int)
    (h1 : x.any (fun j => (mkAt m j).f2 == (mkAt m i).f2) = true → Ev (fun k => logjamref38_Ends.l0 k m x ((i + 1 : Nat) : Int)) r)
    (h2 : x.any (fun j => (mkAt m j).f2 == (mkAt m i).f2) = false → Ev (fun k => if x.length < 17592186044416 then logjamref38_Ends.l0 k m (x ++ [(i : Int)]) ((i + 1 : Nat) : Int) else none) r) :
    ∀ (d s : Nat) (b : Bool), s + d = x.length → (b || (x.drop s).any (fun j => (mkAt m j).f2 == (mkAt m i).f2)) = x.any (fun j => (mkAt m j).f2 == (mkAt m i).f2) → Ev (fun k => logjamref38_Ends.l1 k m x (i : Int) b (s : Int)) r := by
  intro d
  have hwi := Lib.hid (wrap_succ i m.length hi hm)
  induction d with
  | zero =>
    intro s b hs hb
    rw [List.drop_of_length_le (by omega)] at hb
    simp only [List.any_nil, Bool.or_false] at hb
    cases b
    · exact Ev.step (f := fun k => if x.length < 17592186044416 then logjamref38_Ends.l0 k m (x ++ [(i : Int)]) ((i + 1 : Nat) : Int) else none) (fun k => by simp only [logjamref38_Ends.l1]; rw [if_neg (by omega), if_neg (by simp), hwi.out]) (h2 hb.symm)
    · exact Ev.step (f := fun k => logjamref38_Ends.l0 k m x ((i + 1 : Nat) : Int)) (fun k => by simp only [logjamref38_Ends.l1]; rw [if_neg (by omega), if_pos trivial, hwi.out]) (h1 hb.symm)
  | succ d ih =>
    intro s b hs hb
    have hw := Lib.hid (wrap_succ s x.length (by omega) hx)
    have hd := drop_cons' 0 x s (by omega)
    rw [hd, List.any_cons] at hb
    cases b
    · have hmem : x.getD s 0 ∈ x := getD_mem (by omega)
      obtain ⟨g0, g1⟩ := hj _ hmem
      have hr : rd x (s : Int) = x.getD s 0 := rfl
      refine Ev.step (f := fun k => logjamref38_Ends.l1 k m x (i : Int) ((mkAt m (x.getD s 0)).f2 == (mkAt m i).f2) ((s + 1 : Nat) : Int)) (fun k => by simp only [logjamref38_Ends.l1]; rw [if_pos (by omega), if_neg (by simp), if_pos (by omega), hr, if_pos g0, if_pos g1, if_pos (by omega), if_pos (by omega), hw.out]; rfl) ?_
      exact ih (s + 1) _ (by omega) (by rw [← hb]; simp)
    · refine Ev.step (f := fun k => logjamref38_Ends.l1 k m x (i : Int) true ((s + 1 : Nat) : Int)) (fun k => by simp only [logjamref38_Ends.l1]; rw [if_pos (by omega), if_pos trivial, hw.out]) ?_
      exact ih (s + 1) true (by omega) (by rw [← hb]; simp)
theorem ends_l0 (m : List Mk) (hm : m.length ≤ 1000000) : ∀ (d i : Nat) (x L : List Int), i + d = m.length → x.length ≤ i → (∀ j ∈ x, 0 ≤ j ∧ j < m.length) → (∀ q, q ∈ L ↔ ∃ j ∈ x, (mkAt m j).f2 = q) →
    Ev (fun k => logjamref38_Ends.l0 k m x (i : Int)) (x ++ ixG (m.drop i) i L) := by
  intro d
  induction d with
  | zero =>
    intro i x L hi hx hj hL
    rw [List.drop_of_length_le (by omega)]
    simp only [ixG, List.append_nil]
    exact Ev.step1 (fun k => by simp only [logjamref38_Ends.l0]; rw [if_neg (by omega)])
  | succ d ih =>
    intro i x L hi hx hj hL
    have hmx : m.length ≤ MX := by unfold MX; omega
    have hw := Lib.hid (wrap_succ i m.length (by omega) hmx)
    have he : rd_T29 m (i : Int) = m.getD i z29 := rfl
    have hat : mkAt m i = m.getD i z29 := rfl
    have ihs := ih (i + 1) x L (by omega) (by omega) hj hL
    rw [drop_cons' z29 m i (by omega)]
    have hany : x.any (fun j => (mkAt m j).f2 == (mkAt m i).f2) = decide ((m.getD i z29).f2 ∈ L) := by
      rw [Bool.eq_iff_iff, decide_eq_true_iff, hL, List.any_eq_true, hat]
      simp
    have inner : isEnd (m.getD i z29) = true → Ev (fun k => logjamref38_Ends.l1 k m x (i : Int) false ((0 : Nat) : Int)) (x ++ ixG (m.getD i z29 :: m.drop (i + 1)) i L) := by
      intro hE
      simp only [ixG]
      rw [if_pos hE]
      refine ends_l1 m x i (by omega) hmx (by unfold MX; omega) hj _ (fun h => ?_) (fun h => ?_) x.length 0 false (Nat.zero_add _) (by simp)
      · rw [hany] at h
        rw [if_pos (of_decide_eq_true h)]
        exact ihs
      · rw [hany] at h
        rw [if_neg (of_decide_eq_false h)]
        refine Ev.congr (f := fun k => logjamref38_Ends.l0 k m (x ++ [(i : Int)]) ((i + 1 : Nat) : Int)) (fun k => if_pos (by omega)) ?_
        have := ih (i + 1) (x ++ [(i : Int)]) ((m.getD i z29).f2 :: L) (by omega) (by simp; omega) (fun j hj2 => by
          rcases List.mem_append.1 hj2 with h | h
          · exact hj j h
          · simp at h; subst h; omega) (fun q => by
          rw [List.mem_cons, hL]
          constructor
          · rintro (rfl | ⟨j, h1, h2⟩)
            · exact ⟨i, by simp, by rw [hat]⟩
            · exact ⟨j, by simp [h1], h2⟩
          · rintro ⟨j, h1, h2⟩
            rcases List.mem_append.1 h1 with h | h
            · exact .inr ⟨j, h, h2⟩
            · simp at h; subst h; left; rw [← h2, hat])
        simpa using this
    by_cases q1 : (m.getD i z29).f2 < 1
    · have hE : isEnd (m.getD i z29) = false := by unfold isEnd; rw [decide_eq_false (by omega)]; rfl
      simp only [ixG]; rw [hE, if_neg (by simp)]
      exact Ev.step (f := fun k => logjamref38_Ends.l0 k m x ((i + 1 : Nat) : Int)) (fun k => by simp only [logjamref38_Ends.l0]; rw [if_pos (by omega), if_pos (by omega), he, if_pos q1, hw.out]) ihs
    · have hp : decide ((m.getD i z29).f2 > 0) = true := decide_eq_true (by omega)
      by_cases q2 : (m.getD i z29).f0 = 3
      · exact Ev.step (f := fun k => logjamref38_Ends.l1 k m x (i : Int) false ((0 : Nat) : Int)) (fun k => by simp only [logjamref38_Ends.l0]; rw [if_pos (by omega), if_pos (by omega), he, if_neg q1, if_pos q2]; rfl) (inner (by unfold isEnd; rw [hp, q2]; rfl))
      · by_cases q3 : (m.getD i z29).f0 = 4
        · exact Ev.step (f := fun k => logjamref38_Ends.l1 k m x (i : Int) false ((0 : Nat) : Int)) (fun k => by simp only [logjamref38_Ends.l0]; rw [if_pos (by omega), if_pos (by omega), he, if_neg q1, if_neg q2, if_pos q3]; rfl) (inner (by unfold isEnd; rw [hp, q3]; rfl))
        · have hE : isEnd (m.getD i z29) = false := by unfold isEnd; rw [beq_eq_false_iff_ne.2 q2, beq_eq_false_iff_ne.2 q3, Bool.or_false, Bool.and_false]
          simp only [ixG]; rw [hE, if_neg (by simp)]
          exact Ev.step (f := fun k => logjamref38_Ends.l0 k m x ((i + 1 : Nat) : Int)) (fun k => by simp only [logjamref38_Ends.l0]; rw [if_pos (by omega), if_pos (by omega), he, if_neg q1, if_neg q2, if_neg q3, hw.out]) ihs
theorem ev_rends (m : List Mk) (hm : m.length ≤ 1000000) : Ev (fun k => logjamref38_Ends.f k m) (ixG m 0 []) := by
  have := ends_l0 m hm m.length 0 [] [] (Nat.zero_add _) (by simp) (by simp) (by simp)
  simp only [List.nil_append, List.drop_zero] at this
  exact this
def enAt (m : List Mk) (j : Int) : En := ⟨(mkAt m j).f2, (mkAt m j).f1, (mkAt m j).f0, j⟩
theorem ends_ix (m : List Mk) : ∀ (d i : Nat) (L : List Int), i + d = m.length → endsG (m.drop i) i L = (ixG (m.drop i) i L).map (enAt m) := by
  intro d
  induction d with
  | zero => intro i L hi; rw [List.drop_of_length_le (by omega)]; rfl
  | succ d ih =>
    intro i L hi
    rw [drop_cons' z29 m i (by omega)]
    simp only [endsG, ixG]
    split
    · split
      · exact ih (i + 1) L (by omega)
      · rw [List.map_cons, ih (i + 1) _ (by omega)]; rfl
    · exact ih (i + 1) L (by omega)
theorem ends_eq (m : List Mk) : endsG m 0 [] = (ixG m 0 []).map (enAt m) := ends_ix m m.length 0 [] (Nat.zero_add _)
theorem ixG_in (m : List Mk) : ∀ (l : List Mk) (i : Nat) (L : List Int), i + l.length = m.length → ∀ j ∈ ixG l i L, 0 ≤ j ∧ j < m.length := by
  intro l
  induction l with
  | nil => intro i L hi j hj; cases hj
  | cons x r ih =>
    intro i L hi j hj
    simp only [List.length_cons] at hi
    unfold ixG at hj
    split at hj
    · split at hj
      · exact ih _ _ (by omega) j hj
      · rcases List.mem_cons.1 hj with rfl | h
        · omega
        · exact ih _ _ (by omega) j h
    · exact ih _ _ (by omega) j hj
theorem ixG_len (l : List Mk) : ∀ (i : Nat) (L : List Int), (ixG l i L).length ≤ l.length := by
  induction l with
  | nil => intro i L; exact Nat.le_refl _
  | cons x r ih =>
    intro i L
    have a := ih (i + 1) L; have b := ih (i + 1) (x.f2 :: L)
    unfold ixG
    split
    · split <;> simp only [List.length_cons] <;> omega
    · simp only [List.length_cons]; omega
theorem ends_nodup : ∀ (l : List Mk) (i : Nat) (L : List Int), ((endsG l i L).map (·.f0)).Nodup ∧ ∀ e ∈ endsG l i L, e.f0 ∉ L ∧ 0 < e.f0 := by
  intro l
  induction l with
  | nil => intro i L; exact ⟨List.nodup_nil, fun e he => by cases he⟩
  | cons x r ih =>
    intro i L
    unfold endsG
    split
    · rename_i hE
      split
      · exact ih _ _
      · rename_i hL
        obtain ⟨h1, h2⟩ := ih (i + 1) (x.f2 :: L)
        refine ⟨?_, fun e he => ?_⟩
        · rw [List.map_cons, List.nodup_cons]
          refine ⟨fun hm => ?_, h1⟩
          obtain ⟨e, he, hf⟩ := List.mem_map.1 hm
          exact (h2 e he).1 (by rw [hf]; exact List.mem_cons_self)
        · rcases List.mem_cons.1 he with rfl | he
          · exact ⟨hL, by unfold isEnd at hE; simp at hE; exact hE.1⟩
          · exact ⟨fun hm => (h2 e he).1 (List.mem_cons_of_mem _ hm), (h2 e he).2⟩
    · exact ih _ _
def comE (a : Int) : List En → Bool
  | [] => false
  | e :: r => if e.f0 = a then e.f2 == 3 else comE a r
theorem comsG_sub (a : Int) : ∀ l : List En, a ∈ comsG l → a ∈ l.map (·.f0)
  | [], h => by cases h
  | e :: r, h => by
    unfold comsG at h
    split at h
    · rcases List.mem_cons.1 h with rfl | h
      · simp
      · exact List.mem_cons_of_mem _ (comsG_sub a r h)
    · exact List.mem_cons_of_mem _ (comsG_sub a r h)
theorem comE_eq (a : Int) : ∀ l : List En, (l.map (·.f0)).Nodup → comE a l = decide (a ∈ comsG l)
  | [], _ => rfl
  | e :: r, h => by
    rw [List.map_cons, List.nodup_cons] at h
    have ih := comE_eq a r h.2
    unfold comE comsG
    by_cases q : e.f0 = a
    · rw [if_pos q]
      have hn : a ∉ comsG r := fun hm => h.1 (q ▸ comsG_sub a r hm)
      split
      · rename_i h3; rw [h3, q]; simp
      · rename_i h3; simp [h3, hn]
    · rw [if_neg q, ih]
      have hq : ¬ a = e.f0 := fun e => q e.symm
      split
      · simp [hq]
      · rfl
theorem committed_mem (m : List Mk) (a : Int) : a ∈ committedG m ↔ a ∈ comsG (endsG m 0 []) := by unfold committedG srt; exact List.mem_mergeSort
theorem com_l0 (m : List Mk) (a : Int) (x : List Int) (hx : x.length ≤ MX) (hj : ∀ j ∈ x, 0 ≤ j ∧ j < m.length) : ∀ (d i : Nat), i + d = x.length → Ev (fun k => logjamref38_Committed.l0 k m a x (i : Int)) (comE a ((x.drop i).map (enAt m))) := by
  intro d
  induction d with
  | zero =>
    intro i hi
    rw [List.drop_of_length_le (by omega)]
    exact Ev.step1 (fun k => by simp only [logjamref38_Committed.l0]; rw [if_neg (by omega)]; rfl)
  | succ d ih =>
    intro i hi
    have hw := Lib.hid (wrap_succ i x.length (by omega) hx)
    have hmem : x.getD i 0 ∈ x := getD_mem (by omega)
    obtain ⟨g0, g1⟩ := hj _ hmem
    have hr : rd x (i : Int) = x.getD i 0 := rfl
    rw [drop_cons' 0 x i (by omega), List.map_cons]
    simp only [comE]
    by_cases q : (enAt m (x.getD i 0)).f0 = a
    · rw [if_pos q]
      have q' : (rd_T29 m (x.getD i 0)).f2 = a := q
      exact Ev.step1 (fun k => by simp only [logjamref38_Committed.l0]; rw [if_pos (by omega), if_pos (by omega), hr, if_pos g0, if_pos g1, if_pos q']; rfl)
    · rw [if_neg q]
      have q' : ¬ (rd_T29 m (x.getD i 0)).f2 = a := q
      exact Ev.step (f := fun k => logjamref38_Committed.l0 k m a x ((i + 1 : Nat) : Int)) (fun k => by simp only [logjamref38_Committed.l0]; rw [if_pos (by omega), if_pos (by omega), hr, if_pos g0, if_pos g1, if_neg q', hw.out]) (ih (i + 1) (by omega))
theorem ev_rcom (m : List Mk) (hm : m.length ≤ 1000000) (a : Int) : Ev (fun k => logjamref38_Committed.f k m a) (decide (a ∈ committedG m)) := by
  have hc : comE a ((ixG m 0 []).map (enAt m)) = decide (a ∈ committedG m) := by
    rw [← ends_eq, comE_eq a _ (ends_nodup m 0 []).1]
    rw [Bool.eq_iff_iff, decide_eq_true_iff, decide_eq_true_iff, committed_mem]
  rw [← hc]
  refine Ev.congr (f := fun k => (logjamref38_Ends.f k m).bind fun t180 => (logjamref38_Committed.l0 k m a t180 0)) (fun k => rfl) ?_
  refine Ev.bind (ev_rends m hm) ?_
  exact com_l0 m a (ixG m 0 []) (by have := ixG_len m 0 []; unfold MX; omega) (ixG_in m m 0 [] (Nat.zero_add _)) _ 0 (Nat.zero_add _)
theorem idx_l0 (l : List Int) (a : Int) (hl : l.length ≤ MX) : ∀ (d i : Nat), i + d = l.length → ∃ r, Ev (fun k => slices_Index_int_int.l0 k l a (l.length : Int) (i : Int)) r ∧ (r ≥ 0 ↔ a ∈ l.drop i) := by
  intro d
  induction d with
  | zero =>
    intro i hi
    rw [List.drop_of_length_le (by omega)]
    exact ⟨-1, Ev.step1 (fun k => by simp only [slices_Index_int_int.l0]; rw [if_neg (by omega)]), by simp⟩
  | succ d ih =>
    intro i hi
    have hw := Lib.hid (wrap_succ i l.length (by omega) hl)
    have hr : rd l (i : Int) = l.getD i 0 := rfl
    rw [drop_cons' 0 l i (by omega)]
    by_cases q : a = l.getD i 0
    · exact ⟨i, Ev.step1 (fun k => by simp only [slices_Index_int_int.l0]; rw [if_pos (by omega), if_pos (by omega), if_pos (by omega), hr, if_pos q]), by rw [q]; simp⟩
    · obtain ⟨r, h1, h2⟩ := ih (i + 1) (by omega)
      exact ⟨r, Ev.step (f := fun k => slices_Index_int_int.l0 k l a (l.length : Int) ((i + 1 : Nat) : Int)) (fun k => by simp only [slices_Index_int_int.l0]; rw [if_pos (by omega), if_pos (by omega), if_pos (by omega), hr, if_neg q, hw.out]) h1, by rw [h2, List.mem_cons]; exact ⟨.inr, fun e => e.elim (fun e => absurd e q) id⟩⟩
theorem ev_contains (l : List Int) (a : Int) (hl : l.length ≤ MX) : Ev (fun k => slices_Contains_int_int.f k l a) (decide (a ∈ l)) := by
  obtain ⟨r, h1, h2⟩ := idx_l0 l a hl l.length 0 (Nat.zero_add _)
  refine Ev.congr (f := fun k => (slices_Index_int_int.l0 k l a (l.length : Int) ((0 : Nat) : Int)).bind fun t173 => some (decide (t173 ≥ 0))) (fun k => rfl) ?_
  refine Ev.bind h1 ?_
  rw [show decide (a ∈ l) = decide (r ≥ 0) from by rw [Bool.eq_iff_iff, decide_eq_true_iff, decide_eq_true_iff, h2]; simp]
  exact Ev.now _
theorem any_or {α : Type} (p q : α → Bool) : ∀ l : List α, l.any (fun y => p y || q y) = (l.any p || l.any q)
  | [] => rfl
  | x :: r => by rw [List.any_cons, List.any_cons, List.any_cons, any_or p q r]; cases p x <;> cases q x <;> cases r.any p <;> cases r.any q <;> rfl
def rhitW (b : Int) (R W : List Int) (y : Mk) : Bool := y.f2 == b && acc y && (decide (y.f3 ∈ W) || (y.f0 == 2 && decide (y.f3 ∈ R)))
theorem conf_gen (a b : Int) : ∀ (l : List Mk) (R W : List Int), confS a b l R W = (rconf a b l || l.any (rhitW b R W))
  | [], R, W => rfl
  | x :: r, R, W => by
    rw [rconf_cons, List.any_cons]
    unfold confS
    by_cases ha : acc x = true
    · rw [if_pos ha]
      by_cases hx : x.f2 = b ∧ (x.f3 ∈ W ∨ (x.f0 = 2 ∧ x.f3 ∈ R))
      · rw [if_pos hx]
        have : rhitW b R W x = true := by unfold rhitW; rw [ha]; simp only [Bool.and_true, Bool.and_eq_true, Bool.or_eq_true, beq_iff_eq, decide_eq_true_iff]; exact hx
        rw [this]; simp
      · rw [if_neg hx]
        have h0 : rhitW b R W x = false := by
          rw [Bool.eq_false_iff]; intro h; apply hx
          unfold rhitW at h; simp only [Bool.and_eq_true, Bool.or_eq_true, beq_iff_eq, decide_eq_true_iff] at h
          exact ⟨h.1.1, h.2⟩
        rw [h0, conf_gen a b r]
        by_cases hg : x.f2 = a
        · have hgo : rgo a x = true := by unfold rgo; rw [ha, hg]; simp
          rw [hgo, Bool.true_and, if_pos hg]
          have hp : ∀ y, rhitW b (x.f3 :: R) (if x.f2 = a ∧ x.f0 = 2 then x.f3 :: W else W) y = (rhit b x y || rhitW b R W y) := by
            intro y
            unfold rhitW rhit
            rw [Bool.eq_iff_iff]
            by_cases h2 : x.f0 = 2
            · rw [if_pos ⟨hg, h2⟩, h2]
              simp only [Bool.and_eq_true, Bool.or_eq_true, beq_iff_eq, decide_eq_true_iff, List.mem_cons]
              by_cases h3 : y.f3 = x.f3
              · simp only [h3, true_or, or_true, and_true, true_and]
                exact ⟨fun q => .inl q, fun q => q.elim id (fun q => q.1)⟩
              · simp only [h3, false_or, false_and, and_false]
            · rw [if_neg (fun q => h2 q.2)]
              simp only [Bool.and_eq_true, Bool.or_eq_true, beq_iff_eq, decide_eq_true_iff, List.mem_cons]
              by_cases h3 : y.f3 = x.f3
              case neg => simp only [h3, false_or, false_and, and_false]
              simp only [h3, h2, true_or, or_true, and_true, true_and, false_or]
              constructor
              · rintro ⟨⟨h4, h5⟩, h6 | h6⟩
                · exact .inr ⟨⟨h4, h5⟩, .inl h6⟩
                · exact .inl ⟨⟨h4, h5⟩, h6⟩
              · rintro (⟨⟨h4, h5⟩, h6⟩ | ⟨⟨h4, h5⟩, h6 | h6⟩)
                · exact ⟨⟨h4, h5⟩, .inr h6⟩
                · exact ⟨⟨h4, h5⟩, .inl h6⟩
                · exact ⟨⟨h4, h5⟩, .inr h6.1⟩
          rw [show r.any (rhitW b (x.f3 :: R) (if x.f2 = a ∧ x.f0 = 2 then x.f3 :: W else W)) = r.any (fun y => rhit b x y || rhitW b R W y) from by congr 1; funext y; exact hp y, any_or]
          cases rconf a b r <;> cases r.any (rhit b x) <;> cases r.any (rhitW b R W) <;> rfl
        · have hgo : rgo a x = false := by unfold rgo; rw [beq_eq_false_iff_ne.2 hg]; rfl
          rw [hgo, if_neg hg, if_neg (fun q => hg q.1)]
          simp
    · rw [if_neg ha, conf_gen a b r]
      have ha' : acc x = false := by simpa using ha
      have h1 : rgo a x = false := by unfold rgo; rw [ha']; simp
      have h0 : rhitW b R W x = false := by unfold rhitW; rw [ha']; simp
      rw [h1, h0]; simp
theorem conf_eq (a b : Int) (m : List Mk) : confS a b m [] [] = rconf a b m := by
  rw [conf_gen]
  have : m.any (rhitW b [] []) = false := by rw [List.any_eq_false]; intro y _; unfold rhitW; simp
  rw [this, Bool.or_false]
theorem access_f (m : Mk) : logjamref38_access.f m.f0 m.f1 m.f2 m.f3 m.f4 = some (acc m) := by
  unfold logjamref38_access.f acc
  split
  · rename_i h; rw [h]; rfl
  · rename_i h; rw [beq_eq_false_iff_ne.2 h, Bool.false_or]
theorem conf_l0 (m : List Mk) (a b : Int) (hm : m.length ≤ MX) : ∀ (d i : Nat), i + d = m.length → Ev (fun k => logjamref38_Conflict.l0 k m a b (i : Int)) (rconf a b (m.drop i)) := by
  intro d
  induction d with
  | zero =>
    intro i hi
    rw [List.drop_of_length_le (by omega)]
    exact Ev.step1 (fun k => by simp only [logjamref38_Conflict.l0]; rw [if_neg (by omega)]; rfl)
  | succ d ih =>
    intro i hi
    have hw := Lib.hid (wrap_succ i m.length (by omega) hm)
    have hrest := ih (i + 1) (by omega)
    rw [drop_cons' z29 m i (by omega), rconf_cons]
    have he : rd_T29 m (i : Int) = m.getD i z29 := rfl
    generalize m.getD i z29 = x at he ⊢
    have hj2f : ∀ j : Int, Ev (fun k => logjamref38_Conflict.j2 k m a b (i : Int) j false) (rconf a b (m.drop (i + 1))) := fun j =>
      Ev.step (f := fun k => logjamref38_Conflict.l0 k m a b ((i + 1 : Nat) : Int)) (fun k => by simp only [logjamref38_Conflict.j2]; rw [if_neg (by simp), hw.out]) hrest
    have inner : ∀ (e j : Nat), j + e = m.length → Ev (fun k => logjamref38_Conflict.l1 k m a b (i : Int) (j : Int)) ((rgo a x && (m.drop j).any (rhit b x)) || rconf a b (m.drop (i + 1))) := by
      intro e
      induction e with
      | zero =>
        intro j hj
        rw [List.drop_of_length_le (i := j) (by omega)]
        simp only [List.any_nil, Bool.and_false, Bool.false_or]
        exact Ev.step (f := fun k => logjamref38_Conflict.j2 k m a b (i : Int) (j : Int) false) (fun k => by simp only [logjamref38_Conflict.l1]; rw [if_neg (by omega)]) (hj2f _)
      | succ e ih2 =>
        intro j hj
        have hwj := Lib.hid (wrap_succ j m.length (by omega) hm)
        have hy : rd_T29 m (j : Int) = m.getD j z29 := rfl
        have hin := ih2 (j + 1) (by omega)
        rw [drop_cons' z29 m j (by omega), List.any_cons]
        generalize m.getD j z29 = y at hy ⊢
        by_cases hg : x.f2 = a
        · have hst : Ev (fun k => logjamref38_Conflict.j2 k m a b (i : Int) (j : Int) (acc x)) ((rgo a x && (rhit b x y || (m.drop (j + 1)).any (rhit b x))) || rconf a b (m.drop (i + 1))) := by
            cases hax : acc x
            · have : rgo a x = false := by unfold rgo; rw [hax]; simp
              rw [this]; simp only [Bool.false_and, Bool.false_or]
              exact hj2f _
            · have hgo : rgo a x = true := by unfold rgo; rw [hax, hg]; simp
              rw [hgo] at hin ⊢
              simp only [Bool.true_and] at hin ⊢
              have j3f : rhit b x y = false → Ev (fun k => logjamref38_Conflict.j3 k m a b (i : Int) (j : Int) false) (rhit b x y || (m.drop (j + 1)).any (rhit b x) || rconf a b (m.drop (i + 1))) := fun h => by
                rw [h, Bool.false_or]
                exact Ev.step (f := fun k => logjamref38_Conflict.l1 k m a b (i : Int) ((j + 1 : Nat) : Int)) (fun k => by simp only [logjamref38_Conflict.j3]; rw [if_neg (by simp), hwj.out]) hin
              have j3t : rhit b x y = true → Ev (fun k => logjamref38_Conflict.j3 k m a b (i : Int) (j : Int) true) (rhit b x y || (m.drop (j + 1)).any (rhit b x) || rconf a b (m.drop (i + 1))) := fun h => by
                rw [h, Bool.true_or, Bool.true_or]
                exact Ev.step1 (fun k => by simp only [logjamref38_Conflict.j3]; rw [if_pos trivial])
              by_cases h1 : y.f2 = b
              · cases hay : acc y
                · exact Ev.step (f := fun k => logjamref38_Conflict.j3 k m a b (i : Int) (j : Int) false) (fun k => by simp only [logjamref38_Conflict.j2]; rw [if_pos trivial, if_pos (by omega), if_pos (by omega), hy, if_pos h1, access_f, hay]; simp only [Option.bind_some]; rw [if_neg (by simp)]) (j3f (by unfold rhit; rw [hay]; simp))
                · by_cases h3 : y.f3 = x.f3
                  · by_cases h2 : x.f0 = 2
                    · exact Ev.step (f := fun k => logjamref38_Conflict.j3 k m a b (i : Int) (j : Int) true) (fun k => by simp only [logjamref38_Conflict.j2]; rw [if_pos trivial, if_pos (by omega), if_pos (by omega), hy, if_pos h1, access_f, hay]; simp only [Option.bind_some]; rw [if_pos trivial, if_pos (by omega), if_pos (by omega), he, if_pos h3, if_pos h2]) (j3t (by unfold rhit; rw [hay, h1, h3, h2]; simp))
                    · have hb : rhit b x y = (y.f0 == 2) := by unfold rhit; rw [hay, h1, h3, beq_eq_false_iff_ne.2 h2]; simp
                      have : Ev (fun k => logjamref38_Conflict.j3 k m a b (i : Int) (j : Int) (y.f0 == 2)) (rhit b x y || (m.drop (j + 1)).any (rhit b x) || rconf a b (m.drop (i + 1))) := by
                        cases hq : y.f0 == 2
                        · exact j3f (by rw [hb, hq])
                        · exact j3t (by rw [hb, hq])
                      exact Ev.step (f := fun k => logjamref38_Conflict.j3 k m a b (i : Int) (j : Int) (y.f0 == 2)) (fun k => by simp only [logjamref38_Conflict.j2]; rw [if_pos trivial, if_pos (by omega), if_pos (by omega), hy, if_pos h1, access_f, hay]; simp only [Option.bind_some]; rw [if_pos trivial, if_pos (by omega), if_pos (by omega), he, if_pos h3, if_neg h2]) this
                  · exact Ev.step (f := fun k => logjamref38_Conflict.j3 k m a b (i : Int) (j : Int) false) (fun k => by simp only [logjamref38_Conflict.j2]; rw [if_pos trivial, if_pos (by omega), if_pos (by omega), hy, if_pos h1, access_f, hay]; simp only [Option.bind_some]; rw [if_pos trivial, if_pos (by omega), if_pos (by omega), he, if_neg h3]) (j3f (by unfold rhit; rw [beq_eq_false_iff_ne.2 h3]; simp))
              · exact Ev.step (f := fun k => logjamref38_Conflict.j3 k m a b (i : Int) (j : Int) false) (fun k => by simp only [logjamref38_Conflict.j2]; rw [if_pos trivial, if_pos (by omega), if_pos (by omega), hy, if_neg h1]) (j3f (by unfold rhit; rw [beq_eq_false_iff_ne.2 h1]; simp))
          exact Ev.step (f := fun k => logjamref38_Conflict.j2 k m a b (i : Int) (j : Int) (acc x)) (fun k => by simp only [logjamref38_Conflict.l1]; rw [if_pos (by omega), if_pos (by omega), if_pos (by omega), he, if_pos hg, access_f]; rfl) hst
        · have hgo : rgo a x = false := by unfold rgo; rw [beq_eq_false_iff_ne.2 hg]; rfl
          rw [hgo]; simp only [Bool.false_and, Bool.false_or]
          exact Ev.step (f := fun k => logjamref38_Conflict.j2 k m a b (i : Int) (j : Int) false) (fun k => by simp only [logjamref38_Conflict.l1]; rw [if_pos (by omega), if_pos (by omega), if_pos (by omega), he, if_neg hg]) (hj2f _)
    exact Ev.step (f := fun k => logjamref38_Conflict.l1 k m a b (i : Int) ((i + 1 : Nat) : Int)) (fun k => by simp only [logjamref38_Conflict.l0]; rw [if_pos (by omega), hw.out]) (inner d (i + 1) (by omega))
theorem ev_rconf (m : List Mk) (a b : Int) (hm : m.length ≤ 1000000) : Ev (fun k => logjamref38_Conflict.f k m a b) (rconf a b m) := by
  have := conf_l0 m a b (by unfold MX; omega) m.length 0 (Nat.zero_add _)
  exact this
def befG (m : List Mk) (a b : Int) : Bool := decide (a ≠ b) && (decide (a ∈ committedG m) && (decide (b ∈ committedG m) && rconf a b m))
theorem ev_rbefore (m : List Mk) (a b : Int) (hm : m.length ≤ 1000000) : Ev (fun k => logjamref38_Before.f k m a b) (befG m a b) := by
  have j0 : ∀ r, Ev (fun k => logjamref38_Before.j0 k r) r := fun r => Ev.step1 (fun k => rfl)
  unfold befG
  by_cases q : a = b
  · rw [decide_eq_false (fun h => h q), Bool.false_and]
    exact Ev.congr (f := fun k => logjamref38_Before.j0 k false) (fun k => by simp only [logjamref38_Before.f]; rw [if_pos q]) (j0 _)
  · rw [decide_eq_true (show a ≠ b from q), Bool.true_and]
    refine Ev.congr (f := fun k => (logjamref38_Committed.f k m a).bind fun t187 => (if t187 = true then ((logjamref38_Committed.f k m b).bind fun t188 => (if t188 = true then ((logjamref38_Conflict.f k m a b).bind fun t189 => (logjamref38_Before.j0 k t189)) else (logjamref38_Before.j0 k false))) else (logjamref38_Before.j0 k false))) (fun k => by simp only [logjamref38_Before.f]; rw [if_neg q]) ?_
    refine Ev.bind (ev_rcom m hm a) ?_
    cases decide (a ∈ committedG m)
    · exact Ev.congr (f := fun k => logjamref38_Before.j0 k false) (fun k => if_neg (by simp)) (j0 _)
    · refine Ev.congr (f := fun k => (logjamref38_Committed.f k m b).bind fun t188 => (if t188 = true then ((logjamref38_Conflict.f k m a b).bind fun t189 => (logjamref38_Before.j0 k t189)) else (logjamref38_Before.j0 k false))) (fun k => if_pos rfl) ?_
      refine Ev.bind (ev_rcom m hm b) ?_
      cases decide (b ∈ committedG m)
      · exact Ev.congr (f := fun k => logjamref38_Before.j0 k false) (fun k => if_neg (by simp)) (j0 _)
      · exact Ev.congr (f := fun k => (logjamref38_Conflict.f k m a b).bind fun t189 => (logjamref38_Before.j0 k t189)) (fun k => if_pos rfl) (Ev.bind (ev_rconf m a b hm) (j0 _))
theorem ev_before (m : List Mk) (a b : Int) (hok : okM m = true) : Ev (fun k => history_Before.f k m a b) (befG m a b) := by
  have hm := (okM_in hok).1
  have hc : (committedG m).length ≤ MX := by
    unfold committedG srt; rw [List.length_mergeSort]
    have := Nat.le_trans (comsG_len (endsG m 0 [])) (endsG_len m 0 [])
    unfold MX; omega
  have j0 : ∀ r, Ev (fun k => history_Before.j0 k r) r := fun r => Ev.step1 (fun k => rfl)
  have e1 : o_committed.f m = some (committedG m) := if_pos hok
  have e2 : o_conflict.f m a b = some (rconf a b m) := by rw [← conf_eq]; exact if_pos hok
  unfold befG
  by_cases q : a = b
  · rw [decide_eq_false (fun h => h q), Bool.false_and]
    exact Ev.congr (f := fun k => history_Before.j0 k false) (fun k => by simp only [history_Before.f, e1, Option.bind_some]; rw [if_pos q]) (j0 _)
  · rw [decide_eq_true (show a ≠ b from q), Bool.true_and]
    refine Ev.congr (f := fun k => (slices_Contains_int_int.f k (committedG m) a).bind fun t177 => (if t177 = true then ((slices_Contains_int_int.f k (committedG m) b).bind fun t178 => (if t178 = true then (history_Before.j0 k (rconf a b m)) else (history_Before.j0 k false))) else (history_Before.j0 k false))) (fun k => by simp only [history_Before.f, e1, e2, Option.bind_some]; rw [if_neg q]) ?_
    refine Ev.bind (ev_contains _ a hc) ?_
    cases decide (a ∈ committedG m)
    · exact Ev.congr (f := fun k => history_Before.j0 k false) (fun k => if_neg (by simp)) (j0 _)
    · refine Ev.congr (f := fun k => (slices_Contains_int_int.f k (committedG m) b).bind fun t178 => (if t178 = true then (history_Before.j0 k (rconf a b m)) else (history_Before.j0 k false))) (fun k => if_pos rfl) ?_
      refine Ev.bind (ev_contains _ b hc) ?_
      cases decide (b ∈ committedG m)
      · exact Ev.congr (f := fun k => history_Before.j0 k false) (fun k => if_neg (by simp)) (j0 _)
      · exact Ev.congr (f := fun k => history_Before.j0 k (rconf a b m)) (fun k => if_pos rfl) (j0 _)
end Go.Proofs.Ytadepdeckapgcaa.Hi
end

section
namespace Go.Proofs.Ytadepdeckapgcaa.Hi
open Go.RowKit Go.Proofs.YtadepdeckapgcaaW.PrintWords Go.Proofs.YtadepdeckapgcaaW.PrintLast Go.Proofs.YtadepdeckapgcaaW.PrintMore Go.Proofs.Ytadepdeckapgcaa.PHi Go.Proofs.Ytadepdeckapgcaa.Orc
set_option linter.unusedVariables false
set_option linter.unusedSimpArgs false
def frR (m : List Mk) (left : List Int) (b : Int) : Bool := !left.any (fun a => a != b && rconf a b m)
theorem frB_eq (m : List Mk) (left : List Int) : frB m left = frR m left := by
  funext b
  unfold frB frR
  congr 2
  funext a
  unfold ahd
  rw [conf_eq]
def pkR (fr : Int → Bool) : Int → List Int → Int
  | x, [] => x
  | x, b :: r => pkR fr (if fr b = true then (if x = 0 then b else if b < x then b else x) else x) r
theorem pkR_spec (fr : Int → Bool) : ∀ (l : List Int) (x : Int), 0 ≤ x → (∀ b ∈ l, 0 < b) → (pkR fr x l = x ∨ (pkR fr x l ∈ l ∧ fr (pkR fr x l) = true)) ∧ (x ≠ 0 → pkR fr x l ≠ 0 ∧ pkR fr x l ≤ x) ∧ ∀ b ∈ l, fr b = true → pkR fr x l ≠ 0 ∧ pkR fr x l ≤ b
  | [], x, h0, h => ⟨.inl rfl, fun h => ⟨h, Int.le_refl _⟩, fun b hb => by cases hb⟩
  | b :: r, x, h0, h => by
    have hb := h b List.mem_cons_self
    have hr : ∀ c ∈ r, 0 < c := fun c hc => h c (List.mem_cons_of_mem _ hc)
    unfold pkR
    by_cases hf : fr b = true
    · rw [if_pos hf]
      by_cases hx : x = 0
      · rw [if_pos hx]
        obtain ⟨h1, h2, h3⟩ := pkR_spec fr r b (by omega) hr
        obtain ⟨h4, h5⟩ := h2 (by omega)
        refine ⟨.inr ?_, fun q => absurd hx q, fun c hc hfc => ?_⟩
        · rcases h1 with e | ⟨e, f⟩
          · rw [e]; exact ⟨List.mem_cons_self, hf⟩
          · exact ⟨List.mem_cons_of_mem _ e, f⟩
        · rcases List.mem_cons.1 hc with rfl | hc
          · exact ⟨h4, h5⟩
          · exact h3 c hc hfc
      · rw [if_neg hx]
        by_cases hlt : b < x
        · rw [if_pos hlt]
          obtain ⟨h1, h2, h3⟩ := pkR_spec fr r b (by omega) hr
          obtain ⟨h4, h5⟩ := h2 (by omega)
          refine ⟨.inr ?_, fun q => ⟨h4, by omega⟩, fun c hc hfc => ?_⟩
          · rcases h1 with e | ⟨e, f⟩
            · rw [e]; exact ⟨List.mem_cons_self, hf⟩
            · exact ⟨List.mem_cons_of_mem _ e, f⟩
          · rcases List.mem_cons.1 hc with rfl | hc
            · exact ⟨h4, h5⟩
            · exact h3 c hc hfc
        · rw [if_neg hlt]
          obtain ⟨h1, h2, h3⟩ := pkR_spec fr r x h0 hr
          obtain ⟨h4, h5⟩ := h2 hx
          refine ⟨?_, fun q => ⟨h4, h5⟩, fun c hc hfc => ?_⟩
          · rcases h1 with e | ⟨e, f⟩
            · exact .inl e
            · exact .inr ⟨List.mem_cons_of_mem _ e, f⟩
          · rcases List.mem_cons.1 hc with rfl | hc
            · exact ⟨h4, by omega⟩
            · exact h3 c hc hfc
    · rw [if_neg hf]
      obtain ⟨h1, h2, h3⟩ := pkR_spec fr r x h0 hr
      refine ⟨?_, h2, fun c hc hfc => ?_⟩
      · rcases h1 with e | ⟨e, f⟩
        · exact .inl e
        · exact .inr ⟨List.mem_cons_of_mem _ e, f⟩
      · rcases List.mem_cons.1 hc with rfl | hc
        · exact absurd hfc hf
        · exact h3 c hc hfc
theorem idxP_spec (p : Int → Bool) : ∀ (l : List Int) (k : Nat), (idxP p k l = -1 ∧ ∀ x ∈ l, p x = false) ∨ ∃ i, ∃ h : i < l.length, idxP p k l = ((k + i : Nat) : Int) ∧ p l[i] = true ∧ ∀ j (hj : j < i), p (l[j]'(by omega)) = false
  | [], k => .inl ⟨rfl, fun x hx => by cases hx⟩
  | x :: r, k => by
    by_cases q : p x = true
    · exact .inr ⟨0, by simp, by simp [idxP, q], q, fun j hj => by omega⟩
    · have e : idxP p k (x :: r) = idxP p (k + 1) r := by simp only [idxP]; rw [if_neg q]
      rw [e]
      rcases idxP_spec p r (k + 1) with ⟨h1, h2⟩ | ⟨i, hi, h1, h2, h3⟩
      · exact .inl ⟨h1, fun y hy => by rcases List.mem_cons.1 hy with rfl | hy; simpa using q; exact h2 y hy⟩
      · refine .inr ⟨i + 1, by simpa using hi, by rw [h1]; congr 1; omega, by simpa using h2, fun j hj => ?_⟩
        cases j with
        | zero => simpa using q
        | succ j => simpa using h3 j (by omega)
theorem erase_filter : ∀ (S : List Int) (i : Nat) (hi : i < S.length), S.Nodup → S.eraseIdx i = S.filter (fun x => x != S[i])
  | x :: r, 0, hi, h => by
    rw [List.nodup_cons] at h
    simp only [List.eraseIdx_cons_zero, List.getElem_cons_zero, List.filter_cons, bne_self_eq_false, Bool.false_eq_true, if_false]
    symm
    rw [List.filter_eq_self]
    intro y hy
    simp only [bne_iff_ne, ne_eq]
    rintro rfl; exact h.1 hy
  | x :: r, i + 1, hi, h => by
    rw [List.nodup_cons] at h
    have hi' : i < r.length := by simpa using hi
    have hne : (x != r[i]) = true := by
      simp only [bne_iff_ne, ne_eq]; intro e; exact h.1 (e ▸ List.getElem_mem hi')
    rw [List.eraseIdx_cons_succ, List.getElem_cons_succ, List.filter_cons, hne, if_pos rfl, erase_filter r i hi' h.2]
theorem filter_len (l : List Int) (b : Int) (h : l.Nodup) (hb : b ∈ l) : (l.filter (fun x => x != b)).length + 1 = l.length := by
  rw [← h.erase_eq_filter, List.length_erase_of_mem hb]
  have := List.length_pos_of_mem hb
  omega
def rser (m : List Mk) : Nat → List Int → List Int → List Int × Bool
  | 0, _, out => (out, true)
  | k + 1, left, out => if pkR (frR m left) 0 left = 0 then (out, false) else rser m k (left.filter (fun x => x != pkR (frR m left) 0 left)) (out ++ [pkR (frR m left) 0 left])
theorem serial_eq (m : List Mk) : ∀ (n : Nat) (S left out : List Int), S.length = n → S.Perm left → S.Pairwise (· ≤ ·) → S.Nodup → (∀ b ∈ S, 0 < b) → serG m n S out = rser m n left out
  | 0, S, left, out, _, _, _, _, _ => rfl
  | n + 1, S, left, out, hn, hp, hs, hd, h0 => by
    have hfr : frR m S = frR m left := by funext b; unfold frR; rw [hp.any_eq]
    unfold serG rser
    rw [frB_eq, hfr]
    obtain ⟨h1, _, h3⟩ := pkR_spec (frR m left) left 0 (Int.le_refl _) (fun b hb => h0 b (hp.mem_iff.2 hb))
    rcases idxP_spec (frR m left) S 0 with ⟨e, hno⟩ | ⟨i, hi, e, hfi, hbe⟩
    · rw [e, if_pos (by decide)]
      rcases h1 with e1 | ⟨hm, hf⟩
      · rw [if_pos e1]
      · rw [hno _ (hp.mem_iff.2 hm)] at hf; cases hf
    · rw [e, if_neg (by omega)]
      obtain ⟨g1, g2⟩ := h3 S[i] (hp.mem_iff.1 (List.getElem_mem hi)) hfi
      rw [if_neg g1]
      have hpe : pkR (frR m left) 0 left = S[i] := by
        rcases h1 with e1 | ⟨hm, hf⟩
        · exact absurd e1 g1
        · obtain ⟨j, hj, ej⟩ := List.getElem_of_mem (hp.mem_iff.2 hm)
          have hij : i ≤ j := by
            rcases Nat.lt_or_ge j i with q | q
            · have := hbe j q; rw [ej, hf] at this; cases this
            · exact q
          rcases Nat.lt_or_eq_of_le hij with q | q
          · have := List.pairwise_iff_getElem.1 hs i j hi hj q
            rw [ej] at this; omega
          · subst q; exact ej.symm
      have ht : (((0 + i : Nat) : Int)).toNat = i := by omega
      rw [ht, hpe, erase_filter S i hi hd, show S.getD i 0 = S[i] from by simp [hi]]
      have hl := filter_len S S[i] hd (List.getElem_mem hi)
      exact serial_eq m n _ _ _ (by omega) (hp.filter _) (hs.sublist List.filter_sublist) (hd.sublist List.filter_sublist) (fun b hb => h0 b (List.mem_filter.1 hb).1)
theorem comsG_sublist : ∀ l : List En, (comsG l).Sublist (l.map (·.f0))
  | [] => List.Sublist.slnil
  | e :: r => by
    unfold comsG
    split
    · exact (comsG_sublist r).cons_cons _
    · exact (comsG_sublist r).cons _
theorem coms_nodup (m : List Mk) : (comsG (endsG m 0 [])).Nodup := (ends_nodup m 0 []).1.sublist (comsG_sublist _)
theorem coms_pos (m : List Mk) : ∀ b ∈ comsG (endsG m 0 []), 0 < b := fun b hb => by
  obtain ⟨e, he, hf⟩ := List.mem_map.1 (comsG_sub b _ hb)
  exact hf ▸ ((ends_nodup m 0 []).2 e he).2
theorem serial_page (m : List Mk) : serialG m = rser m (comsG (endsG m 0 [])).length (comsG (endsG m 0 [])) [] := by
  have hp : (committedG m).Perm (comsG (endsG m 0 [])) := List.mergeSort_perm _ _
  unfold serialG
  rw [← hp.length_eq]
  refine serial_eq m _ _ _ _ rfl hp ?_ (hp.nodup_iff.2 (coms_nodup m)) (fun b hb => coms_pos m b (hp.mem_iff.1 hb))
  have := List.pairwise_mergeSort (le := fun x y : Int => decide (x ≤ y)) (fun a b c => by simp; omega) (fun a b => by simp; omega) (comsG (endsG m 0 []))
  exact this.imp (fun h => by simpa using h)
def scanR (q c : Int) : List Mk → Bool
  | [] => true
  | y :: r => if y.f2 = q then (if y.f0 = 3 ∨ y.f0 = 4 then true else scanR q c r) else if acc y = true ∧ y.f3 = c then false else scanR q c r
def strictR : List Mk → Bool
  | [] => true
  | x :: r => if x.f0 = 2 ∧ ¬ x.f2 < 1 then scanR x.f2 x.f3 r && strictR r else strictR r
theorem strict_gen : ∀ (l : List Mk) (D : Int → List Int), (∀ c, ∀ q ∈ D c, 0 < q) → (strictG l D = true ↔ ((∀ c, ∀ q ∈ D c, scanR q c l = true) ∧ strictR l = true))
  | [], D, h0 => by simp [strictG, scanR, strictR]
  | y :: r, D, h0 => by
    unfold strictG
    by_cases hE : isEnd y = true
    · rw [if_pos hE]
      have hE' := hE
      unfold isEnd at hE'
      simp only [Bool.and_eq_true, decide_eq_true_iff, Bool.or_eq_true, beq_iff_eq] at hE'
      obtain ⟨hp, hk⟩ := hE'
      have hna : acc y = false := by
        unfold acc
        rcases hk with e | e <;> rw [e] <;> rfl
      have hsR : strictR (y :: r) = strictR r := by
        rw [strictR, if_neg]
        rintro ⟨e, _⟩; rcases hk with q | q <;> rw [q] at e <;> cases e
      have hmem : ∀ c q, q ∈ flt y.f2 (D c) ↔ q ∈ D c ∧ q ≠ y.f2 := fun c q => by unfold flt; rw [List.mem_filter]; simp
      rw [strict_gen r _ (fun c q hq => h0 c q ((hmem c q).1 hq).1), hsR]
      refine and_congr_left (fun _ => ⟨fun h c q hq => ?_, fun h c q hq => ?_⟩)
      · unfold scanR
        by_cases e : y.f2 = q
        · rw [if_pos e, if_pos hk]
        · rw [if_neg e, if_neg (by rw [hna]; simp)]
          exact h c q ((hmem c q).2 ⟨hq, fun e2 => e e2.symm⟩)
      · obtain ⟨h1, h2⟩ := (hmem c q).1 hq
        have := h c q h1
        unfold scanR at this
        rw [if_neg (fun e => h2 e.symm), if_neg (by rw [hna]; simp)] at this
        exact this
    · rw [if_neg hE]
      by_cases ha : acc y = true
      · rw [if_pos ha]
        have hk : ¬ (y.f0 = 3 ∨ y.f0 = 4) := by
          unfold acc at ha; simp only [Bool.or_eq_true, beq_iff_eq] at ha; omega
        by_cases hany : (D y.f3).any (fun x => x != y.f2) = true
        · rw [if_pos hany]
          obtain ⟨q, hq, hne⟩ := List.any_eq_true.1 hany
          refine ⟨fun h => by simp at h, fun ⟨h, _⟩ => ?_⟩
          have := h y.f3 q hq
          unfold scanR at this
          rw [if_neg (fun e => by rw [e] at hne; simp at hne), if_pos ⟨ha, rfl⟩] at this
          cases this
        · rw [if_neg hany]
          have hall : ∀ q ∈ D y.f3, q = y.f2 := fun q hq => by
            by_cases e : q = y.f2
            · exact e
            · exact absurd (List.any_eq_true.2 ⟨q, hq, by simpa using e⟩) hany
          have hsc : ∀ c q, q ∈ D c → scanR q c (y :: r) = scanR q c r := fun c q hq => by
            rw [scanR]
            by_cases e : y.f2 = q
            · rw [if_pos e, if_neg hk]
            · rw [if_neg e, if_neg]
              rintro ⟨_, e2⟩
              subst e2
              exact e (hall q hq).symm
          have hDs : (∀ c, ∀ q ∈ D c, scanR q c (y :: r) = true) ↔ ∀ c, ∀ q ∈ D c, scanR q c r = true :=
            ⟨fun h c q hq => by rw [← hsc c q hq]; exact h c q hq, fun h c q hq => by rw [hsc c q hq]; exact h c q hq⟩
          rw [hDs]
          by_cases hw : y.f0 = 2 ∧ y.f2 > 0
          · rw [if_pos hw]
            have hsR : strictR (y :: r) = (scanR y.f2 y.f3 r && strictR r) := by rw [strictR, if_pos ⟨hw.1, by omega⟩]
            have hmem : ∀ c q, q ∈ updI D y.f3 (D y.f3 ++ [y.f2]) c ↔ q ∈ D c ∨ (c = y.f3 ∧ q = y.f2) := fun c q => by
              unfold updI
              by_cases e : c = y.f3
              · rw [if_pos e, List.mem_append, e]; simp
              · rw [if_neg e]; simp [e]
            rw [strict_gen r _ (fun c q hq => by rcases (hmem c q).1 hq with h | ⟨_, e⟩; exact h0 c q h; omega), hsR]
            simp only [Bool.and_eq_true]
            constructor
            · rintro ⟨h1, h2⟩
              exact ⟨fun c q hq => h1 c q ((hmem c q).2 (.inl hq)), h1 y.f3 y.f2 ((hmem _ _).2 (.inr ⟨rfl, rfl⟩)), h2⟩
            · rintro ⟨h1, h2, h3⟩
              refine ⟨fun c q hq => ?_, h3⟩
              rcases (hmem c q).1 hq with h | ⟨rfl, rfl⟩
              · exact h1 c q h
              · exact h2
          · rw [if_neg hw]
            have hsR : strictR (y :: r) = strictR r := by rw [strictR, if_neg (fun q => hw ⟨q.1, by omega⟩)]
            rw [strict_gen r D h0, hsR]
      · rw [if_neg ha]
        have hsR : strictR (y :: r) = strictR r := by
          rw [strictR, if_neg]; rintro ⟨e, _⟩
          unfold acc at ha; rw [e] at ha; exact ha rfl
        have hsc : ∀ c q, q ∈ D c → scanR q c (y :: r) = scanR q c r := fun c q hq => by
          rw [scanR]
          by_cases e : y.f2 = q
          · rw [if_pos e, if_neg]
            intro hk
            apply hE
            unfold isEnd
            have := h0 c q hq
            simp only [Bool.and_eq_true, decide_eq_true_iff, Bool.or_eq_true, beq_iff_eq]
            exact ⟨by omega, hk⟩
          · rw [if_neg e, if_neg (fun q => ha q.1)]
        rw [strict_gen r D h0, hsR]
        exact and_congr_left (fun _ => ⟨fun h c q hq => by rw [hsc c q hq]; exact h c q hq, fun h c q hq => by rw [← hsc c q hq]; exact h c q hq⟩)
theorem strict_eq (m : List Mk) : strictG m (fun _ => []) = strictR m := by
  rw [Bool.eq_iff_iff, strict_gen m _ (fun c q hq => by cases hq)]
  exact ⟨fun h => h.2, fun h => ⟨fun c q hq => (by cases hq), h⟩⟩
end Go.Proofs.Ytadepdeckapgcaa.Hi
end

section
namespace Go.Proofs.Ytadepdeckapgcaa.PHi
open Go.RowKit Go.Proofs.Ytadepdeckapgcaa.Orc Go.Proofs.YtadepdeckapgcaaW.PrintWords Go.Proofs.YtadepdeckapgcaaW.PrintLast Go.Proofs.YtadepdeckapgcaaW.PrintMore
attribute [local go_sem] max2_int min2_int max_two min_two max_three min_three max_four min_four
set_option linter.unusedVariables false
set_option linter.unusedSimpArgs false
theorem eqA31 (d : Nat) (w : World) (x0 y0 : Int) (x1 y1 : Int) (x2 y2 : Int) (x3 y3 : Int) :
  (Op.equalIn (d + 2) 31 (.agg #[.int .i64 x0, .int .i64 x1, .int .i64 x2, .int .i64 x3]) (.agg #[.int .i64 y0, .int .i64 y1, .int .i64 y2, .int .i64 y3])).run Try.prog w = .ok (x0 == y0 && (x1 == y1 && (x2 == y2 && (x3 == y3)))) w := by
 refine eqA_of Try.underlying31 (by kernel_rfl) ?_
 refine eqf_cons (by rfl) (by go_simp; rfl) (by go_simp; rfl) (by go_simp) ?_
 refine eqf_cons (by rfl) (by go_simp; rfl) (by go_simp; rfl) (by go_simp) ?_
 refine eqf_cons (by rfl) (by go_simp; rfl) (by go_simp; rfl) (by go_simp) ?_
 exact eqf_last (by rfl) (by go_simp; rfl) (by go_simp; rfl) (by go_simp)
end Go.Proofs.Ytadepdeckapgcaa.PHi
end

section
namespace Go.Proofs.Ytadepdeckapgcaa.PHi
open Go.RowKit Go.Proofs.Ytadepdeckapgcaa.Orc Go.Proofs.YtadepdeckapgcaaW.PrintWords Go.Proofs.YtadepdeckapgcaaW.PrintLast Go.Proofs.YtadepdeckapgcaaW.PrintMore
attribute [local go_sem] max2_int min2_int max_two min_two max_three min_three max_four min_four
set_option linter.unusedVariables false
set_option linter.unusedSimpArgs false
attribute [local go_sem high] eqA31
def logjamlaw38_lives.j0 : Nat → Bool → Option (Bool)
 | 0, _ => none
 | k + 1, x0 => some x0
def logjamlaw38_lives.f (k : Nat)  : Option (Bool) := (some (([(⟨2, 0, 1, 3, 4⟩ : S29), (⟨1, 1, 2, 3, 4⟩ : S29), (⟨3, 0, 1, 0, 0⟩ : S29), (⟨3, 1, 2, 0, 0⟩ : S29)] : List (S29)) : List (S29))).bind fun y196 => ((o_Ends.f y196).bind fun t199 => ((o_Serial.f y196).bind fun bt202 => (if (t199.length : Int) = 2 then (if 1 < (t199.length : Int) then (if (((rd_T31 t199 1).f0) == 2 && (((rd_T31 t199 1).f1) == 1 && (((rd_T31 t199 1).f2) == 3 && (((rd_T31 t199 1).f3) == 3)))) = true then ((o_Strict.f y196).bind fun t207 => (if t207 = true then (logjamlaw38_lives.j0 k false) else (if 1 ≤ (y196.length : Int) then ((o_Strict.f (y196.take 1)).bind fun t212 => (if t212 = true then ((history_Before.f k y196 1 2).bind fun t213 => (if t213 = true then ((history_Before.f k y196 2 1).bind fun t214 => (if t214 = true then (logjamlaw38_lives.j0 k false) else (if bt202.2 = true then ((logjamlaw30_Ints.f k bt202.1 (([1, 2] : List Int))).bind fun t218 => (logjamlaw38_lives.j0 k t218)) else (logjamlaw38_lives.j0 k false)))) else (logjamlaw38_lives.j0 k false))) else (logjamlaw38_lives.j0 k false))) else (none)))) else (logjamlaw38_lives.j0 k false)) else (none)) else (logjamlaw38_lives.j0 k false))))
set_option maxHeartbeats 8000000 in
set_option maxRecDepth 100000 in
theorem logjamlaw38_lives.calls (k : Nat)  (r : Bool) (w : World) (h : logjamlaw38_lives.f k  = some r) :
  Calls Try.prog 16 #[] w fun e w' => e = .returned (.bool r) ∧ Below w.heap.size w w' := by
 have hu29 := Try.underlying29
 have hu31 := Try.underlying31
 have HB := Aside0.mk (Below.refl w.heap.size w)
 have H : ((some (([(⟨2, 0, 1, 3, 4⟩ : S29), (⟨1, 1, 2, 3, 4⟩ : S29), (⟨3, 0, 1, 0, 0⟩ : S29), (⟨3, 1, 2, 0, 0⟩ : S29)] : List (S29)) : List (S29))).bind fun y196 => ((o_Ends.f y196).bind fun t199 => ((o_Serial.f y196).bind fun bt202 => (if (t199.length : Int) = 2 then (if 1 < (t199.length : Int) then (if (((rd_T31 t199 1).f0) == 2 && (((rd_T31 t199 1).f1) == 1 && (((rd_T31 t199 1).f2) == 3 && (((rd_T31 t199 1).f3) == 3)))) = true then ((o_Strict.f y196).bind fun t207 => (if t207 = true then (logjamlaw38_lives.j0 k false) else (if 1 ≤ (y196.length : Int) then ((o_Strict.f (y196.take 1)).bind fun t212 => (if t212 = true then ((history_Before.f k y196 1 2).bind fun t213 => (if t213 = true then ((history_Before.f k y196 2 1).bind fun t214 => (if t214 = true then (logjamlaw38_lives.j0 k false) else (if bt202.2 = true then ((logjamlaw30_Ints.f k bt202.1 (([1, 2] : List Int))).bind fun t218 => (logjamlaw38_lives.j0 k t218)) else (logjamlaw38_lives.j0 k false)))) else (logjamlaw38_lives.j0 k false))) else (logjamlaw38_lives.j0 k false))) else (none)))) else (logjamlaw38_lives.j0 k false)) else (none)) else (logjamlaw38_lives.j0 k false))))) = some r := h
 clear h
 obtain ⟨y196, hy196⟩ : ∃ y_ : List (S29), y_ = (([(⟨2, 0, 1, 3, 4⟩ : S29), (⟨1, 1, 2, 3, 4⟩ : S29), (⟨3, 0, 1, 0, 0⟩ : S29), (⟨3, 1, 2, 0, 0⟩ : S29)] : List (S29))) := ⟨_, rfl⟩
 replace H : ((o_Ends.f y196).bind fun t199 => ((o_Serial.f y196).bind fun bt202 => (if (t199.length : Int) = 2 then (if 1 < (t199.length : Int) then (if (((rd_T31 t199 1).f0) == 2 && (((rd_T31 t199 1).f1) == 1 && (((rd_T31 t199 1).f2) == 3 && (((rd_T31 t199 1).f3) == 3)))) = true then ((o_Strict.f y196).bind fun t207 => (if t207 = true then (logjamlaw38_lives.j0 k false) else (if 1 ≤ (y196.length : Int) then ((o_Strict.f (y196.take 1)).bind fun t212 => (if t212 = true then ((history_Before.f k y196 1 2).bind fun t213 => (if t213 = true then ((history_Before.f k y196 2 1).bind fun t214 => (if t214 = true then (logjamlaw38_lives.j0 k false) else (if bt202.2 = true then ((logjamlaw30_Ints.f k bt202.1 (([1, 2] : List Int))).bind fun t218 => (logjamlaw38_lives.j0 k t218)) else (logjamlaw38_lives.j0 k false)))) else (logjamlaw38_lives.j0 k false))) else (logjamlaw38_lives.j0 k false))) else (none)))) else (logjamlaw38_lives.j0 k false)) else (none)) else (logjamlaw38_lives.j0 k false)))) = some r := by first | (rw [hy196]; with_reducible exact H) | (have H2_ := (Option.bind_some _ _).symm.trans H; rw [hy196]; with_reducible exact H2_) | (have H2_ := (Option.bind_some _ _).symm.trans H; with_reducible exact H2_) | with_reducible exact H | (rw [hy196]; exact H) | exact H
 have Ny196 := Aside0.mk hy196
 clear hy196
 replace H := Option.bind_eq_some_iff.mp H
 obtain ⟨t199, A10, H⟩ := H
 replace H : ((o_Serial.f y196).bind fun bt202 => (if (t199.length : Int) = 2 then (if 1 < (t199.length : Int) then (if (((rd_T31 t199 1).f0) == 2 && (((rd_T31 t199 1).f1) == 1 && (((rd_T31 t199 1).f2) == 3 && (((rd_T31 t199 1).f3) == 3)))) = true then ((o_Strict.f y196).bind fun t207 => (if t207 = true then (logjamlaw38_lives.j0 k false) else (if 1 ≤ (y196.length : Int) then ((o_Strict.f (y196.take 1)).bind fun t212 => (if t212 = true then ((history_Before.f k y196 1 2).bind fun t213 => (if t213 = true then ((history_Before.f k y196 2 1).bind fun t214 => (if t214 = true then (logjamlaw38_lives.j0 k false) else (if bt202.2 = true then ((logjamlaw30_Ints.f k bt202.1 (([1, 2] : List Int))).bind fun t218 => (logjamlaw38_lives.j0 k t218)) else (logjamlaw38_lives.j0 k false)))) else (logjamlaw38_lives.j0 k false))) else (logjamlaw38_lives.j0 k false))) else (none)))) else (logjamlaw38_lives.j0 k false)) else (none)) else (logjamlaw38_lives.j0 k false))) = some r := H
 have A1 := Aside0.mk A10
 clear A10
 replace H := Option.bind_eq_some_iff.mp H
 obtain ⟨⟨t202, t203⟩, A20, H⟩ := H
 replace H : (if (t199.length : Int) = 2 then (if 1 < (t199.length : Int) then (if (((rd_T31 t199 1).f0) == 2 && (((rd_T31 t199 1).f1) == 1 && (((rd_T31 t199 1).f2) == 3 && (((rd_T31 t199 1).f3) == 3)))) = true then ((o_Strict.f y196).bind fun t207 => (if t207 = true then (logjamlaw38_lives.j0 k false) else (if 1 ≤ (y196.length : Int) then ((o_Strict.f (y196.take 1)).bind fun t212 => (if t212 = true then ((history_Before.f k y196 1 2).bind fun t213 => (if t213 = true then ((history_Before.f k y196 2 1).bind fun t214 => (if t214 = true then (logjamlaw38_lives.j0 k false) else (if t203 = true then ((logjamlaw30_Ints.f k t202 (([1, 2] : List Int))).bind fun t218 => (logjamlaw38_lives.j0 k t218)) else (logjamlaw38_lives.j0 k false)))) else (logjamlaw38_lives.j0 k false))) else (logjamlaw38_lives.j0 k false))) else (none)))) else (logjamlaw38_lives.j0 k false)) else (none)) else (logjamlaw38_lives.j0 k false)) = some r := H
 have A2 := Aside0.mk A20
 clear A20
 have HC3 := Aside0.mk H
 clear H
 go_enter Try.func16, Try.ntmps16
 go_upto_region 4 with (first | ((with_reducible refine gate_dst (N := 9) rfl ?_); (try (refine gate_guard (by rfl) ?_; dsimp only)); refine Kd.R_lit k29 _ 29 ?hg (N := 9) ?hd (xs := ([(⟨2, 0, 1, 3, 4⟩ : S29), (⟨1, 1, 2, 3, 4⟩ : S29), (⟨3, 0, 1, 0, 0⟩ : S29), (⟨3, 1, 2, 0, 0⟩ : S29)] : List (S29))) (inner := [.int .i64 2, .int .i64 0, .int .i64 1, .int .i64 3, .int .i64 4, .int .i64 1, .int .i64 1, .int .i64 2, .int .i64 3, .int .i64 4, .int .i64 3, .int .i64 0, .int .i64 1, .int .i64 0, .int .i64 0, .int .i64 3, .int .i64 1, .int .i64 2, .int .i64 0, .int .i64 0]) (ok := fun _ => True) (okp := fun _ => True) ?hr ?hp (fun _ hk => hk) trivial (Below.refl _ _) (Nat.le_refl _) (by simp) ?_; (case hd => rfl); (case hg => rfl); (case hr => first | (go_simp; done) | (go_simp; rfl)); (case hp => exact (Reps.c5 (show Kd.M k29 _ _ _ (⟨2, 0, 1, 3, 4⟩ : S29) [.int .i64 2, .int .i64 0, .int .i64 1, .int .i64 3, .int .i64 4] from (k29_mkM _ _ _ (⟨2, 0, 1, 3, 4⟩ : S29) )) (Reps.c5 (show Kd.M k29 _ _ _ (⟨1, 1, 2, 3, 4⟩ : S29) [.int .i64 1, .int .i64 1, .int .i64 2, .int .i64 3, .int .i64 4] from (k29_mkM _ _ _ (⟨1, 1, 2, 3, 4⟩ : S29) )) (Reps.c5 (show Kd.M k29 _ _ _ (⟨3, 0, 1, 0, 0⟩ : S29) [.int .i64 3, .int .i64 0, .int .i64 1, .int .i64 0, .int .i64 0] from (k29_mkM _ _ _ (⟨3, 0, 1, 0, 0⟩ : S29) )) (Reps.c5 (show Kd.M k29 _ _ _ (⟨3, 1, 2, 0, 0⟩ : S29) [.int .i64 3, .int .i64 1, .int .i64 2, .int .i64 0, .int .i64 0] from (k29_mkM _ _ _ (⟨3, 1, 2, 0, 0⟩ : S29) )) (Reps.none _ _)))))); intro v197 w4 ho5 hb hg_ hnew_; clear hg_ hnew_; (first | rw [← Ny196.out] at ho5 | (simp only [Int.reduceToNat] at ho5; rw [← Ny196.out] at ho5)); have n0_ := Aside0.mk (Kd.R_lower ho5 (below_size (by repeat (first | (with_reducible first | exact HB.out | apply below_alloc | apply pw_below_drewN | apply below_drew1) | exact HB.out)))); have n1_ := Aside0.mk (below_step (by repeat (first | (with_reducible first | exact HB.out | apply below_alloc | apply pw_below_drewN | apply below_drew1) | exact HB.out)) hb); clear HB; have HO198 := n0_; have HB := n1_; clear n0_ n1_; clear hb ho5; obtain ⟨Ao6, co6, eo6⟩ := Kd.R_slice HO198.out; subst eo6) | ((with_reducible refine gate_callee (f := 7) rfl ?_); refine goesL_ (some 11) rfl rfl Try.func7 (by kernel_rfl) rfl #[.slice Ao6 y196.length co6] rfl (by (try simp only [List.map_toArray, List.map_cons, List.map_nil]); first | done | rfl | (simp only [List.length_drop, List.length_take]; rfl)) ?_; (with_reducible refine (o_Ends.calls _ _ y196 t199 _ ?side1 ?side2 A1.out).mono ?_); (case side1 => repeat (first | exact (Kd.R_reads' HO198.out).2.2 | (with_reducible refine Kd.C_alloc ?_ _) | (with_reducible refine Kd.C_drewN ?_ _) | (with_reducible refine Kd.C_drew ?_))); (case side2 => exact (Kd.R_reads' HO198.out).2.1); rintro e w7 ⟨v200, rfl, ho0, hb⟩; refine ⟨_, rfl, ?_⟩; have n0_ := Aside0.mk (Kd.R_below (by (with_reducible repeat (first | apply Kd.R_alloc | apply Kd.R_drewN | apply Kd.R_drew)); exact HO198.out) hb); have n1_ := Aside0.mk (Kd.R_lower ho0 (below_size (by repeat (first | (with_reducible first | exact HB.out | apply below_alloc | apply pw_below_drewN | apply below_drew1) | exact HB.out)))); have n2_ := Aside0.mk (below_step (by repeat (first | (with_reducible first | exact HB.out | apply below_alloc | apply pw_below_drewN | apply below_drew1) | exact HB.out)) hb); clear HO198; clear HB; have HO198 := n0_; have HO201 := n1_; have HB := n2_; clear n0_ n1_ n2_; (try clear hb); (try clear hb2); (try clear hk); (try clear hi); (try clear ho0)) | ((with_reducible refine gate_callee (f := 9) rfl ?_); refine goesL_ (some 14) rfl rfl Try.func9 (by kernel_rfl) rfl #[.slice Ao6 y196.length co6] rfl (by (try simp only [List.map_toArray, List.map_cons, List.map_nil]); first | done | rfl | (simp only [List.length_drop, List.length_take]; rfl)) ?_; (with_reducible refine (o_Serial.calls _ _ y196 t202 t203 _ ?side1 ?side2 A2.out).mono ?_); (case side1 => repeat (first | exact (Kd.R_reads' HO198.out).2.2 | (with_reducible refine Kd.C_alloc ?_ _) | (with_reducible refine Kd.C_drewN ?_ _) | (with_reducible refine Kd.C_drew ?_))); (case side2 => exact (Kd.R_reads' HO198.out).2.1); rintro e w8 ⟨v204, rfl, ho0, hb⟩; refine ⟨_, rfl, ?_⟩; have n0_ := Aside0.mk (Kd.R_below (by (with_reducible repeat (first | apply Kd.R_alloc | apply Kd.R_drewN | apply Kd.R_drew)); exact HO198.out) hb); have n1_ := Aside0.mk (Kd.R_below (by (with_reducible repeat (first | apply Kd.R_alloc | apply Kd.R_drewN | apply Kd.R_drew)); exact HO201.out) hb); have n2_ := Aside0.mk (Kd.R_lower ho0 (below_size (by repeat (first | (with_reducible first | exact HB.out | apply below_alloc | apply pw_below_drewN | apply below_drew1) | exact HB.out)))); have n3_ := Aside0.mk (below_step (by repeat (first | (with_reducible first | exact HB.out | apply below_alloc | apply pw_below_drewN | apply below_drew1) | exact HB.out)) hb); clear HO198; clear HO201; clear HB; have HO198 := n0_; have HO201 := n1_; have HO205 := n2_; have HB := n3_; clear n0_ n1_ n2_ n3_; (try clear hb); (try clear hb2); (try clear hk); (try clear hi); (try clear ho0)))
 (try simp only [Act.put, List.setIfInBounds_toArray, List.set_cons_zero, List.set_cons_succ])
 go_cut [0] (fun v0 wc => ∃ (kq : Nat) (x0_2 : Bool), v0 = .bool x0_2 ∧ Aside0 (logjamlaw38_lives.j0 kq x0_2 = some r) ∧ Aside0 (kq ≤ k) ∧ Aside0 (Below w.heap.size w wc))
 case first =>
  have H := HC3.out
  clear HC3
  by_cases c9 : (t199.length : Int) = 2
  ·rw [if_pos c9] at H
   have c9b0 : ((t199.length : Int) == 2) = true := beq_iff_eq.mpr c9
   have c9b1 : ((t199.length : Int) != 2) = false := bne_eq_false_iff_eq.mpr c9
   clear c9
   (first | rw [c9b0] | (simp only [i64_w, i32_w]; rw [c9b0]) | skip)
   by_cases c10 : 1 < (t199.length : Int)
   ·rw [if_pos c10] at H
    have c10b0 : decide (1 < (t199.length : Int)) = true := decide_eq_true c10
    have c10b1 : decide (1 < t199.length) = true := decide_eq_true (by omega)
    clear c10
    by_cases c11 : (((rd_T31 t199 1).f0) == 2 && (((rd_T31 t199 1).f1) == 1 && (((rd_T31 t199 1).f2) == 3 && (((rd_T31 t199 1).f3) == 3)))) = true
    ·rw [if_pos c11] at H
     have c11b0 : (((rd_T31 t199 1).f0) == 2 && (((rd_T31 t199 1).f1) == 1 && (((rd_T31 t199 1).f2) == 3 && (((rd_T31 t199 1).f3) == 3)))) = true := c11
     (try (have c11b1 : decide (((rd_T31 t199 1).f0) = 2 && (((rd_T31 t199 1).f1) == 1 && (((rd_T31 t199 1).f2) == 3 && (((rd_T31 t199 1).f3) == 3)))) = true := by simpa using c11))
     (try (have c11b2 : (((rd_T31 t199 1).f0) == 2 && (((rd_T31 t199 1).f1) == 1 && (((rd_T31 t199 1).f2) == 3 && (((rd_T31 t199 1).f3) == 3)))) = true := by simpa using c11))
     clear c11
     replace H := Option.bind_eq_some_iff.mp H
     obtain ⟨t207, A120, H⟩ := H
     replace H : (if t207 = true then (logjamlaw38_lives.j0 k false) else (if 1 ≤ (y196.length : Int) then ((o_Strict.f (y196.take 1)).bind fun t212 => (if t212 = true then ((history_Before.f k y196 1 2).bind fun t213 => (if t213 = true then ((history_Before.f k y196 2 1).bind fun t214 => (if t214 = true then (logjamlaw38_lives.j0 k false) else (if t203 = true then ((logjamlaw30_Ints.f k t202 (([1, 2] : List Int))).bind fun t218 => (logjamlaw38_lives.j0 k t218)) else (logjamlaw38_lives.j0 k false)))) else (logjamlaw38_lives.j0 k false))) else (logjamlaw38_lives.j0 k false))) else (none))) = some r := H
     have A12 := Aside0.mk A120
     clear A120
     by_cases c13 : t207 = true
     ·subst c13
      have H1 : (logjamlaw38_lives.j0 k false) = some r := by rw [if_pos rfl] at H; exact H
      clear H
      have H := H1
      clear H1
      have H' := Aside0.mk H
      clear H
      obtain ⟨Ao14, co14, eo14⟩ := Kd.R_slice HO201.out
      subst eo14
      have p206 : 0 ≤ (1 : Int) := (by omega)
      have q206 : 1 < (t199.length : Int) := of_decide_eq_true (by first | (with_reducible assumption) | assumption)
      obtain ⟨ad206, e206, hx206_0, hx206_1, hx206_2, hx206_3⟩ := at_T31 (Kd.R_reads' HO201.out).2.2 1 p206 q206
      cases e206
      (try simp only [show (1 : Int).toNat = 1 from rfl, Nat.reduceMul, Nat.reduceEqDiff, Go.Addr.add, ↓reduceIte] at hx206_0)
      (try simp only [show (1 : Int).toNat = 1 from rfl, Nat.reduceMul, Nat.reduceEqDiff, Go.Addr.add, ↓reduceIte] at hx206_1)
      (try simp only [show (1 : Int).toNat = 1 from rfl, Nat.reduceMul, Nat.reduceEqDiff, Go.Addr.add, ↓reduceIte] at hx206_2)
      (try simp only [show (1 : Int).toNat = 1 from rfl, Nat.reduceMul, Nat.reduceEqDiff, Go.Addr.add, ↓reduceIte] at hx206_3)
      have qi206 : (1 < t199.length) = True := eq_true (by omega)
      (try rw [show ((1 : Int)).toNat = 1 from rfl] at hx206_0)
      (try rw [show 1 * 4 = 4 from rfl] at hx206_0)
      (try rw [show ((1 : Int)).toNat = 1 from rfl] at hx206_1)
      (try rw [show 1 * 4 = 4 from rfl] at hx206_1)
      (try rw [show ((1 : Int)).toNat = 1 from rfl] at hx206_2)
      (try rw [show 1 * 4 = 4 from rfl] at hx206_2)
      (try rw [show ((1 : Int)).toNat = 1 from rfl] at hx206_3)
      (try rw [show 1 * 4 = 4 from rfl] at hx206_3)
      replace p206 := eq_true p206
      replace q206 := eq_true q206
      go_wp2_with (first | (go_at_call 14; (with_reducible refine (o_Strict.calls _ _ y196 true _ ?side1 ?side2 A12.out).mono ?_); (case side1 => repeat (first | exact (Kd.R_reads' HO198.out).2.2 | (with_reducible refine Kd.C_alloc ?_ _) | (with_reducible refine Kd.C_drewN ?_ _) | (with_reducible refine Kd.C_drew ?_))); (case side2 => exact (Kd.R_reads' HO198.out).2.1); rintro e w15 ⟨rfl, hb⟩; have n0_ := Aside0.mk (Kd.R_below (by (with_reducible repeat (first | apply Kd.R_alloc | apply Kd.R_drewN | apply Kd.R_drew)); exact HO198.out) hb); have n1_ := Aside0.mk (Kd.R_below (by (with_reducible repeat (first | apply Kd.R_alloc | apply Kd.R_drewN | apply Kd.R_drew)); exact HO201.out) hb); have n2_ := Aside0.mk (Kd.R_below (by (with_reducible repeat (first | apply Kd.R_alloc | apply Kd.R_drewN | apply Kd.R_drew)); exact HO205.out) hb); have n3_ := Aside0.mk (below_step (by repeat (first | (with_reducible first | exact HB.out | apply below_alloc | apply pw_below_drewN | apply below_drew1) | exact HB.out)) hb); clear HO198; clear HO201; clear HO205; clear HB; have HO198 := n0_; have HO201 := n1_; have HO205 := n2_; have HB := n3_; clear n0_ n1_ n2_ n3_; (try clear hb); (try clear hb2); (try clear hk); (try clear hi)))
      go_meet
      case rel => exact ⟨_, (false), (by first | rfl | (simp; done) | (simp only [emptyNe_, emptyEq_]; done) | (simp [*]; done)), H', ⟨by first | omega | exact Nat.le_refl _⟩, ⟨by repeat (first | (with_reducible first | exact HB.out | apply below_alloc | apply pw_below_drewN | apply below_drew1) | exact HB.out)⟩⟩
     ·replace c13 := Bool.eq_false_iff.mpr c13
      subst c13
      have H1 : (if 1 ≤ (y196.length : Int) then ((o_Strict.f (y196.take 1)).bind fun t212 => (if t212 = true then ((history_Before.f k y196 1 2).bind fun t213 => (if t213 = true then ((history_Before.f k y196 2 1).bind fun t214 => (if t214 = true then (logjamlaw38_lives.j0 k false) else (if t203 = true then ((logjamlaw30_Ints.f k t202 (([1, 2] : List Int))).bind fun t218 => (logjamlaw38_lives.j0 k t218)) else (logjamlaw38_lives.j0 k false)))) else (logjamlaw38_lives.j0 k false))) else (logjamlaw38_lives.j0 k false))) else (none)) = some r := by rw [if_neg (show ¬ (false = true) by decide)] at H; exact H
      clear H
      have H := H1
      clear H1
      by_cases c16 : 1 ≤ (y196.length : Int)
      ·rw [if_pos c16] at H
       have c16b0 := eq_true c16
       have c16b1 : decide (1 ≤ (y196.length : Int)) = true := decide_eq_true c16
       clear c16
       obtain ⟨y208, hy208⟩ : ∃ y_ : List (S29), y_ = (y196.take 1) := ⟨_, rfl⟩
       replace H : ((o_Strict.f y208).bind fun t212 => (if t212 = true then ((history_Before.f k y196 1 2).bind fun t213 => (if t213 = true then ((history_Before.f k y196 2 1).bind fun t214 => (if t214 = true then (logjamlaw38_lives.j0 k false) else (if t203 = true then ((logjamlaw30_Ints.f k t202 (([1, 2] : List Int))).bind fun t218 => (logjamlaw38_lives.j0 k t218)) else (logjamlaw38_lives.j0 k false)))) else (logjamlaw38_lives.j0 k false))) else (logjamlaw38_lives.j0 k false))) = some r := by first | (rw [hy208]; with_reducible exact H) | (have H2_ := (Option.bind_some _ _).symm.trans H; rw [hy208]; with_reducible exact H2_) | (have H2_ := (Option.bind_some _ _).symm.trans H; with_reducible exact H2_) | with_reducible exact H | (rw [hy208]; exact H) | exact H
       have Ny208 := Aside0.mk hy208
       clear hy208
       replace H := Option.bind_eq_some_iff.mp H
       obtain ⟨t212, A170, H⟩ := H
       replace H : (if t212 = true then ((history_Before.f k y196 1 2).bind fun t213 => (if t213 = true then ((history_Before.f k y196 2 1).bind fun t214 => (if t214 = true then (logjamlaw38_lives.j0 k false) else (if t203 = true then ((logjamlaw30_Ints.f k t202 (([1, 2] : List Int))).bind fun t218 => (logjamlaw38_lives.j0 k t218)) else (logjamlaw38_lives.j0 k false)))) else (logjamlaw38_lives.j0 k false))) else (logjamlaw38_lives.j0 k false)) = some r := H
       have A17 := Aside0.mk A170
       clear A170
       by_cases c18 : t212 = true
       ·subst c18
        have H1 : ((history_Before.f k y196 1 2).bind fun t213 => (if t213 = true then ((history_Before.f k y196 2 1).bind fun t214 => (if t214 = true then (logjamlaw38_lives.j0 k false) else (if t203 = true then ((logjamlaw30_Ints.f k t202 (([1, 2] : List Int))).bind fun t218 => (logjamlaw38_lives.j0 k t218)) else (logjamlaw38_lives.j0 k false)))) else (logjamlaw38_lives.j0 k false))) = some r := by rw [if_pos rfl] at H; exact H
        clear H
        have H := H1
        clear H1
        replace H := Option.bind_eq_some_iff.mp H
        obtain ⟨t213, A190, H⟩ := H
        replace H : (if t213 = true then ((history_Before.f k y196 2 1).bind fun t214 => (if t214 = true then (logjamlaw38_lives.j0 k false) else (if t203 = true then ((logjamlaw30_Ints.f k t202 (([1, 2] : List Int))).bind fun t218 => (logjamlaw38_lives.j0 k t218)) else (logjamlaw38_lives.j0 k false)))) else (logjamlaw38_lives.j0 k false)) = some r := H
        have A19 := Aside0.mk A190
        clear A190
        by_cases c20 : t213 = true
        ·subst c20
         have H1 : ((history_Before.f k y196 2 1).bind fun t214 => (if t214 = true then (logjamlaw38_lives.j0 k false) else (if t203 = true then ((logjamlaw30_Ints.f k t202 (([1, 2] : List Int))).bind fun t218 => (logjamlaw38_lives.j0 k t218)) else (logjamlaw38_lives.j0 k false)))) = some r := by rw [if_pos rfl] at H; exact H
         clear H
         have H := H1
         clear H1
         replace H := Option.bind_eq_some_iff.mp H
         obtain ⟨t214, A210, H⟩ := H
         replace H : (if t214 = true then (logjamlaw38_lives.j0 k false) else (if t203 = true then ((logjamlaw30_Ints.f k t202 (([1, 2] : List Int))).bind fun t218 => (logjamlaw38_lives.j0 k t218)) else (logjamlaw38_lives.j0 k false))) = some r := H
         have A21 := Aside0.mk A210
         clear A210
         by_cases c22 : t214 = true
         ·subst c22
          have H1 : (logjamlaw38_lives.j0 k false) = some r := by rw [if_pos rfl] at H; exact H
          clear H
          have H := H1
          clear H1
          have H' := Aside0.mk H
          clear H
          obtain ⟨Ao23, co23, eo23⟩ := Kd.R_slice HO201.out
          subst eo23
          have p206 : 0 ≤ (1 : Int) := (by omega)
          have q206 : 1 < (t199.length : Int) := of_decide_eq_true (by first | (with_reducible assumption) | assumption)
          obtain ⟨ad206, e206, hx206_0, hx206_1, hx206_2, hx206_3⟩ := at_T31 (Kd.R_reads' HO201.out).2.2 1 p206 q206
          cases e206
          (try simp only [show (1 : Int).toNat = 1 from rfl, Nat.reduceMul, Nat.reduceEqDiff, Go.Addr.add, ↓reduceIte] at hx206_0)
          (try simp only [show (1 : Int).toNat = 1 from rfl, Nat.reduceMul, Nat.reduceEqDiff, Go.Addr.add, ↓reduceIte] at hx206_1)
          (try simp only [show (1 : Int).toNat = 1 from rfl, Nat.reduceMul, Nat.reduceEqDiff, Go.Addr.add, ↓reduceIte] at hx206_2)
          (try simp only [show (1 : Int).toNat = 1 from rfl, Nat.reduceMul, Nat.reduceEqDiff, Go.Addr.add, ↓reduceIte] at hx206_3)
          have qi206 : (1 < t199.length) = True := eq_true (by omega)
          (try rw [show ((1 : Int)).toNat = 1 from rfl] at hx206_0)
          (try rw [show 1 * 4 = 4 from rfl] at hx206_0)
          (try rw [show ((1 : Int)).toNat = 1 from rfl] at hx206_1)
          (try rw [show 1 * 4 = 4 from rfl] at hx206_1)
          (try rw [show ((1 : Int)).toNat = 1 from rfl] at hx206_2)
          (try rw [show 1 * 4 = 4 from rfl] at hx206_2)
          (try rw [show ((1 : Int)).toNat = 1 from rfl] at hx206_3)
          (try rw [show 1 * 4 = 4 from rfl] at hx206_3)
          replace p206 := eq_true p206
          replace q206 := eq_true q206
          go_wp2_with (first | (go_at_call 14; (with_reducible refine (o_Strict.calls _ _ y196 false _ ?side1 ?side2 A12.out).mono ?_); (case side1 => repeat (first | exact (Kd.R_reads' HO198.out).2.2 | (with_reducible refine Kd.C_alloc ?_ _) | (with_reducible refine Kd.C_drewN ?_ _) | (with_reducible refine Kd.C_drew ?_))); (case side2 => exact (Kd.R_reads' HO198.out).2.1); rintro e w24 ⟨rfl, hb⟩; have n0_ := Aside0.mk (Kd.R_below (by (with_reducible repeat (first | apply Kd.R_alloc | apply Kd.R_drewN | apply Kd.R_drew)); exact HO198.out) hb); have n1_ := Aside0.mk (Kd.R_below (by (with_reducible repeat (first | apply Kd.R_alloc | apply Kd.R_drewN | apply Kd.R_drew)); exact HO201.out) hb); have n2_ := Aside0.mk (Kd.R_below (by (with_reducible repeat (first | apply Kd.R_alloc | apply Kd.R_drewN | apply Kd.R_drew)); exact HO205.out) hb); have n3_ := Aside0.mk (below_step (by repeat (first | (with_reducible first | exact HB.out | apply below_alloc | apply pw_below_drewN | apply below_drew1) | exact HB.out)) hb); clear HO198; clear HO201; clear HO205; clear HB; have HO198 := n0_; have HO201 := n1_; have HO205 := n2_; have HB := n3_; clear n0_ n1_ n2_ n3_; (try clear hb); (try clear hb2); (try clear hk); (try clear hi); have q25 : (1 : Int) ≤ ((y196.length : Int) : Int) := of_decide_eq_true (by first | (with_reducible assumption) | assumption); obtain ⟨i025, hi025, _, hsz25, _⟩ := info_parts info29; have hroom25 : y196.length ≤ co6 := (Kd.R_reads' HO198.out).2.1; have hC25 : Kd.C k29 _ Ao6 y196.length y196 := (Kd.R_reads' HO198.out).2.2; have hcut25 := cut_to (P := Try.prog) 22 29 .i64 Try.underlying22 hi025 Ao6 y196.length co6 1 (by omega) q25 hroom25; have hr25 := Kd.C_take (m := 1) hC25 (by omega); have hy25 : y208.length = (1 : Int).toNat := (by rw [Ny208.out, List.length_take]; omega); rw [← Ny208.out] at hr25; rw [← hy25] at hcut25; have HR211 := Aside0.mk hr25; have HC211 := Aside0.mk (show y208.length ≤ co6 from by omega); clear hr25 hC25 hroom25 hi025 hsz25; have KY25 := Aside0.mk hy25; clear hy25; have KL25 := Aside0.mk (show 1 ≤ y196.length from by omega); replace q25 := eq_true q25) | (go_at_call 14; (with_reducible refine (o_Strict.calls _ _ y208 true _ ?side1 ?side2 A17.out).mono ?_); (case side1 => repeat (first | exact (by repeat (first | (with_reducible exact HR211.out) | (with_reducible refine Kd.C_alloc ?_ _) | (with_reducible refine Kd.C_drewN ?_ _) | (with_reducible refine Kd.C_drew ?_) | exact HR211.out)) | (with_reducible refine Kd.C_alloc ?_ _) | (with_reducible refine Kd.C_drewN ?_ _) | (with_reducible refine Kd.C_drew ?_))); (case side2 => exact HC211.out); rintro e w26 ⟨rfl, hb⟩; have n0_ := Aside0.mk (Kd.R_below (by (with_reducible repeat (first | apply Kd.R_alloc | apply Kd.R_drewN | apply Kd.R_drew)); exact HO198.out) hb); have n1_ := Aside0.mk (Kd.R_below (by (with_reducible repeat (first | apply Kd.R_alloc | apply Kd.R_drewN | apply Kd.R_drew)); exact HO201.out) hb); have n2_ := Aside0.mk (Kd.R_below (by (with_reducible repeat (first | apply Kd.R_alloc | apply Kd.R_drewN | apply Kd.R_drew)); exact HO205.out) hb); have n3_ := Aside0.mk (Kd.C_below (by repeat (first | (with_reducible exact HR211.out) | (with_reducible refine Kd.C_alloc ?_ _) | (with_reducible refine Kd.C_drewN ?_ _) | (with_reducible refine Kd.C_drew ?_) | exact HR211.out)) hb); have n4_ := Aside0.mk (below_step (by repeat (first | (with_reducible first | exact HB.out | apply below_alloc | apply pw_below_drewN | apply below_drew1) | exact HB.out)) hb); clear HO198; clear HO201; clear HO205; clear HR211; clear HB; have HO198 := n0_; have HO201 := n1_; have HO205 := n2_; have HR211 := n3_; have HB := n4_; clear n0_ n1_ n2_ n3_ n4_; (try clear hb); (try clear hb2); (try clear hk); (try clear hi)) | (go_at_call 12; (with_reducible refine (history_Before.calls k _ _ y196 1 2 true _ ?side1 ?side2 A19.out).mono ?_); (case side1 => repeat (first | exact (Kd.R_reads' HO198.out).2.2 | (with_reducible refine Kd.C_alloc ?_ _) | (with_reducible refine Kd.C_drewN ?_ _) | (with_reducible refine Kd.C_drew ?_))); (case side2 => exact (Kd.R_reads' HO198.out).2.1); rintro e w27 ⟨rfl, hb⟩; have n0_ := Aside0.mk (Kd.R_below (by (with_reducible repeat (first | apply Kd.R_alloc | apply Kd.R_drewN | apply Kd.R_drew)); exact HO198.out) hb); have n1_ := Aside0.mk (Kd.R_below (by (with_reducible repeat (first | apply Kd.R_alloc | apply Kd.R_drewN | apply Kd.R_drew)); exact HO201.out) hb); have n2_ := Aside0.mk (Kd.R_below (by (with_reducible repeat (first | apply Kd.R_alloc | apply Kd.R_drewN | apply Kd.R_drew)); exact HO205.out) hb); have n3_ := Aside0.mk (Kd.C_below (by repeat (first | (with_reducible exact HR211.out) | (with_reducible refine Kd.C_alloc ?_ _) | (with_reducible refine Kd.C_drewN ?_ _) | (with_reducible refine Kd.C_drew ?_) | exact HR211.out)) hb); have n4_ := Aside0.mk (below_step (by repeat (first | (with_reducible first | exact HB.out | apply below_alloc | apply pw_below_drewN | apply below_drew1) | exact HB.out)) hb); clear HO198; clear HO201; clear HO205; clear HR211; clear HB; have HO198 := n0_; have HO201 := n1_; have HO205 := n2_; have HR211 := n3_; have HB := n4_; clear n0_ n1_ n2_ n3_ n4_; (try clear hb); (try clear hb2); (try clear hk); (try clear hi)) | (go_at_call 12; (with_reducible refine (history_Before.calls k _ _ y196 2 1 true _ ?side1 ?side2 A21.out).mono ?_); (case side1 => repeat (first | exact (Kd.R_reads' HO198.out).2.2 | (with_reducible refine Kd.C_alloc ?_ _) | (with_reducible refine Kd.C_drewN ?_ _) | (with_reducible refine Kd.C_drew ?_))); (case side2 => exact (Kd.R_reads' HO198.out).2.1); rintro e w28 ⟨rfl, hb⟩; have n0_ := Aside0.mk (Kd.R_below (by (with_reducible repeat (first | apply Kd.R_alloc | apply Kd.R_drewN | apply Kd.R_drew)); exact HO198.out) hb); have n1_ := Aside0.mk (Kd.R_below (by (with_reducible repeat (first | apply Kd.R_alloc | apply Kd.R_drewN | apply Kd.R_drew)); exact HO201.out) hb); have n2_ := Aside0.mk (Kd.R_below (by (with_reducible repeat (first | apply Kd.R_alloc | apply Kd.R_drewN | apply Kd.R_drew)); exact HO205.out) hb); have n3_ := Aside0.mk (Kd.C_below (by repeat (first | (with_reducible exact HR211.out) | (with_reducible refine Kd.C_alloc ?_ _) | (with_reducible refine Kd.C_drewN ?_ _) | (with_reducible refine Kd.C_drew ?_) | exact HR211.out)) hb); have n4_ := Aside0.mk (below_step (by repeat (first | (with_reducible first | exact HB.out | apply below_alloc | apply pw_below_drewN | apply below_drew1) | exact HB.out)) hb); clear HO198; clear HO201; clear HO205; clear HR211; clear HB; have HO198 := n0_; have HO201 := n1_; have HO205 := n2_; have HR211 := n3_; have HB := n4_; clear n0_ n1_ n2_ n3_ n4_; (try clear hb); (try clear hb2); (try clear hk); (try clear hi)))
          go_meet
          case rel => exact ⟨_, (false), (by first | rfl | (simp; done) | (simp only [emptyNe_, emptyEq_]; done) | (simp [*]; done)), H', ⟨by first | omega | exact Nat.le_refl _⟩, ⟨by repeat (first | (with_reducible first | exact HB.out | apply below_alloc | apply pw_below_drewN | apply below_drew1) | exact HB.out)⟩⟩
         ·replace c22 := Bool.eq_false_iff.mpr c22
          subst c22
          have H1 : (if t203 = true then ((logjamlaw30_Ints.f k t202 (([1, 2] : List Int))).bind fun t218 => (logjamlaw38_lives.j0 k t218)) else (logjamlaw38_lives.j0 k false)) = some r := by rw [if_neg (show ¬ (false = true) by decide)] at H; exact H
          clear H
          have H := H1
          clear H1
          by_cases c29 : t203 = true
          ·subst c29
           have H1 : ((logjamlaw30_Ints.f k t202 (([1, 2] : List Int))).bind fun t218 => (logjamlaw38_lives.j0 k t218)) = some r := by rw [if_pos rfl] at H; exact H
           clear H
           have H := H1
           clear H1
           obtain ⟨y215, hy215⟩ : ∃ y_ : List Int, y_ = (([1, 2] : List Int)) := ⟨_, rfl⟩
           replace H : ((logjamlaw30_Ints.f k t202 y215).bind fun t218 => (logjamlaw38_lives.j0 k t218)) = some r := by first | (rw [hy215]; with_reducible exact H) | (have H2_ := (Option.bind_some _ _).symm.trans H; rw [hy215]; with_reducible exact H2_) | (have H2_ := (Option.bind_some _ _).symm.trans H; with_reducible exact H2_) | with_reducible exact H | (rw [hy215]; exact H) | exact H
           have Ny215 := Aside0.mk hy215
           clear hy215
           replace H := Option.bind_eq_some_iff.mp H
           obtain ⟨t218, A300, H⟩ := H
           replace H : (logjamlaw38_lives.j0 k t218) = some r := H
           have A30 := Aside0.mk A300
           clear A300
           have H' := Aside0.mk H
           clear H
           obtain ⟨Ao31, co31, eo31⟩ := Kd.R_slice HO201.out
           subst eo31
           have p206 : 0 ≤ (1 : Int) := (by omega)
           have q206 : 1 < (t199.length : Int) := of_decide_eq_true (by first | (with_reducible assumption) | assumption)
           obtain ⟨ad206, e206, hx206_0, hx206_1, hx206_2, hx206_3⟩ := at_T31 (Kd.R_reads' HO201.out).2.2 1 p206 q206
           cases e206
           (try simp only [show (1 : Int).toNat = 1 from rfl, Nat.reduceMul, Nat.reduceEqDiff, Go.Addr.add, ↓reduceIte] at hx206_0)
           (try simp only [show (1 : Int).toNat = 1 from rfl, Nat.reduceMul, Nat.reduceEqDiff, Go.Addr.add, ↓reduceIte] at hx206_1)
           (try simp only [show (1 : Int).toNat = 1 from rfl, Nat.reduceMul, Nat.reduceEqDiff, Go.Addr.add, ↓reduceIte] at hx206_2)
           (try simp only [show (1 : Int).toNat = 1 from rfl, Nat.reduceMul, Nat.reduceEqDiff, Go.Addr.add, ↓reduceIte] at hx206_3)
           have qi206 : (1 < t199.length) = True := eq_true (by omega)
           (try rw [show ((1 : Int)).toNat = 1 from rfl] at hx206_0)
           (try rw [show 1 * 4 = 4 from rfl] at hx206_0)
           (try rw [show ((1 : Int)).toNat = 1 from rfl] at hx206_1)
           (try rw [show 1 * 4 = 4 from rfl] at hx206_1)
           (try rw [show ((1 : Int)).toNat = 1 from rfl] at hx206_2)
           (try rw [show 1 * 4 = 4 from rfl] at hx206_2)
           (try rw [show ((1 : Int)).toNat = 1 from rfl] at hx206_3)
           (try rw [show 1 * 4 = 4 from rfl] at hx206_3)
           replace p206 := eq_true p206
           replace q206 := eq_true q206
           go_wp2_with (first | (go_at_call 14; (with_reducible refine (o_Strict.calls _ _ y196 false _ ?side1 ?side2 A12.out).mono ?_); (case side1 => repeat (first | exact (Kd.R_reads' HO198.out).2.2 | (with_reducible refine Kd.C_alloc ?_ _) | (with_reducible refine Kd.C_drewN ?_ _) | (with_reducible refine Kd.C_drew ?_))); (case side2 => exact (Kd.R_reads' HO198.out).2.1); rintro e w32 ⟨rfl, hb⟩; have n0_ := Aside0.mk (Kd.R_below (by (with_reducible repeat (first | apply Kd.R_alloc | apply Kd.R_drewN | apply Kd.R_drew)); exact HO198.out) hb); have n1_ := Aside0.mk (Kd.R_below (by (with_reducible repeat (first | apply Kd.R_alloc | apply Kd.R_drewN | apply Kd.R_drew)); exact HO201.out) hb); have n2_ := Aside0.mk (Kd.R_below (by (with_reducible repeat (first | apply Kd.R_alloc | apply Kd.R_drewN | apply Kd.R_drew)); exact HO205.out) hb); have n3_ := Aside0.mk (below_step (by repeat (first | (with_reducible first | exact HB.out | apply below_alloc | apply pw_below_drewN | apply below_drew1) | exact HB.out)) hb); clear HO198; clear HO201; clear HO205; clear HB; have HO198 := n0_; have HO201 := n1_; have HO205 := n2_; have HB := n3_; clear n0_ n1_ n2_ n3_; (try clear hb); (try clear hb2); (try clear hk); (try clear hi); have q33 : (1 : Int) ≤ ((y196.length : Int) : Int) := of_decide_eq_true (by first | (with_reducible assumption) | assumption); obtain ⟨i033, hi033, _, hsz33, _⟩ := info_parts info29; have hroom33 : y196.length ≤ co6 := (Kd.R_reads' HO198.out).2.1; have hC33 : Kd.C k29 _ Ao6 y196.length y196 := (Kd.R_reads' HO198.out).2.2; have hcut33 := cut_to (P := Try.prog) 22 29 .i64 Try.underlying22 hi033 Ao6 y196.length co6 1 (by omega) q33 hroom33; have hr33 := Kd.C_take (m := 1) hC33 (by omega); have hy33 : y208.length = (1 : Int).toNat := (by rw [Ny208.out, List.length_take]; omega); rw [← Ny208.out] at hr33; rw [← hy33] at hcut33; have HR211 := Aside0.mk hr33; have HC211 := Aside0.mk (show y208.length ≤ co6 from by omega); clear hr33 hC33 hroom33 hi033 hsz33; have KY33 := Aside0.mk hy33; clear hy33; have KL33 := Aside0.mk (show 1 ≤ y196.length from by omega); replace q33 := eq_true q33) | (go_at_call 14; (with_reducible refine (o_Strict.calls _ _ y208 true _ ?side1 ?side2 A17.out).mono ?_); (case side1 => repeat (first | exact (by repeat (first | (with_reducible exact HR211.out) | (with_reducible refine Kd.C_alloc ?_ _) | (with_reducible refine Kd.C_drewN ?_ _) | (with_reducible refine Kd.C_drew ?_) | exact HR211.out)) | (with_reducible refine Kd.C_alloc ?_ _) | (with_reducible refine Kd.C_drewN ?_ _) | (with_reducible refine Kd.C_drew ?_))); (case side2 => exact HC211.out); rintro e w34 ⟨rfl, hb⟩; have n0_ := Aside0.mk (Kd.R_below (by (with_reducible repeat (first | apply Kd.R_alloc | apply Kd.R_drewN | apply Kd.R_drew)); exact HO198.out) hb); have n1_ := Aside0.mk (Kd.R_below (by (with_reducible repeat (first | apply Kd.R_alloc | apply Kd.R_drewN | apply Kd.R_drew)); exact HO201.out) hb); have n2_ := Aside0.mk (Kd.R_below (by (with_reducible repeat (first | apply Kd.R_alloc | apply Kd.R_drewN | apply Kd.R_drew)); exact HO205.out) hb); have n3_ := Aside0.mk (Kd.C_below (by repeat (first | (with_reducible exact HR211.out) | (with_reducible refine Kd.C_alloc ?_ _) | (with_reducible refine Kd.C_drewN ?_ _) | (with_reducible refine Kd.C_drew ?_) | exact HR211.out)) hb); have n4_ := Aside0.mk (below_step (by repeat (first | (with_reducible first | exact HB.out | apply below_alloc | apply pw_below_drewN | apply below_drew1) | exact HB.out)) hb); clear HO198; clear HO201; clear HO205; clear HR211; clear HB; have HO198 := n0_; have HO201 := n1_; have HO205 := n2_; have HR211 := n3_; have HB := n4_; clear n0_ n1_ n2_ n3_ n4_; (try clear hb); (try clear hb2); (try clear hk); (try clear hi)) | (go_at_call 12; (with_reducible refine (history_Before.calls k _ _ y196 1 2 true _ ?side1 ?side2 A19.out).mono ?_); (case side1 => repeat (first | exact (Kd.R_reads' HO198.out).2.2 | (with_reducible refine Kd.C_alloc ?_ _) | (with_reducible refine Kd.C_drewN ?_ _) | (with_reducible refine Kd.C_drew ?_))); (case side2 => exact (Kd.R_reads' HO198.out).2.1); rintro e w35 ⟨rfl, hb⟩; have n0_ := Aside0.mk (Kd.R_below (by (with_reducible repeat (first | apply Kd.R_alloc | apply Kd.R_drewN | apply Kd.R_drew)); exact HO198.out) hb); have n1_ := Aside0.mk (Kd.R_below (by (with_reducible repeat (first | apply Kd.R_alloc | apply Kd.R_drewN | apply Kd.R_drew)); exact HO201.out) hb); have n2_ := Aside0.mk (Kd.R_below (by (with_reducible repeat (first | apply Kd.R_alloc | apply Kd.R_drewN | apply Kd.R_drew)); exact HO205.out) hb); have n3_ := Aside0.mk (Kd.C_below (by repeat (first | (with_reducible exact HR211.out) | (with_reducible refine Kd.C_alloc ?_ _) | (with_reducible refine Kd.C_drewN ?_ _) | (with_reducible refine Kd.C_drew ?_) | exact HR211.out)) hb); have n4_ := Aside0.mk (below_step (by repeat (first | (with_reducible first | exact HB.out | apply below_alloc | apply pw_below_drewN | apply below_drew1) | exact HB.out)) hb); clear HO198; clear HO201; clear HO205; clear HR211; clear HB; have HO198 := n0_; have HO201 := n1_; have HO205 := n2_; have HR211 := n3_; have HB := n4_; clear n0_ n1_ n2_ n3_ n4_; (try clear hb); (try clear hb2); (try clear hk); (try clear hi)) | (go_at_call 12; (with_reducible refine (history_Before.calls k _ _ y196 2 1 false _ ?side1 ?side2 A21.out).mono ?_); (case side1 => repeat (first | exact (Kd.R_reads' HO198.out).2.2 | (with_reducible refine Kd.C_alloc ?_ _) | (with_reducible refine Kd.C_drewN ?_ _) | (with_reducible refine Kd.C_drew ?_))); (case side2 => exact (Kd.R_reads' HO198.out).2.1); rintro e w36 ⟨rfl, hb⟩; have n0_ := Aside0.mk (Kd.R_below (by (with_reducible repeat (first | apply Kd.R_alloc | apply Kd.R_drewN | apply Kd.R_drew)); exact HO198.out) hb); have n1_ := Aside0.mk (Kd.R_below (by (with_reducible repeat (first | apply Kd.R_alloc | apply Kd.R_drewN | apply Kd.R_drew)); exact HO201.out) hb); have n2_ := Aside0.mk (Kd.R_below (by (with_reducible repeat (first | apply Kd.R_alloc | apply Kd.R_drewN | apply Kd.R_drew)); exact HO205.out) hb); have n3_ := Aside0.mk (Kd.C_below (by repeat (first | (with_reducible exact HR211.out) | (with_reducible refine Kd.C_alloc ?_ _) | (with_reducible refine Kd.C_drewN ?_ _) | (with_reducible refine Kd.C_drew ?_) | exact HR211.out)) hb); have n4_ := Aside0.mk (below_step (by repeat (first | (with_reducible first | exact HB.out | apply below_alloc | apply pw_below_drewN | apply below_drew1) | exact HB.out)) hb); clear HO198; clear HO201; clear HO205; clear HR211; clear HB; have HO198 := n0_; have HO201 := n1_; have HO205 := n2_; have HR211 := n3_; have HB := n4_; clear n0_ n1_ n2_ n3_ n4_; (try clear hb); (try clear hb2); (try clear hk); (try clear hi)) | ((with_reducible refine gate_dst (N := 51) rfl ?_); (try (refine gate_guard (by rfl) ?_; dsimp only)); refine Kd.R_lit (Kd.int .i64) _ 3 ?hg (N := 51) ?hd (xs := ([1, 2] : List Int)) (inner := [.int .i64 1, .int .i64 2]) (ok := fun _ => True) (okp := fun _ => True) ?hr ?hp (fun _ hk => hk) trivial (Below.refl _ _) (Nat.le_refl _) (by simp) ?_; (case hd => rfl); (case hg => rfl); (case hr => first | (go_simp; done) | (go_simp; rfl)); (case hp => exact (Reps.one (show Kd.M (Kd.int .i64) _ _ _ 1 [.int .i64 1] from rfl) (Reps.one (show Kd.M (Kd.int .i64) _ _ _ 2 [.int .i64 2] from rfl) (Reps.none _ _)))); intro v216 w37 ho38 hb hg_ hnew_; clear hg_ hnew_; (first | rw [← Ny215.out] at ho38 | (simp only [Int.reduceToNat] at ho38; rw [← Ny215.out] at ho38)); have n0_ := Aside0.mk (Kd.R_below (by (with_reducible repeat (first | apply Kd.R_alloc | apply Kd.R_drewN | apply Kd.R_drew)); exact HO198.out) hb); have n1_ := Aside0.mk (Kd.R_below (by (with_reducible repeat (first | apply Kd.R_alloc | apply Kd.R_drewN | apply Kd.R_drew)); exact HO201.out) hb); have n2_ := Aside0.mk (Kd.R_elder' (by (with_reducible repeat (first | apply Kd.R_alloc | apply Kd.R_drewN | apply Kd.R_drew)); exact HO205.out) (Kd.R_base ho38) hb); have n3_ := Aside0.mk (Kd.R_lower (Kd.R_new' ho38 (Kd.R_lt (by (with_reducible repeat (first | apply Kd.R_alloc | apply Kd.R_drewN | apply Kd.R_drew)); exact HO205.out))) (below_size (by repeat (first | (with_reducible first | exact HB.out | apply below_alloc | apply pw_below_drewN | apply below_drew1) | exact HB.out)))); have n4_ := Aside0.mk (Kd.C_below (by repeat (first | (with_reducible exact HR211.out) | (with_reducible refine Kd.C_alloc ?_ _) | (with_reducible refine Kd.C_drewN ?_ _) | (with_reducible refine Kd.C_drew ?_) | exact HR211.out)) hb); have n5_ := Aside0.mk (below_step (by repeat (first | (with_reducible first | exact HB.out | apply below_alloc | apply pw_below_drewN | apply below_drew1) | exact HB.out)) hb); clear HO198; clear HO201; clear HO205; clear HR211; clear HB; have HO198 := n0_; have HO201 := n1_; have HO205 := n2_; have HO217 := n3_; have HR211 := n4_; have HB := n5_; clear n0_ n1_ n2_ n3_ n4_ n5_; clear hb ho38; obtain ⟨Ao39, co39, eo39⟩ := Kd.R_slice HO205.out; subst eo39; obtain ⟨Ao40, co40, eo40⟩ := Kd.R_slice HO217.out; subst eo40) | (go_at_call 11; (with_reducible refine (logjamlaw30_Ints.calls k _ _ t202 _ _ y215 t218 _ ?side1 ?side2 ?side3 ?side4 A30.out).mono ?_); (case side1 => repeat (first | exact (Kd.R_reads' HO205.out).2.2 | (with_reducible refine Kd.C_alloc ?_ _) | (with_reducible refine Kd.C_drewN ?_ _) | (with_reducible refine Kd.C_drew ?_))); (case side2 => exact (Kd.R_reads' HO205.out).2.1); (case side3 => repeat (first | exact (Kd.R_reads' HO217.out).2.2 | (with_reducible refine Kd.C_alloc ?_ _) | (with_reducible refine Kd.C_drewN ?_ _) | (with_reducible refine Kd.C_drew ?_))); (case side4 => exact (Kd.R_reads' HO217.out).2.1); rintro e w' ⟨rfl, ⟨nd, rfl⟩⟩))
           go_meet
           case rel => exact ⟨_, (t218), (by first | rfl | (simp; done) | (simp only [emptyNe_, emptyEq_]; done) | (simp [*]; done)), H', ⟨by first | omega | exact Nat.le_refl _⟩, ⟨by repeat (first | (with_reducible first | exact HB.out | apply below_alloc | apply pw_below_drewN | apply below_drew1) | exact HB.out)⟩⟩
          ·replace c29 := Bool.eq_false_iff.mpr c29
           subst c29
           have H1 : (logjamlaw38_lives.j0 k false) = some r := by rw [if_neg (show ¬ (false = true) by decide)] at H; exact H
           clear H
           have H := H1
           clear H1
           have H' := Aside0.mk H
           clear H
           obtain ⟨Ao41, co41, eo41⟩ := Kd.R_slice HO201.out
           subst eo41
           have p206 : 0 ≤ (1 : Int) := (by omega)
           have q206 : 1 < (t199.length : Int) := of_decide_eq_true (by first | (with_reducible assumption) | assumption)
           obtain ⟨ad206, e206, hx206_0, hx206_1, hx206_2, hx206_3⟩ := at_T31 (Kd.R_reads' HO201.out).2.2 1 p206 q206
           cases e206
           (try simp only [show (1 : Int).toNat = 1 from rfl, Nat.reduceMul, Nat.reduceEqDiff, Go.Addr.add, ↓reduceIte] at hx206_0)
           (try simp only [show (1 : Int).toNat = 1 from rfl, Nat.reduceMul, Nat.reduceEqDiff, Go.Addr.add, ↓reduceIte] at hx206_1)
           (try simp only [show (1 : Int).toNat = 1 from rfl, Nat.reduceMul, Nat.reduceEqDiff, Go.Addr.add, ↓reduceIte] at hx206_2)
           (try simp only [show (1 : Int).toNat = 1 from rfl, Nat.reduceMul, Nat.reduceEqDiff, Go.Addr.add, ↓reduceIte] at hx206_3)
           have qi206 : (1 < t199.length) = True := eq_true (by omega)
           (try rw [show ((1 : Int)).toNat = 1 from rfl] at hx206_0)
           (try rw [show 1 * 4 = 4 from rfl] at hx206_0)
           (try rw [show ((1 : Int)).toNat = 1 from rfl] at hx206_1)
           (try rw [show 1 * 4 = 4 from rfl] at hx206_1)
           (try rw [show ((1 : Int)).toNat = 1 from rfl] at hx206_2)
           (try rw [show 1 * 4 = 4 from rfl] at hx206_2)
           (try rw [show ((1 : Int)).toNat = 1 from rfl] at hx206_3)
           (try rw [show 1 * 4 = 4 from rfl] at hx206_3)
           replace p206 := eq_true p206
           replace q206 := eq_true q206
           go_wp2_with (first | (go_at_call 14; (with_reducible refine (o_Strict.calls _ _ y196 false _ ?side1 ?side2 A12.out).mono ?_); (case side1 => repeat (first | exact (Kd.R_reads' HO198.out).2.2 | (with_reducible refine Kd.C_alloc ?_ _) | (with_reducible refine Kd.C_drewN ?_ _) | (with_reducible refine Kd.C_drew ?_))); (case side2 => exact (Kd.R_reads' HO198.out).2.1); rintro e w42 ⟨rfl, hb⟩; have n0_ := Aside0.mk (Kd.R_below (by (with_reducible repeat (first | apply Kd.R_alloc | apply Kd.R_drewN | apply Kd.R_drew)); exact HO198.out) hb); have n1_ := Aside0.mk (Kd.R_below (by (with_reducible repeat (first | apply Kd.R_alloc | apply Kd.R_drewN | apply Kd.R_drew)); exact HO201.out) hb); have n2_ := Aside0.mk (Kd.R_below (by (with_reducible repeat (first | apply Kd.R_alloc | apply Kd.R_drewN | apply Kd.R_drew)); exact HO205.out) hb); have n3_ := Aside0.mk (below_step (by repeat (first | (with_reducible first | exact HB.out | apply below_alloc | apply pw_below_drewN | apply below_drew1) | exact HB.out)) hb); clear HO198; clear HO201; clear HO205; clear HB; have HO198 := n0_; have HO201 := n1_; have HO205 := n2_; have HB := n3_; clear n0_ n1_ n2_ n3_; (try clear hb); (try clear hb2); (try clear hk); (try clear hi); have q43 : (1 : Int) ≤ ((y196.length : Int) : Int) := of_decide_eq_true (by first | (with_reducible assumption) | assumption); obtain ⟨i043, hi043, _, hsz43, _⟩ := info_parts info29; have hroom43 : y196.length ≤ co6 := (Kd.R_reads' HO198.out).2.1; have hC43 : Kd.C k29 _ Ao6 y196.length y196 := (Kd.R_reads' HO198.out).2.2; have hcut43 := cut_to (P := Try.prog) 22 29 .i64 Try.underlying22 hi043 Ao6 y196.length co6 1 (by omega) q43 hroom43; have hr43 := Kd.C_take (m := 1) hC43 (by omega); have hy43 : y208.length = (1 : Int).toNat := (by rw [Ny208.out, List.length_take]; omega); rw [← Ny208.out] at hr43; rw [← hy43] at hcut43; have HR211 := Aside0.mk hr43; have HC211 := Aside0.mk (show y208.length ≤ co6 from by omega); clear hr43 hC43 hroom43 hi043 hsz43; have KY43 := Aside0.mk hy43; clear hy43; have KL43 := Aside0.mk (show 1 ≤ y196.length from by omega); replace q43 := eq_true q43) | (go_at_call 14; (with_reducible refine (o_Strict.calls _ _ y208 true _ ?side1 ?side2 A17.out).mono ?_); (case side1 => repeat (first | exact (by repeat (first | (with_reducible exact HR211.out) | (with_reducible refine Kd.C_alloc ?_ _) | (with_reducible refine Kd.C_drewN ?_ _) | (with_reducible refine Kd.C_drew ?_) | exact HR211.out)) | (with_reducible refine Kd.C_alloc ?_ _) | (with_reducible refine Kd.C_drewN ?_ _) | (with_reducible refine Kd.C_drew ?_))); (case side2 => exact HC211.out); rintro e w44 ⟨rfl, hb⟩; have n0_ := Aside0.mk (Kd.R_below (by (with_reducible repeat (first | apply Kd.R_alloc | apply Kd.R_drewN | apply Kd.R_drew)); exact HO198.out) hb); have n1_ := Aside0.mk (Kd.R_below (by (with_reducible repeat (first | apply Kd.R_alloc | apply Kd.R_drewN | apply Kd.R_drew)); exact HO201.out) hb); have n2_ := Aside0.mk (Kd.R_below (by (with_reducible repeat (first | apply Kd.R_alloc | apply Kd.R_drewN | apply Kd.R_drew)); exact HO205.out) hb); have n3_ := Aside0.mk (Kd.C_below (by repeat (first | (with_reducible exact HR211.out) | (with_reducible refine Kd.C_alloc ?_ _) | (with_reducible refine Kd.C_drewN ?_ _) | (with_reducible refine Kd.C_drew ?_) | exact HR211.out)) hb); have n4_ := Aside0.mk (below_step (by repeat (first | (with_reducible first | exact HB.out | apply below_alloc | apply pw_below_drewN | apply below_drew1) | exact HB.out)) hb); clear HO198; clear HO201; clear HO205; clear HR211; clear HB; have HO198 := n0_; have HO201 := n1_; have HO205 := n2_; have HR211 := n3_; have HB := n4_; clear n0_ n1_ n2_ n3_ n4_; (try clear hb); (try clear hb2); (try clear hk); (try clear hi)) | (go_at_call 12; (with_reducible refine (history_Before.calls k _ _ y196 1 2 true _ ?side1 ?side2 A19.out).mono ?_); (case side1 => repeat (first | exact (Kd.R_reads' HO198.out).2.2 | (with_reducible refine Kd.C_alloc ?_ _) | (with_reducible refine Kd.C_drewN ?_ _) | (with_reducible refine Kd.C_drew ?_))); (case side2 => exact (Kd.R_reads' HO198.out).2.1); rintro e w45 ⟨rfl, hb⟩; have n0_ := Aside0.mk (Kd.R_below (by (with_reducible repeat (first | apply Kd.R_alloc | apply Kd.R_drewN | apply Kd.R_drew)); exact HO198.out) hb); have n1_ := Aside0.mk (Kd.R_below (by (with_reducible repeat (first | apply Kd.R_alloc | apply Kd.R_drewN | apply Kd.R_drew)); exact HO201.out) hb); have n2_ := Aside0.mk (Kd.R_below (by (with_reducible repeat (first | apply Kd.R_alloc | apply Kd.R_drewN | apply Kd.R_drew)); exact HO205.out) hb); have n3_ := Aside0.mk (Kd.C_below (by repeat (first | (with_reducible exact HR211.out) | (with_reducible refine Kd.C_alloc ?_ _) | (with_reducible refine Kd.C_drewN ?_ _) | (with_reducible refine Kd.C_drew ?_) | exact HR211.out)) hb); have n4_ := Aside0.mk (below_step (by repeat (first | (with_reducible first | exact HB.out | apply below_alloc | apply pw_below_drewN | apply below_drew1) | exact HB.out)) hb); clear HO198; clear HO201; clear HO205; clear HR211; clear HB; have HO198 := n0_; have HO201 := n1_; have HO205 := n2_; have HR211 := n3_; have HB := n4_; clear n0_ n1_ n2_ n3_ n4_; (try clear hb); (try clear hb2); (try clear hk); (try clear hi)) | (go_at_call 12; (with_reducible refine (history_Before.calls k _ _ y196 2 1 false _ ?side1 ?side2 A21.out).mono ?_); (case side1 => repeat (first | exact (Kd.R_reads' HO198.out).2.2 | (with_reducible refine Kd.C_alloc ?_ _) | (with_reducible refine Kd.C_drewN ?_ _) | (with_reducible refine Kd.C_drew ?_))); (case side2 => exact (Kd.R_reads' HO198.out).2.1); rintro e w46 ⟨rfl, hb⟩; have n0_ := Aside0.mk (Kd.R_below (by (with_reducible repeat (first | apply Kd.R_alloc | apply Kd.R_drewN | apply Kd.R_drew)); exact HO198.out) hb); have n1_ := Aside0.mk (Kd.R_below (by (with_reducible repeat (first | apply Kd.R_alloc | apply Kd.R_drewN | apply Kd.R_drew)); exact HO201.out) hb); have n2_ := Aside0.mk (Kd.R_below (by (with_reducible repeat (first | apply Kd.R_alloc | apply Kd.R_drewN | apply Kd.R_drew)); exact HO205.out) hb); have n3_ := Aside0.mk (Kd.C_below (by repeat (first | (with_reducible exact HR211.out) | (with_reducible refine Kd.C_alloc ?_ _) | (with_reducible refine Kd.C_drewN ?_ _) | (with_reducible refine Kd.C_drew ?_) | exact HR211.out)) hb); have n4_ := Aside0.mk (below_step (by repeat (first | (with_reducible first | exact HB.out | apply below_alloc | apply pw_below_drewN | apply below_drew1) | exact HB.out)) hb); clear HO198; clear HO201; clear HO205; clear HR211; clear HB; have HO198 := n0_; have HO201 := n1_; have HO205 := n2_; have HR211 := n3_; have HB := n4_; clear n0_ n1_ n2_ n3_ n4_; (try clear hb); (try clear hb2); (try clear hk); (try clear hi)))
           go_meet
           case rel => exact ⟨_, (false), (by first | rfl | (simp; done) | (simp only [emptyNe_, emptyEq_]; done) | (simp [*]; done)), H', ⟨by first | omega | exact Nat.le_refl _⟩, ⟨by repeat (first | (with_reducible first | exact HB.out | apply below_alloc | apply pw_below_drewN | apply below_drew1) | exact HB.out)⟩⟩
        ·replace c20 := Bool.eq_false_iff.mpr c20
         subst c20
         have H1 : (logjamlaw38_lives.j0 k false) = some r := by rw [if_neg (show ¬ (false = true) by decide)] at H; exact H
         clear H
         have H := H1
         clear H1
         have H' := Aside0.mk H
         clear H
         obtain ⟨Ao47, co47, eo47⟩ := Kd.R_slice HO201.out
         subst eo47
         have p206 : 0 ≤ (1 : Int) := (by omega)
         have q206 : 1 < (t199.length : Int) := of_decide_eq_true (by first | (with_reducible assumption) | assumption)
         obtain ⟨ad206, e206, hx206_0, hx206_1, hx206_2, hx206_3⟩ := at_T31 (Kd.R_reads' HO201.out).2.2 1 p206 q206
         cases e206
         (try simp only [show (1 : Int).toNat = 1 from rfl, Nat.reduceMul, Nat.reduceEqDiff, Go.Addr.add, ↓reduceIte] at hx206_0)
         (try simp only [show (1 : Int).toNat = 1 from rfl, Nat.reduceMul, Nat.reduceEqDiff, Go.Addr.add, ↓reduceIte] at hx206_1)
         (try simp only [show (1 : Int).toNat = 1 from rfl, Nat.reduceMul, Nat.reduceEqDiff, Go.Addr.add, ↓reduceIte] at hx206_2)
         (try simp only [show (1 : Int).toNat = 1 from rfl, Nat.reduceMul, Nat.reduceEqDiff, Go.Addr.add, ↓reduceIte] at hx206_3)
         have qi206 : (1 < t199.length) = True := eq_true (by omega)
         (try rw [show ((1 : Int)).toNat = 1 from rfl] at hx206_0)
         (try rw [show 1 * 4 = 4 from rfl] at hx206_0)
         (try rw [show ((1 : Int)).toNat = 1 from rfl] at hx206_1)
         (try rw [show 1 * 4 = 4 from rfl] at hx206_1)
         (try rw [show ((1 : Int)).toNat = 1 from rfl] at hx206_2)
         (try rw [show 1 * 4 = 4 from rfl] at hx206_2)
         (try rw [show ((1 : Int)).toNat = 1 from rfl] at hx206_3)
         (try rw [show 1 * 4 = 4 from rfl] at hx206_3)
         replace p206 := eq_true p206
         replace q206 := eq_true q206
         go_wp2_with (first | (go_at_call 14; (with_reducible refine (o_Strict.calls _ _ y196 false _ ?side1 ?side2 A12.out).mono ?_); (case side1 => repeat (first | exact (Kd.R_reads' HO198.out).2.2 | (with_reducible refine Kd.C_alloc ?_ _) | (with_reducible refine Kd.C_drewN ?_ _) | (with_reducible refine Kd.C_drew ?_))); (case side2 => exact (Kd.R_reads' HO198.out).2.1); rintro e w48 ⟨rfl, hb⟩; have n0_ := Aside0.mk (Kd.R_below (by (with_reducible repeat (first | apply Kd.R_alloc | apply Kd.R_drewN | apply Kd.R_drew)); exact HO198.out) hb); have n1_ := Aside0.mk (Kd.R_below (by (with_reducible repeat (first | apply Kd.R_alloc | apply Kd.R_drewN | apply Kd.R_drew)); exact HO201.out) hb); have n2_ := Aside0.mk (Kd.R_below (by (with_reducible repeat (first | apply Kd.R_alloc | apply Kd.R_drewN | apply Kd.R_drew)); exact HO205.out) hb); have n3_ := Aside0.mk (below_step (by repeat (first | (with_reducible first | exact HB.out | apply below_alloc | apply pw_below_drewN | apply below_drew1) | exact HB.out)) hb); clear HO198; clear HO201; clear HO205; clear HB; have HO198 := n0_; have HO201 := n1_; have HO205 := n2_; have HB := n3_; clear n0_ n1_ n2_ n3_; (try clear hb); (try clear hb2); (try clear hk); (try clear hi); have q49 : (1 : Int) ≤ ((y196.length : Int) : Int) := of_decide_eq_true (by first | (with_reducible assumption) | assumption); obtain ⟨i049, hi049, _, hsz49, _⟩ := info_parts info29; have hroom49 : y196.length ≤ co6 := (Kd.R_reads' HO198.out).2.1; have hC49 : Kd.C k29 _ Ao6 y196.length y196 := (Kd.R_reads' HO198.out).2.2; have hcut49 := cut_to (P := Try.prog) 22 29 .i64 Try.underlying22 hi049 Ao6 y196.length co6 1 (by omega) q49 hroom49; have hr49 := Kd.C_take (m := 1) hC49 (by omega); have hy49 : y208.length = (1 : Int).toNat := (by rw [Ny208.out, List.length_take]; omega); rw [← Ny208.out] at hr49; rw [← hy49] at hcut49; have HR211 := Aside0.mk hr49; have HC211 := Aside0.mk (show y208.length ≤ co6 from by omega); clear hr49 hC49 hroom49 hi049 hsz49; have KY49 := Aside0.mk hy49; clear hy49; have KL49 := Aside0.mk (show 1 ≤ y196.length from by omega); replace q49 := eq_true q49) | (go_at_call 14; (with_reducible refine (o_Strict.calls _ _ y208 true _ ?side1 ?side2 A17.out).mono ?_); (case side1 => repeat (first | exact (by repeat (first | (with_reducible exact HR211.out) | (with_reducible refine Kd.C_alloc ?_ _) | (with_reducible refine Kd.C_drewN ?_ _) | (with_reducible refine Kd.C_drew ?_) | exact HR211.out)) | (with_reducible refine Kd.C_alloc ?_ _) | (with_reducible refine Kd.C_drewN ?_ _) | (with_reducible refine Kd.C_drew ?_))); (case side2 => exact HC211.out); rintro e w50 ⟨rfl, hb⟩; have n0_ := Aside0.mk (Kd.R_below (by (with_reducible repeat (first | apply Kd.R_alloc | apply Kd.R_drewN | apply Kd.R_drew)); exact HO198.out) hb); have n1_ := Aside0.mk (Kd.R_below (by (with_reducible repeat (first | apply Kd.R_alloc | apply Kd.R_drewN | apply Kd.R_drew)); exact HO201.out) hb); have n2_ := Aside0.mk (Kd.R_below (by (with_reducible repeat (first | apply Kd.R_alloc | apply Kd.R_drewN | apply Kd.R_drew)); exact HO205.out) hb); have n3_ := Aside0.mk (Kd.C_below (by repeat (first | (with_reducible exact HR211.out) | (with_reducible refine Kd.C_alloc ?_ _) | (with_reducible refine Kd.C_drewN ?_ _) | (with_reducible refine Kd.C_drew ?_) | exact HR211.out)) hb); have n4_ := Aside0.mk (below_step (by repeat (first | (with_reducible first | exact HB.out | apply below_alloc | apply pw_below_drewN | apply below_drew1) | exact HB.out)) hb); clear HO198; clear HO201; clear HO205; clear HR211; clear HB; have HO198 := n0_; have HO201 := n1_; have HO205 := n2_; have HR211 := n3_; have HB := n4_; clear n0_ n1_ n2_ n3_ n4_; (try clear hb); (try clear hb2); (try clear hk); (try clear hi)) | (go_at_call 12; (with_reducible refine (history_Before.calls k _ _ y196 1 2 false _ ?side1 ?side2 A19.out).mono ?_); (case side1 => repeat (first | exact (Kd.R_reads' HO198.out).2.2 | (with_reducible refine Kd.C_alloc ?_ _) | (with_reducible refine Kd.C_drewN ?_ _) | (with_reducible refine Kd.C_drew ?_))); (case side2 => exact (Kd.R_reads' HO198.out).2.1); rintro e w51 ⟨rfl, hb⟩; have n0_ := Aside0.mk (Kd.R_below (by (with_reducible repeat (first | apply Kd.R_alloc | apply Kd.R_drewN | apply Kd.R_drew)); exact HO198.out) hb); have n1_ := Aside0.mk (Kd.R_below (by (with_reducible repeat (first | apply Kd.R_alloc | apply Kd.R_drewN | apply Kd.R_drew)); exact HO201.out) hb); have n2_ := Aside0.mk (Kd.R_below (by (with_reducible repeat (first | apply Kd.R_alloc | apply Kd.R_drewN | apply Kd.R_drew)); exact HO205.out) hb); have n3_ := Aside0.mk (Kd.C_below (by repeat (first | (with_reducible exact HR211.out) | (with_reducible refine Kd.C_alloc ?_ _) | (with_reducible refine Kd.C_drewN ?_ _) | (with_reducible refine Kd.C_drew ?_) | exact HR211.out)) hb); have n4_ := Aside0.mk (below_step (by repeat (first | (with_reducible first | exact HB.out | apply below_alloc | apply pw_below_drewN | apply below_drew1) | exact HB.out)) hb); clear HO198; clear HO201; clear HO205; clear HR211; clear HB; have HO198 := n0_; have HO201 := n1_; have HO205 := n2_; have HR211 := n3_; have HB := n4_; clear n0_ n1_ n2_ n3_ n4_; (try clear hb); (try clear hb2); (try clear hk); (try clear hi)))
         go_meet
         case rel => exact ⟨_, (false), (by first | rfl | (simp; done) | (simp only [emptyNe_, emptyEq_]; done) | (simp [*]; done)), H', ⟨by first | omega | exact Nat.le_refl _⟩, ⟨by repeat (first | (with_reducible first | exact HB.out | apply below_alloc | apply pw_below_drewN | apply below_drew1) | exact HB.out)⟩⟩
       ·replace c18 := Bool.eq_false_iff.mpr c18
        subst c18
        have H1 : (logjamlaw38_lives.j0 k false) = some r := by rw [if_neg (show ¬ (false = true) by decide)] at H; exact H
        clear H
        have H := H1
        clear H1
        have H' := Aside0.mk H
        clear H
        obtain ⟨Ao52, co52, eo52⟩ := Kd.R_slice HO201.out
        subst eo52
        have p206 : 0 ≤ (1 : Int) := (by omega)
        have q206 : 1 < (t199.length : Int) := of_decide_eq_true (by first | (with_reducible assumption) | assumption)
        obtain ⟨ad206, e206, hx206_0, hx206_1, hx206_2, hx206_3⟩ := at_T31 (Kd.R_reads' HO201.out).2.2 1 p206 q206
        cases e206
        (try simp only [show (1 : Int).toNat = 1 from rfl, Nat.reduceMul, Nat.reduceEqDiff, Go.Addr.add, ↓reduceIte] at hx206_0)
        (try simp only [show (1 : Int).toNat = 1 from rfl, Nat.reduceMul, Nat.reduceEqDiff, Go.Addr.add, ↓reduceIte] at hx206_1)
        (try simp only [show (1 : Int).toNat = 1 from rfl, Nat.reduceMul, Nat.reduceEqDiff, Go.Addr.add, ↓reduceIte] at hx206_2)
        (try simp only [show (1 : Int).toNat = 1 from rfl, Nat.reduceMul, Nat.reduceEqDiff, Go.Addr.add, ↓reduceIte] at hx206_3)
        have qi206 : (1 < t199.length) = True := eq_true (by omega)
        (try rw [show ((1 : Int)).toNat = 1 from rfl] at hx206_0)
        (try rw [show 1 * 4 = 4 from rfl] at hx206_0)
        (try rw [show ((1 : Int)).toNat = 1 from rfl] at hx206_1)
        (try rw [show 1 * 4 = 4 from rfl] at hx206_1)
        (try rw [show ((1 : Int)).toNat = 1 from rfl] at hx206_2)
        (try rw [show 1 * 4 = 4 from rfl] at hx206_2)
        (try rw [show ((1 : Int)).toNat = 1 from rfl] at hx206_3)
        (try rw [show 1 * 4 = 4 from rfl] at hx206_3)
        replace p206 := eq_true p206
        replace q206 := eq_true q206
        go_wp2_with (first | (go_at_call 14; (with_reducible refine (o_Strict.calls _ _ y196 false _ ?side1 ?side2 A12.out).mono ?_); (case side1 => repeat (first | exact (Kd.R_reads' HO198.out).2.2 | (with_reducible refine Kd.C_alloc ?_ _) | (with_reducible refine Kd.C_drewN ?_ _) | (with_reducible refine Kd.C_drew ?_))); (case side2 => exact (Kd.R_reads' HO198.out).2.1); rintro e w53 ⟨rfl, hb⟩; have n0_ := Aside0.mk (Kd.R_below (by (with_reducible repeat (first | apply Kd.R_alloc | apply Kd.R_drewN | apply Kd.R_drew)); exact HO198.out) hb); have n1_ := Aside0.mk (Kd.R_below (by (with_reducible repeat (first | apply Kd.R_alloc | apply Kd.R_drewN | apply Kd.R_drew)); exact HO201.out) hb); have n2_ := Aside0.mk (Kd.R_below (by (with_reducible repeat (first | apply Kd.R_alloc | apply Kd.R_drewN | apply Kd.R_drew)); exact HO205.out) hb); have n3_ := Aside0.mk (below_step (by repeat (first | (with_reducible first | exact HB.out | apply below_alloc | apply pw_below_drewN | apply below_drew1) | exact HB.out)) hb); clear HO198; clear HO201; clear HO205; clear HB; have HO198 := n0_; have HO201 := n1_; have HO205 := n2_; have HB := n3_; clear n0_ n1_ n2_ n3_; (try clear hb); (try clear hb2); (try clear hk); (try clear hi); have q54 : (1 : Int) ≤ ((y196.length : Int) : Int) := of_decide_eq_true (by first | (with_reducible assumption) | assumption); obtain ⟨i054, hi054, _, hsz54, _⟩ := info_parts info29; have hroom54 : y196.length ≤ co6 := (Kd.R_reads' HO198.out).2.1; have hC54 : Kd.C k29 _ Ao6 y196.length y196 := (Kd.R_reads' HO198.out).2.2; have hcut54 := cut_to (P := Try.prog) 22 29 .i64 Try.underlying22 hi054 Ao6 y196.length co6 1 (by omega) q54 hroom54; have hr54 := Kd.C_take (m := 1) hC54 (by omega); have hy54 : y208.length = (1 : Int).toNat := (by rw [Ny208.out, List.length_take]; omega); rw [← Ny208.out] at hr54; rw [← hy54] at hcut54; have HR211 := Aside0.mk hr54; have HC211 := Aside0.mk (show y208.length ≤ co6 from by omega); clear hr54 hC54 hroom54 hi054 hsz54; have KY54 := Aside0.mk hy54; clear hy54; have KL54 := Aside0.mk (show 1 ≤ y196.length from by omega); replace q54 := eq_true q54) | (go_at_call 14; (with_reducible refine (o_Strict.calls _ _ y208 false _ ?side1 ?side2 A17.out).mono ?_); (case side1 => repeat (first | exact (by repeat (first | (with_reducible exact HR211.out) | (with_reducible refine Kd.C_alloc ?_ _) | (with_reducible refine Kd.C_drewN ?_ _) | (with_reducible refine Kd.C_drew ?_) | exact HR211.out)) | (with_reducible refine Kd.C_alloc ?_ _) | (with_reducible refine Kd.C_drewN ?_ _) | (with_reducible refine Kd.C_drew ?_))); (case side2 => exact HC211.out); rintro e w55 ⟨rfl, hb⟩; have n0_ := Aside0.mk (Kd.R_below (by (with_reducible repeat (first | apply Kd.R_alloc | apply Kd.R_drewN | apply Kd.R_drew)); exact HO198.out) hb); have n1_ := Aside0.mk (Kd.R_below (by (with_reducible repeat (first | apply Kd.R_alloc | apply Kd.R_drewN | apply Kd.R_drew)); exact HO201.out) hb); have n2_ := Aside0.mk (Kd.R_below (by (with_reducible repeat (first | apply Kd.R_alloc | apply Kd.R_drewN | apply Kd.R_drew)); exact HO205.out) hb); have n3_ := Aside0.mk (Kd.C_below (by repeat (first | (with_reducible exact HR211.out) | (with_reducible refine Kd.C_alloc ?_ _) | (with_reducible refine Kd.C_drewN ?_ _) | (with_reducible refine Kd.C_drew ?_) | exact HR211.out)) hb); have n4_ := Aside0.mk (below_step (by repeat (first | (with_reducible first | exact HB.out | apply below_alloc | apply pw_below_drewN | apply below_drew1) | exact HB.out)) hb); clear HO198; clear HO201; clear HO205; clear HR211; clear HB; have HO198 := n0_; have HO201 := n1_; have HO205 := n2_; have HR211 := n3_; have HB := n4_; clear n0_ n1_ n2_ n3_ n4_; (try clear hb); (try clear hb2); (try clear hk); (try clear hi)))
        go_meet
        case rel => exact ⟨_, (false), (by first | rfl | (simp; done) | (simp only [emptyNe_, emptyEq_]; done) | (simp [*]; done)), H', ⟨by first | omega | exact Nat.le_refl _⟩, ⟨by repeat (first | (with_reducible first | exact HB.out | apply below_alloc | apply pw_below_drewN | apply below_drew1) | exact HB.out)⟩⟩
      ·rw [if_neg c16] at H
       exact absurd H (by simp)
    ·rw [if_neg c11] at H
     have c11b0 : (((rd_T31 t199 1).f0) == 2 && (((rd_T31 t199 1).f1) == 1 && (((rd_T31 t199 1).f2) == 3 && (((rd_T31 t199 1).f3) == 3)))) = false := by simpa using c11
     (try (have c11b1 : decide (((rd_T31 t199 1).f0) = 2 && (((rd_T31 t199 1).f1) == 1 && (((rd_T31 t199 1).f2) == 3 && (((rd_T31 t199 1).f3) == 3)))) = false := by simpa using c11))
     (try (have c11b2 : (((rd_T31 t199 1).f0) == 2 && (((rd_T31 t199 1).f1) == 1 && (((rd_T31 t199 1).f2) == 3 && (((rd_T31 t199 1).f3) == 3)))) = false := by simpa using c11))
     (try (have c11b3 : ¬ (((rd_T31 t199 1).f0) = 2 && (((rd_T31 t199 1).f1) == 1 && (((rd_T31 t199 1).f2) == 3 && (((rd_T31 t199 1).f3) == 3)))) := by simpa using c11))
     clear c11
     have H' := Aside0.mk H
     clear H
     obtain ⟨Ao56, co56, eo56⟩ := Kd.R_slice HO201.out
     subst eo56
     have p206 : 0 ≤ (1 : Int) := (by omega)
     have q206 : 1 < (t199.length : Int) := of_decide_eq_true (by first | (with_reducible assumption) | assumption)
     obtain ⟨ad206, e206, hx206_0, hx206_1, hx206_2, hx206_3⟩ := at_T31 (Kd.R_reads' HO201.out).2.2 1 p206 q206
     cases e206
     (try simp only [show (1 : Int).toNat = 1 from rfl, Nat.reduceMul, Nat.reduceEqDiff, Go.Addr.add, ↓reduceIte] at hx206_0)
     (try simp only [show (1 : Int).toNat = 1 from rfl, Nat.reduceMul, Nat.reduceEqDiff, Go.Addr.add, ↓reduceIte] at hx206_1)
     (try simp only [show (1 : Int).toNat = 1 from rfl, Nat.reduceMul, Nat.reduceEqDiff, Go.Addr.add, ↓reduceIte] at hx206_2)
     (try simp only [show (1 : Int).toNat = 1 from rfl, Nat.reduceMul, Nat.reduceEqDiff, Go.Addr.add, ↓reduceIte] at hx206_3)
     have qi206 : (1 < t199.length) = True := eq_true (by omega)
     (try rw [show ((1 : Int)).toNat = 1 from rfl] at hx206_0)
     (try rw [show 1 * 4 = 4 from rfl] at hx206_0)
     (try rw [show ((1 : Int)).toNat = 1 from rfl] at hx206_1)
     (try rw [show 1 * 4 = 4 from rfl] at hx206_1)
     (try rw [show ((1 : Int)).toNat = 1 from rfl] at hx206_2)
     (try rw [show 1 * 4 = 4 from rfl] at hx206_2)
     (try rw [show ((1 : Int)).toNat = 1 from rfl] at hx206_3)
     (try rw [show 1 * 4 = 4 from rfl] at hx206_3)
     replace p206 := eq_true p206
     replace q206 := eq_true q206
     go_wp2
     go_meet
     case rel => exact ⟨_, (false), (by first | rfl | (simp; done) | (simp only [emptyNe_, emptyEq_]; done) | (simp [*]; done)), H', ⟨by first | omega | exact Nat.le_refl _⟩, ⟨by repeat (first | (with_reducible first | exact HB.out | apply below_alloc | apply pw_below_drewN | apply below_drew1) | exact HB.out)⟩⟩
   ·rw [if_neg c10] at H
    exact absurd H (by simp)
  ·rw [if_neg c9] at H
   have c9b0 : ((t199.length : Int) == 2) = false := beq_eq_false_iff_ne.mpr c9
   have c9b1 : ((t199.length : Int) != 2) = true := bne_iff_ne.mpr c9
   (first | rw [c9b0] | (simp only [i64_w, i32_w]; rw [c9b0]) | skip)
   have H' := Aside0.mk H
   clear H
   obtain ⟨Ao57, co57, eo57⟩ := Kd.R_slice HO201.out
   subst eo57
   go_wp2
   go_meet
   case rel => exact ⟨_, (false), (by first | rfl | (simp; done) | (simp only [emptyNe_, emptyEq_]; done) | (simp [*]; done)), H', ⟨by first | omega | exact Nat.le_refl _⟩, ⟨by repeat (first | (with_reducible first | exact HB.out | apply below_alloc | apply pw_below_drewN | apply below_drew1) | exact HB.out)⟩⟩
 case rest =>
  clear HC3; try clear c1; try clear c2; try clear p2; try clear q2; try clear hx2; try clear qi2; try clear q3; try clear q4; try clear c5; try clear q5; try clear c7; try clear c9; try clear c9b0; try clear c9b1; try clear c10; try clear c10b0; try clear c10b1; try clear c11; try clear c11b0; try clear c11b1; try clear c11b2; try clear c13; try clear c16; try clear c16b0; try clear c16b1; try clear c18; try clear c20; try clear p20; try clear q20; try clear hx20; try clear qi20; try clear c22; try clear q25; try clear c29; try clear q33; try clear q43; try clear q49; try clear q54; try clear hx206_0; try clear hx206_1; try clear hx206_2; try clear hx206_3; try clear p206; try clear q206; try clear q25; try clear q33; try clear q43; try clear q49; try clear q54
  obtain ⟨kq, x0_2, rfl, HA, HJ2, HB⟩ := hcut
  cases kq with
  | zero => exact absurd HA.out (by simp [logjamlaw38_lives.j0])
  | succ kj2 =>
   have H := HA.out
   clear HA
   simp only [logjamlaw38_lives.j0] at H
   obtain rfl := Option.some.inj H
   go_wp2
   go_ret
   exact ⟨by first | rfl | (simp [errW_none, errW_some] <;> rfl) | (simp [*, errW_none, errW_some] <;> rfl), by repeat (first | (with_reducible first | exact HB.out | apply below_alloc | apply pw_below_drewN | apply below_drew1) | exact HB.out)⟩
end Go.Proofs.Ytadepdeckapgcaa.PHi
end
