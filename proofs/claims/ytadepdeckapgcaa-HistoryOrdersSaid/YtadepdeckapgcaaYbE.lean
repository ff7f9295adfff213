/- LawHistoryOrders, part 5: what the proof stands on (merged by wip/shake.py out of the session's texts and of what the print wrote for this claim). -/
import Derived.Test.YtadepdeckapgcaaYbD

section
namespace Go.Proofs.Ytadepdeckapgcaa.PHi
open Go.RowKit Go.Proofs.Ytadepdeckapgcaa.Orc Go.Proofs.YtadepdeckapgcaaW.PrintWords Go.Proofs.YtadepdeckapgcaaW.PrintLast Go.Proofs.YtadepdeckapgcaaW.PrintMore
attribute [local go_sem] max2_int min2_int max_two min_two max_three min_three max_four min_four
set_option linter.unusedVariables false
set_option linter.unusedSimpArgs false
mutual
def logjamlaw38_HistoryOrders.l0 : Nat → List (S29) → List Int → Bool → Int → Option (Bool)
 | 0, _, _, _, _ => none
 | k + 1, x0, x3, x4, x5 => if x5 < (x3.length : Int) then (logjamlaw38_HistoryOrders.l1 k x0 x3 x4 x5 0) else ((logjamref38_Ends.f k x0).bind fun t274 => (logjamlaw38_HistoryOrders.l2 k x0 x3 x4 t274 0 0))
def logjamlaw38_HistoryOrders.l1 : Nat → List (S29) → List Int → Bool → Int → Int → Option (Bool)
 | 0, _, _, _, _, _ => none
 | k + 1, x0, x3, x4, x5, x6 => if x6 < x5 then (if 0 ≤ x5 then (if x5 < (x3.length : Int) then (if 0 ≤ x6 then (if x6 < (x3.length : Int) then ((logjamref38_Before.f k x0 (rd x3 x5) (rd x3 x6)).bind fun t271 => (if t271 = true then (some false) else (if (rd x3 x5) = (rd x3 x6) then (some false) else (logjamlaw38_HistoryOrders.l1 k x0 x3 x4 x5 (wrap64 (x6 + 1)))))) else (none)) else (none)) else (none)) else (none)) else (logjamlaw38_HistoryOrders.l0 k x0 x3 x4 (wrap64 (x5 + 1)))
def logjamlaw38_HistoryOrders.l2 : Nat → List (S29) → List Int → Bool → List Int → Int → Int → Option (Bool)
 | 0, _, _, _, _, _, _ => none
 | k + 1, x0, x3, x4, x7, x8, x9 => if x9 < (x7.length : Int) then (if 0 ≤ x9 then (if 0 ≤ (rd x7 x9) then (if (rd x7 x9) < (x0.length : Int) then (if ((rd_T29 x0 (rd x7 x9)).f0) = 3 then (logjamlaw38_HistoryOrders.l3 k x0 x3 x4 x7 (wrap64 (x8 + 1)) x9 ((rd_T29 x0 (rd x7 x9)).f2) false false 0) else (logjamlaw38_HistoryOrders.j7 k x0 x3 x4 x7 x8 x9)) else (none)) else (none)) else (none)) else (if (x4 == (x8 == (x3.length : Int))) = true then ((logjamlaw38_lives.f k).bind fun t285 => (some t285)) else (some false))
def logjamlaw38_HistoryOrders.j7 : Nat → List (S29) → List Int → Bool → List Int → Int → Int → Option (Bool)
 | 0, _, _, _, _, _, _ => none
 | k + 1, x0, x3, x4, x7, x8, x9 => logjamlaw38_HistoryOrders.l2 k x0 x3 x4 x7 x8 (wrap64 (x9 + 1))
def logjamlaw38_HistoryOrders.l3 : Nat → List (S29) → List Int → Bool → List Int → Int → Int → Int → Bool → Bool → Int → Option (Bool)
 | 0, _, _, _, _, _, _, _, _, _, _ => none
 | k + 1, x0, x3, x4, x7, x8, x9, x10, x11, x12, x13 => if x13 < (x3.length : Int) then (if x11 = true then (logjamlaw38_HistoryOrders.j4 k x0 x3 x4 x7 x8 x9 x10 true x12 x13) else (if 0 ≤ x13 then (logjamlaw38_HistoryOrders.j4 k x0 x3 x4 x7 x8 x9 x10 ((rd x3 x13) == x10) x12 x13) else (none))) else (logjamlaw38_HistoryOrders.l4 k x0 x3 x4 x7 x8 x9 x10 x11 x12 0)
def logjamlaw38_HistoryOrders.j4 : Nat → List (S29) → List Int → Bool → List Int → Int → Int → Int → Bool → Bool → Int → Option (Bool)
 | 0, _, _, _, _, _, _, _, _, _, _ => none
 | k + 1, x0, x3, x4, x7, x8, x9, x10, x11, x12, x13 => logjamlaw38_HistoryOrders.l3 k x0 x3 x4 x7 x8 x9 x10 x11 x12 (wrap64 (x13 + 1))
def logjamlaw38_HistoryOrders.l4 : Nat → List (S29) → List Int → Bool → List Int → Int → Int → Int → Bool → Bool → Int → Option (Bool)
 | 0, _, _, _, _, _, _, _, _, _, _ => none
 | k + 1, x0, x3, x4, x7, x8, x9, x10, x11, x12, x14 => if x14 < (x7.length : Int) then (if x12 = true then (logjamlaw38_HistoryOrders.j6 k x0 x3 x4 x7 x8 x9 x10 x11 true x14) else (if 0 ≤ x14 then (if 0 ≤ (rd x7 x14) then (if (rd x7 x14) < (x0.length : Int) then ((logjamref38_Before.f k x0 ((rd_T29 x0 (rd x7 x14)).f2) x10).bind fun t284 => (logjamlaw38_HistoryOrders.j6 k x0 x3 x4 x7 x8 x9 x10 x11 t284 x14)) else (none)) else (none)) else (none))) else (if x11 = true then (logjamlaw38_HistoryOrders.j7 k x0 x3 x4 x7 x8 x9) else (if x12 = true then (logjamlaw38_HistoryOrders.j7 k x0 x3 x4 x7 x8 x9) else (some false)))
def logjamlaw38_HistoryOrders.j6 : Nat → List (S29) → List Int → Bool → List Int → Int → Int → Int → Bool → Bool → Int → Option (Bool)
 | 0, _, _, _, _, _, _, _, _, _, _ => none
 | k + 1, x0, x3, x4, x7, x8, x9, x10, x11, x12, x14 => logjamlaw38_HistoryOrders.l4 k x0 x3 x4 x7 x8 x9 x10 x11 x12 (wrap64 (x14 + 1))
end
def logjamlaw38_HistoryOrders.f (k : Nat) (l0 : List (S29)) : Option (Bool) := (logjamlaw38_few.f k l0).bind fun t259 => ((logjamlaw38_few.f k t259).bind fun t262 => ((o_Serial.f t262).bind fun bt265 => (logjamlaw38_HistoryOrders.l0 k t259 bt265.1 bt265.2 0)))
def logjamlaw38_HistoryOrders.T9 : Bool × List (List Nat × List Nat) := (true, [([], []), ([], []), ([], []), ([1, 2], [1, 2]), ([3], [3]), ([], []), ([], []), ([5, 6], [5, 6]), ([7], [7]), ([0, 4, 8], [0, 4, 8]), ([9, 9], [9]), ([10], [10]), ([10], [10]), ([11, 12, 10], [10, 11, 12]), ([13, 10], [10, 13]), ([10], [10]), ([10], [10]), ([15, 16, 10], [10, 15, 16]), ([17, 10], [10, 17]), ([14, 18, 10], [10, 14, 18]), ([10, 19], [10, 19])])
def logjamlaw38_HistoryOrders.B9 : List Nat := [0, 0, 0, 6, 14, 0, 0, 96, 224, 511, 1023, 2047, 2047, 8191, 16383, 2047, 2047, 100351, 231423, 524287, 1048575]
theorem logjamlaw38_HistoryOrders.tab9 : rtab .any (opsOf Try.f4 9) = logjamlaw38_HistoryOrders.T9 := by kernel_rfl
theorem logjamlaw38_HistoryOrders.bits9 : waitsOk logjamlaw38_HistoryOrders.T9.2 logjamlaw38_HistoryOrders.B9 = true := by kernel_rfl
set_option maxHeartbeats 8000000 in
set_option maxRecDepth 100000 in
theorem logjamlaw38_HistoryOrders.calls (k : Nat) (A0 : Option Addr) (c0 : Nat) (l0 : List (S29)) (r : Bool) (w : World) (hr0 : Kd.C k29 w A0 l0.length l0) (hc0 : l0.length ≤ c0) (h : logjamlaw38_HistoryOrders.f k l0 = some r) :
  Calls Try.prog 4 #[.slice A0 l0.length c0] w fun e w' => e = .returned (.bool r) ∧ Below w.heap.size w w' := by
 have HR0 := Aside0.mk hr0
 have HC0 := Aside0.mk hc0
 clear hr0 hc0
 have HB := Aside0.mk (Below.refl w.heap.size w)
 have H : ((logjamlaw38_few.f k l0).bind fun t259 => ((logjamlaw38_few.f k t259).bind fun t262 => ((o_Serial.f t262).bind fun bt265 => (logjamlaw38_HistoryOrders.l0 k t259 bt265.1 bt265.2 0)))) = some r := h
 clear h
 replace H := Option.bind_eq_some_iff.mp H
 obtain ⟨t259, A20, H⟩ := H
 replace H : ((logjamlaw38_few.f k t259).bind fun t262 => ((o_Serial.f t262).bind fun bt265 => (logjamlaw38_HistoryOrders.l0 k t259 bt265.1 bt265.2 0))) = some r := H
 have A2 := Aside0.mk A20
 clear A20
 replace H := Option.bind_eq_some_iff.mp H
 obtain ⟨t262, A30, H⟩ := H
 replace H : ((o_Serial.f t262).bind fun bt265 => (logjamlaw38_HistoryOrders.l0 k t259 bt265.1 bt265.2 0)) = some r := H
 have A3 := Aside0.mk A30
 clear A30
 replace H := Option.bind_eq_some_iff.mp H
 obtain ⟨⟨t265, t266⟩, A40, H⟩ := H
 replace H : (logjamlaw38_HistoryOrders.l0 k t259 t265 t266 0) = some r := H
 have A4 := Aside0.mk A40
 clear A40
 have H' := Aside0.mk H
 clear H
 go_enter Try.func4, Try.ntmps4
 go_wp2_with (first | ((with_reducible refine gate_callee (f := 6) rfl ?_); refine goesL_ (some 16) rfl rfl Try.func6 (by kernel_rfl) rfl #[.slice A0 l0.length c0] rfl (by (try simp only [List.map_toArray, List.map_cons, List.map_nil]); first | done | rfl | (simp only [List.length_drop, List.length_take]; rfl)) ?_; (with_reducible refine (logjamlaw38_few.calls k (fun k_ => k_ < w.heap.size) _ _ l0 t259 _ ?side1 A2.out).mono ?_); (case side1 => exact Kd.V_mk HC0.out (Kd.F_below (Kd.C_F k29_heap HR0.out) (by repeat (first | (with_reducible first | exact HB.out | apply below_alloc | apply pw_below_drewN | apply below_drew1) | exact HB.out)))); rintro e w5 ⟨v260, rfl, ho0, hb⟩; refine ⟨_, rfl, ?_⟩; have n0_ := Aside0.mk (Kd.R_lower (Kd.R_mono (ok' := fun k_ => True) ho0 (fun _ hk_ => trivial)) (below_size (by repeat (first | (with_reducible first | exact HB.out | apply below_alloc | apply pw_below_drewN | apply below_drew1) | exact HB.out)))); have n1_ := Aside0.mk (below_step (by repeat (first | (with_reducible first | exact HB.out | apply below_alloc | apply pw_below_drewN | apply below_drew1) | exact HB.out)) hb); clear HB; have HO261 := n0_; have HB := n1_; clear n0_ n1_; (try clear hb); (try clear hb2); (try clear hk); (try clear hi); (try clear ho0); obtain ⟨Ao6, co6, eo6⟩ := Kd.R_slice HO261.out; subst eo6) | ((with_reducible refine gate_callee (f := 6) rfl ?_); refine goesL_ (some 19) rfl rfl Try.func6 (by kernel_rfl) rfl #[.slice Ao6 t259.length co6] rfl (by (try simp only [List.map_toArray, List.map_cons, List.map_nil]); first | done | rfl | (simp only [List.length_drop, List.length_take]; rfl)) ?_; (with_reducible refine (logjamlaw38_few.calls k (fun k_ => some k_ = (.slice Ao6 t259.length co6 : Value).ownBlock) _ _ t259 t262 _ ?side1 A3.out).mono ?_); (case side1 => exact Kd.R_V (Kd.R_tight rfl (HO261.out))); rintro e w7 ⟨v263, rfl, ho0, hb⟩; refine ⟨_, rfl, ?_⟩; have n0_ := Aside0.mk (Kd.R_elder' (by (with_reducible repeat (first | apply Kd.R_alloc | apply Kd.R_drewN | apply Kd.R_drew)); exact HO261.out) (Kd.R_base ho0) hb); have n1_ := Aside0.mk (Kd.R_lower (Kd.R_new' (Kd.R_mono (ok' := fun k_ => True) ho0 (fun _ hk_ => trivial)) (Kd.R_lt (by (with_reducible repeat (first | apply Kd.R_alloc | apply Kd.R_drewN | apply Kd.R_drew)); exact HO261.out))) (below_size (by repeat (first | (with_reducible first | exact HB.out | apply below_alloc | apply pw_below_drewN | apply below_drew1) | exact HB.out)))); have n2_ := Aside0.mk (below_step (by repeat (first | (with_reducible first | exact HB.out | apply below_alloc | apply pw_below_drewN | apply below_drew1) | exact HB.out)) hb); clear HO261; clear HB; have HO261 := n0_; have HO264 := n1_; have HB := n2_; clear n0_ n1_ n2_; (try clear hb); (try clear hb2); (try clear hk); (try clear hi); (try clear ho0); obtain ⟨Ao8, co8, eo8⟩ := Kd.R_slice HO264.out; subst eo8) | ((with_reducible refine gate_callee (f := 9) rfl ?_); refine goesL_ (some 20) rfl rfl Try.func9 (by kernel_rfl) rfl #[.slice Ao8 t262.length co8] rfl (by (try simp only [List.map_toArray, List.map_cons, List.map_nil]); first | done | rfl | (simp only [List.length_drop, List.length_take]; rfl)) ?_; (with_reducible refine (o_Serial.calls _ _ t262 t265 t266 _ ?side1 ?side2 A4.out).mono ?_); (case side1 => repeat (first | exact (Kd.R_reads' HO264.out).2.2 | (with_reducible refine Kd.C_alloc ?_ _) | (with_reducible refine Kd.C_drewN ?_ _) | (with_reducible refine Kd.C_drew ?_))); (case side2 => exact (Kd.R_reads' HO264.out).2.1); rintro e w9 ⟨v267, rfl, ho0, hb⟩; refine ⟨_, rfl, ?_⟩; have n0_ := Aside0.mk (Kd.R_below (by (with_reducible repeat (first | apply Kd.R_alloc | apply Kd.R_drewN | apply Kd.R_drew)); exact HO261.out) hb); have n1_ := Aside0.mk (Kd.R_below (by (with_reducible repeat (first | apply Kd.R_alloc | apply Kd.R_drewN | apply Kd.R_drew)); exact HO264.out) hb); have n2_ := Aside0.mk (Kd.R_lower ho0 (below_size (by repeat (first | (with_reducible first | exact HB.out | apply below_alloc | apply pw_below_drewN | apply below_drew1) | exact HB.out)))); have n3_ := Aside0.mk (below_step (by repeat (first | (with_reducible first | exact HB.out | apply below_alloc | apply pw_below_drewN | apply below_drew1) | exact HB.out)) hb); clear HO261; clear HO264; clear HB; have HO261 := n0_; have HO264 := n1_; have HO268 := n2_; have HB := n3_; clear n0_ n1_ n2_ n3_; (try clear hb); (try clear hb2); (try clear hk); (try clear hi); (try clear ho0)))
 go_loopg [5] k (fun kq v5 w' => ∃ (x5_1 : Int), v5 = .int .i64 x5_1 ∧ Aside0 (logjamlaw38_HistoryOrders.l0 kq t259 t265 t266 x5_1 = some r) ∧ Aside0 (kq ≤ k) ∧ Aside0 (Kd.R k29 29 w' w.heap.size (fun _ => True) (.slice Ao6 t259.length co6) t259) ∧ Aside0 (Kd.R (Kd.int .i64) 3 w' w.heap.size (fun _ => True) v267 t265) ∧ Aside0 (Below w.heap.size w w'))
 case atStart => exact ⟨(0), (by first | rfl | (simp; done) | (simp only [emptyNe_, emptyEq_]; done) | (simp [*]; done)), H', ⟨Nat.le_refl _⟩, ⟨by (with_reducible repeat (first | apply Kd.R_alloc | apply Kd.R_drewN | apply Kd.R_drew)); exact Kd.R_mono HO261.out (fun _ hk => trivial)⟩, ⟨by (with_reducible repeat (first | apply Kd.R_alloc | apply Kd.R_drewN | apply Kd.R_drew)); exact HO268.out⟩, ⟨by repeat (first | (with_reducible first | exact HB.out | apply below_alloc | apply pw_below_drewN | apply below_drew1) | exact HB.out)⟩⟩
 case round =>
  clear H'; try clear p2; try clear c4; try clear c6; try clear c9
  obtain ⟨x5_1, rfl, HA, HK1, HO_0, HO_3, HB⟩ := hrel
  cases gk with
  | zero => exact absurd HA.out (by simp [logjamlaw38_HistoryOrders.l0])
  | succ k1 =>
   have H := HA.out
   clear HA
   simp only [logjamlaw38_HistoryOrders.l0] at H
   by_cases c10 : x5_1 < (t265.length : Int)
   ·rw [if_pos c10] at H
    have c10b0 : decide (x5_1 < (t265.length : Int)) = true := decide_eq_true c10
    clear c10
    have H' := Aside0.mk H
    clear H
    obtain ⟨Ao11, co11, eo11⟩ := Kd.R_slice HO_3.out
    subst eo11
    go_wp2
    go_loopg [6] k1 (fun kq v6 w' => ∃ (x6_2 : Int), v6 = .int .i64 x6_2 ∧ Aside0 (logjamlaw38_HistoryOrders.l1 kq t259 t265 t266 x5_1 x6_2 = some r) ∧ Aside0 (kq ≤ k1) ∧ Aside0 (Kd.R k29 29 w' w.heap.size (fun _ => True) (.slice Ao6 t259.length co6) t259) ∧ Aside0 (Kd.R (Kd.int .i64) 3 w' w.heap.size (fun _ => True) (.slice Ao11 t265.length co11) t265) ∧ Aside0 (Below w.heap.size w w'))
    case atStart => exact ⟨(0), (by first | rfl | (simp; done) | (simp only [emptyNe_, emptyEq_]; done) | (simp [*]; done)), H', ⟨Nat.le_refl _⟩, ⟨by (with_reducible repeat (first | apply Kd.R_alloc | apply Kd.R_drewN | apply Kd.R_drew)); exact HO_0.out⟩, ⟨by (with_reducible repeat (first | apply Kd.R_alloc | apply Kd.R_drewN | apply Kd.R_drew)); exact HO_3.out⟩, ⟨by repeat (first | (with_reducible first | exact HB.out | apply below_alloc | apply pw_below_drewN | apply below_drew1) | exact HB.out)⟩⟩
    case round =>
     clear H'; try clear c1; try clear p2; try clear c4; try clear c6; try clear c9; try clear c10; try clear c10b0; try clear p2
     obtain ⟨x6_2, rfl, HA, HK2, HO_0, HO_3, HB⟩ := hrel
     cases gk with
     | zero => exact absurd HA.out (by simp [logjamlaw38_HistoryOrders.l1])
     | succ k2 =>
      have H := HA.out
      clear HA
      simp only [logjamlaw38_HistoryOrders.l1] at H
      by_cases c12 : x6_2 < x5_1
      ·rw [if_pos c12] at H
       have c12b0 : decide (x6_2 < x5_1) = true := decide_eq_true c12
       clear c12
       by_cases c13 : 0 ≤ x5_1
       ·rw [if_pos c13] at H
        have c13b0 : decide (0 ≤ x5_1) = true := decide_eq_true c13
        clear c13
        by_cases c14 : x5_1 < (t265.length : Int)
        ·rw [if_pos c14] at H
         have c14b0 : decide (x5_1 < (t265.length : Int)) = true := decide_eq_true c14
         clear c14
         by_cases c15 : 0 ≤ x6_2
         ·rw [if_pos c15] at H
          have c15b0 : decide (0 ≤ x6_2) = true := decide_eq_true c15
          clear c15
          by_cases c16 : x6_2 < (t265.length : Int)
          ·rw [if_pos c16] at H
           have c16b0 : decide (x6_2 < (t265.length : Int)) = true := decide_eq_true c16
           clear c16
           replace H := Option.bind_eq_some_iff.mp H
           obtain ⟨t271, A170, H⟩ := H
           replace H : (if t271 = true then (some false) else (if (rd t265 x5_1) = (rd t265 x6_2) then (some false) else (logjamlaw38_HistoryOrders.l1 k2 t259 t265 t266 x5_1 (wrap64 (x6_2 + 1))))) = some r := H
           have A17 := Aside0.mk A170
           clear A170
           by_cases c18 : t271 = true
           ·subst c18
            have H1 : (some false) = some r := by rw [if_pos rfl] at H; exact H
            clear H
            have H := H1
            clear H1
            obtain rfl := Option.some.inj H
            try go_wp2
            have n0_ := Aside0.mk (Kd.R_drew HO_0.out)
            have n1_ := Aside0.mk (Kd.R_drew HO_3.out)
            have n2_ := Aside0.mk (below_drew1 HB.out)
            clear HO_0; clear HO_3; clear HB; have HO_0 := n0_; have HO_3 := n1_; have HB := n2_; clear n0_ n1_ n2_
            have p269 : 0 ≤ (x5_1 : Int) := of_decide_eq_true (by first | (with_reducible assumption) | assumption)
            have q269 : x5_1 < (t265.length : Int) := of_decide_eq_true (by first | (with_reducible assumption) | assumption)
            obtain ⟨ad269, e269, hx269_0⟩ := Kd.at_int (Kd.R_reads' HO_3.out).2.2 x5_1 p269 q269
            cases e269
            replace p269 := eq_true p269
            replace q269 := eq_true q269
            have p270 : 0 ≤ (x6_2 : Int) := of_decide_eq_true (by first | (with_reducible assumption) | assumption)
            have q270 : x6_2 < (t265.length : Int) := of_decide_eq_true (by first | (with_reducible assumption) | assumption)
            obtain ⟨ad270, e270, hx270_0⟩ := Kd.at_int (Kd.R_reads' HO_3.out).2.2 x6_2 p270 q270
            obtain rfl : ad269 = ad270 := (by injection e270)
            replace p270 := eq_true p270
            replace q270 := eq_true q270
            refine start_ (n := 21) (S := fun w' => w'.cell? (ad269.add (x5_1).toNat) = some (.int .i64 (rd t265 x5_1)) ∧ w'.cell? (ad269.add (x6_2).toNat) = some (.int .i64 (rd t265 x6_2))) (ds := []) #[false, false, false, false, false, false, false, false, false, false, false, false, false, false, false, false, false, false, false, false, false] (by kernel_rfl) rfl rfl ⟨hx269_0, hx270_0⟩ (fun hHeld => ?_); refine with_tabW logjamlaw38_HistoryOrders.tab9 logjamlaw38_HistoryOrders.bits9 (fun HT_ HW_ => ?_)
            generalize wr.drew = w19 at HO_0 HO_3 HB hx269_0 hx270_0 hHeld ⊢
            refine pure_ (i := 0) (N := some 34) (v := ?_) (a' := ?_) #[true, false, false, false, false, false, false, false, false, false, false, false, false, false, false, false, false, false, false, false, false] rfl rfl (any_of HT_.out (by kernel_rfl)) (fun _ _ _ h => h) (Or.inl ⟨by rfl, ?_⟩) ?_ ?_
            rotate_left
            ·intro w'
             go_simp
             with_reducible rfl
            rotate_left
            ·simp only [Act.put, List.setIfInBounds_toArray, List.set_cons_zero, List.set_cons_succ, i64_w, i32_w]
             rfl
            refine pure_ (i := 1) (N := some 35) (v := ?_) (a' := ?_) #[true, true, false, false, false, false, false, false, false, false, false, false, false, false, false, false, false, false, false, false, false] rfl rfl (any_of HT_.out (by kernel_rfl)) (fun _ _ _ h => h) (Or.inl ⟨by rfl, ?_⟩) ?_ ?_
            rotate_left
            ·intro w'
             go_simp
             with_reducible rfl
            rotate_left
            ·simp only [Act.put, List.setIfInBounds_toArray, List.set_cons_zero, List.set_cons_succ, i64_w, i32_w]
             rfl
            refine pure_ (i := 2) (N := some 36) (v := ?_) (a' := ?_) #[true, true, true, false, false, false, false, false, false, false, false, false, false, false, false, false, false, false, false, false, false] rfl rfl (any_of HT_.out (by kernel_rfl)) (fun _ _ _ h => h) (Or.inl ⟨by rfl, ?_⟩) ?_ ?_
            rotate_left
            ·intro w'
             go_simp
             with_reducible rfl
            rotate_left
            ·simp only [Act.put, List.setIfInBounds_toArray, List.set_cons_zero, List.set_cons_succ, i64_w, i32_w]
             rfl
            refine pure_ (i := 3) (N := some 37) (v := ?_) (a' := ?_) #[true, true, true, true, false, false, false, false, false, false, false, false, false, false, false, false, false, false, false, false, false] rfl rfl (any_of HT_.out (by kernel_rfl)) (fun _ _ _ h => h) (Or.inl ⟨by rfl, ?_⟩) ?_ ?_
            rotate_left
            ·intro w'
             go_simp
             with_reducible rfl
            rotate_left
            ·simp only [Act.put, List.setIfInBounds_toArray, List.set_cons_zero, List.set_cons_succ, i64_w, i32_w]
             rfl
            refine pure_ (i := 5) (N := some 39) (v := ?_) (a' := ?_) #[true, true, true, true, false, true, false, false, false, false, false, false, false, false, false, false, false, false, false, false, false] rfl rfl (any_of HT_.out (by kernel_rfl)) (fun _ _ _ h => h) (Or.inl ⟨by rfl, ?_⟩) ?_ ?_
            rotate_left
            ·intro w'
             go_simp
             with_reducible rfl
            rotate_left
            ·simp only [Act.put, List.setIfInBounds_toArray, List.set_cons_zero, List.set_cons_succ, i64_w, i32_w]
             rfl
            refine pure_ (i := 6) (N := some 40) (v := ?_) (a' := ?_) #[true, true, true, true, false, true, true, false, false, false, false, false, false, false, false, false, false, false, false, false, false] rfl rfl (any_of HT_.out (by kernel_rfl)) (fun _ _ _ h => h) (Or.inl ⟨by rfl, ?_⟩) ?_ ?_
            rotate_left
            ·intro w'
             go_simp
             with_reducible rfl
            rotate_left
            ·simp only [Act.put, List.setIfInBounds_toArray, List.set_cons_zero, List.set_cons_succ, i64_w, i32_w]
             rfl
            refine pure_ (i := 7) (N := some 41) (v := ?_) (a' := ?_) #[true, true, true, true, false, true, true, true, false, false, false, false, false, false, false, false, false, false, false, false, false] rfl rfl (any_of HT_.out (by kernel_rfl)) (fun _ _ _ h => h) (Or.inl ⟨by rfl, ?_⟩) ?_ ?_
            rotate_left
            ·intro w'
             go_simp
             with_reducible rfl
            rotate_left
            ·simp only [Act.put, List.setIfInBounds_toArray, List.set_cons_zero, List.set_cons_succ, i64_w, i32_w]
             rfl
            refine take_ (i := 4) (N := some 38) (v := ?_) (a' := ?_) #[true, true, true, true, true, true, true, true, false, false, false, false, false, false, false, false, false, false, false, false, false] rfl rfl (take_ofW HT_.out HW_.out (by kernel_rfl)) (fun _ _ _ h => h) (Or.inl ⟨by rfl, ?_⟩) hHeld ?_ ?_
            rotate_left
            ·rintro w' ⟨s0, s1⟩
             go_simp
             with_reducible rfl
            rotate_left
            ·simp only [Act.put, List.setIfInBounds_toArray, List.set_cons_zero, List.set_cons_succ, i64_w, i32_w]
             rfl
            refine take_ (i := 8) (N := some 42) (v := ?_) (a' := ?_) #[true, true, true, true, true, true, true, true, true, false, false, false, false, false, false, false, false, false, false, false, false] rfl rfl (take_ofW HT_.out HW_.out (by kernel_rfl)) (fun _ _ _ h => h) (Or.inl ⟨by rfl, ?_⟩) hHeld ?_ ?_
            rotate_left
            ·rintro w' ⟨s0, s1⟩
             go_simp
             with_reducible rfl
            rotate_left
            ·simp only [Act.put, List.setIfInBounds_toArray, List.set_cons_zero, List.set_cons_succ, i64_w, i32_w]
             rfl
            refine one_ (i := 9) (N := some 43) #[true, true, true, true, true, true, true, true, true, true, false, false, false, false, false, false, false, false, false, false, false] rfl rfl (one_of HT_.out (by kernel_rfl)) (by decide) (fun K hK => ?_)
            refine goes_ Try.func13 (by kernel_rfl) rfl #[.slice Ao6 t259.length co6, .int .i64 (rd t265 x5_1), .int .i64 (rd t265 x6_2)] (by rfl) rfl rfl (by (try simp only [List.map_toArray, List.map_cons, List.map_nil]); first | done | rfl | (simp only [List.length_drop, List.length_take]; rfl)) ?_
            with_reducible refine (logjamref38_Before.calls k2 _ _ t259 (rd t265 x5_1) (rd t265 x6_2) true _ ?side1 ?side2 A17.out).mono ?_
            (case side1 => repeat (first | exact (Kd.R_reads' HO_0.out).2.2 | (with_reducible refine Kd.C_alloc ?_ _) | (with_reducible refine Kd.C_drewN ?_ _) | (with_reducible refine Kd.C_drew ?_)))
            (case side2 => exact (Kd.R_reads' HO_0.out).2.1)
            rintro e w20 ⟨rfl, hb⟩
            have HS0_ := (hb.cell (World.block_lt_of_cell? _ _ (hHeld.1))).trans (hHeld.1)
            have HS1_ := (hb.cell (World.block_lt_of_cell? _ _ (hHeld.2))).trans (hHeld.2)
            refine ⟨_, rfl, ?_⟩
            have n0_ := Aside0.mk (Kd.R_below (by (with_reducible repeat (first | apply Kd.R_alloc | apply Kd.R_drewN | apply Kd.R_drew)); exact HO_0.out) hb)
            have n1_ := Aside0.mk (Kd.R_below (by (with_reducible repeat (first | apply Kd.R_alloc | apply Kd.R_drewN | apply Kd.R_drew)); exact HO_3.out) hb)
            have n2_ := Aside0.mk (below_step (by repeat (first | (with_reducible first | exact HB.out | apply below_alloc | apply pw_below_drewN | apply below_drew1) | exact HB.out)) hb)
            clear HO_0; clear HO_3; clear HB; have HO_0 := n0_; have HO_3 := n1_; have HB := n2_; clear n0_ n1_ n2_; (try clear hb); (try clear hb2); (try clear hk); (try clear hi)
            refine hK.out _ _ ⟨HS0_, HS1_⟩ (fun hHeld => ?_)
            clear hK K
            refine norm_ (a' := ?_) ?_ ?_
            rotate_left
            ·show Act.put _ (some 43) _ = _
             simp only [Act.put, List.setIfInBounds_toArray, List.set_cons_zero, List.set_cons_succ, i64_w, i32_w]
             rfl
            refine pure_ (i := 10) (N := some 44) (v := ?_) (a' := ?_) #[true, true, true, true, true, true, true, true, true, true, true, false, false, false, false, false, false, false, false, false, false] rfl rfl (any_of HT_.out (by kernel_rfl)) (fun _ _ _ h => h) (Or.inl ⟨by rfl, ?_⟩) ?_ ?_
            rotate_left
            ·intro w'
             go_simp
             with_reducible rfl
            rotate_left
            ·simp only [Act.put, List.setIfInBounds_toArray, List.set_cons_zero, List.set_cons_succ, i64_w, i32_w]
             rfl
            refine pure_ (i := 11) (N := some 45) (v := undef) (a' := ?_) #[true, true, true, true, true, true, true, true, true, true, true, true, false, false, false, false, false, false, false, false, false] rfl rfl (any_of HT_.out (by kernel_rfl)) (fun _ _ _ h => h) (Or.inr ⟨by rfl, rfl⟩) ?_ ?_
            rotate_left
            ·simp only [Act.put, List.setIfInBounds_toArray, List.set_cons_zero, List.set_cons_succ, i64_w, i32_w]
             rfl
            refine pure_ (i := 12) (N := some 46) (v := undef) (a' := ?_) #[true, true, true, true, true, true, true, true, true, true, true, true, true, false, false, false, false, false, false, false, false] rfl rfl (any_of HT_.out (by kernel_rfl)) (fun _ _ _ h => h) (Or.inr ⟨by rfl, rfl⟩) ?_ ?_
            rotate_left
            ·simp only [Act.put, List.setIfInBounds_toArray, List.set_cons_zero, List.set_cons_succ, i64_w, i32_w]
             rfl
            refine pure_ (i := 13) (N := some 47) (v := undef) (a' := ?_) #[true, true, true, true, true, true, true, true, true, true, true, true, true, true, false, false, false, false, false, false, false] rfl rfl (any_of HT_.out (by kernel_rfl)) (fun _ _ _ h => h) (Or.inr ⟨by rfl, rfl⟩) ?_ ?_
            rotate_left
            ·simp only [Act.put, List.setIfInBounds_toArray, List.set_cons_zero, List.set_cons_succ, i64_w, i32_w]
             rfl
            refine pure_ (i := 14) (N := some 48) (v := undef) (a' := ?_) #[true, true, true, true, true, true, true, true, true, true, true, true, true, true, true, false, false, false, false, false, false] rfl rfl (any_of HT_.out (by kernel_rfl)) (fun _ _ _ h => h) (Or.inr ⟨by rfl, rfl⟩) ?_ ?_
            rotate_left
            ·simp only [Act.put, List.setIfInBounds_toArray, List.set_cons_zero, List.set_cons_succ, i64_w, i32_w]
             rfl
            refine pure_ (i := 15) (N := some 49) (v := undef) (a' := ?_) #[true, true, true, true, true, true, true, true, true, true, true, true, true, true, true, true, false, false, false, false, false] rfl rfl (any_of HT_.out (by kernel_rfl)) (fun _ _ _ h => h) (Or.inr ⟨by rfl, rfl⟩) ?_ ?_
            rotate_left
            ·simp only [Act.put, List.setIfInBounds_toArray, List.set_cons_zero, List.set_cons_succ, i64_w, i32_w]
             rfl
            refine pure_ (i := 16) (N := some 50) (v := undef) (a' := ?_) #[true, true, true, true, true, true, true, true, true, true, true, true, true, true, true, true, true, false, false, false, false] rfl rfl (any_of HT_.out (by kernel_rfl)) (fun _ _ _ h => h) (Or.inr ⟨by rfl, rfl⟩) ?_ ?_
            rotate_left
            ·simp only [Act.put, List.setIfInBounds_toArray, List.set_cons_zero, List.set_cons_succ, i64_w, i32_w]
             rfl
            refine pure_ (i := 17) (N := some 51) (v := undef) (a' := ?_) #[true, true, true, true, true, true, true, true, true, true, true, true, true, true, true, true, true, true, false, false, false] rfl rfl (any_of HT_.out (by kernel_rfl)) (fun _ _ _ h => h) (Or.inr ⟨by rfl, rfl⟩) ?_ ?_
            rotate_left
            ·simp only [Act.put, List.setIfInBounds_toArray, List.set_cons_zero, List.set_cons_succ, i64_w, i32_w]
             rfl
            refine pure_ (i := 18) (N := some 52) (v := undef) (a' := ?_) #[true, true, true, true, true, true, true, true, true, true, true, true, true, true, true, true, true, true, true, false, false] rfl rfl (any_of HT_.out (by kernel_rfl)) (fun _ _ _ h => h) (Or.inr ⟨by rfl, rfl⟩) ?_ ?_
            rotate_left
            ·simp only [Act.put, List.setIfInBounds_toArray, List.set_cons_zero, List.set_cons_succ, i64_w, i32_w]
             rfl
            refine pure_ (i := 19) (N := some 53) (v := undef) (a' := ?_) #[true, true, true, true, true, true, true, true, true, true, true, true, true, true, true, true, true, true, true, true, false] rfl rfl (any_of HT_.out (by kernel_rfl)) (fun _ _ _ h => h) (Or.inr ⟨by rfl, rfl⟩) ?_ ?_
            rotate_left
            ·simp only [Act.put, List.setIfInBounds_toArray, List.set_cons_zero, List.set_cons_succ, i64_w, i32_w]
             rfl
            refine pure_ (i := 20) (N := some 54) (v := ?_) (a' := ?_) #[true, true, true, true, true, true, true, true, true, true, true, true, true, true, true, true, true, true, true, true, true] rfl rfl (any_of HT_.out (by kernel_rfl)) (fun _ _ _ h => h) (Or.inl ⟨by rfl, ?_⟩) ?_ ?_
            rotate_left
            ·intro w'
             go_simp
             with_reducible rfl
            rotate_left
            ·simp only [Act.put, List.setIfInBounds_toArray, List.set_cons_zero, List.set_cons_succ, i64_w, i32_w]
             rfl
            refine done_ (done_of HT_.out (by kernel_rfl)) ?_
            try go_wp2
            go_ret
            exact ⟨by first | rfl | (simp [errW_none, errW_some] <;> rfl) | (simp [*, errW_none, errW_some] <;> rfl), by repeat (first | (with_reducible first | exact HB.out | apply below_alloc | apply pw_below_drewN | apply below_drew1) | exact HB.out)⟩
           ·replace c18 := Bool.eq_false_iff.mpr c18
            subst c18
            have H1 : (if (rd t265 x5_1) = (rd t265 x6_2) then (some false) else (logjamlaw38_HistoryOrders.l1 k2 t259 t265 t266 x5_1 (wrap64 (x6_2 + 1)))) = some r := by rw [if_neg (show ¬ (false = true) by decide)] at H; exact H
            clear H
            have H := H1
            clear H1
            by_cases c21 : (rd t265 x5_1) = (rd t265 x6_2)
            ·rw [if_pos c21] at H
             have c21b0 : ((rd t265 x5_1) == (rd t265 x6_2)) = true := beq_iff_eq.mpr c21
             have c21b1 : ((rd t265 x5_1) != (rd t265 x6_2)) = false := bne_eq_false_iff_eq.mpr c21
             clear c21
             obtain rfl := Option.some.inj H
             try go_wp2
             have n0_ := Aside0.mk (Kd.R_drew HO_0.out)
             have n1_ := Aside0.mk (Kd.R_drew HO_3.out)
             have n2_ := Aside0.mk (below_drew1 HB.out)
             clear HO_0; clear HO_3; clear HB; have HO_0 := n0_; have HO_3 := n1_; have HB := n2_; clear n0_ n1_ n2_
             have p269 : 0 ≤ (x5_1 : Int) := of_decide_eq_true (by first | (with_reducible assumption) | assumption)
             have q269 : x5_1 < (t265.length : Int) := of_decide_eq_true (by first | (with_reducible assumption) | assumption)
             obtain ⟨ad269, e269, hx269_0⟩ := Kd.at_int (Kd.R_reads' HO_3.out).2.2 x5_1 p269 q269
             cases e269
             replace p269 := eq_true p269
             replace q269 := eq_true q269
             have p270 : 0 ≤ (x6_2 : Int) := of_decide_eq_true (by first | (with_reducible assumption) | assumption)
             have q270 : x6_2 < (t265.length : Int) := of_decide_eq_true (by first | (with_reducible assumption) | assumption)
             obtain ⟨ad270, e270, hx270_0⟩ := Kd.at_int (Kd.R_reads' HO_3.out).2.2 x6_2 p270 q270
             obtain rfl : ad269 = ad270 := (by injection e270)
             replace p270 := eq_true p270
             replace q270 := eq_true q270
             have p272 : 0 ≤ (x5_1 : Int) := of_decide_eq_true (by first | (with_reducible assumption) | assumption)
             have q272 : x5_1 < (t265.length : Int) := of_decide_eq_true (by first | (with_reducible assumption) | assumption)
             obtain ⟨ad272, e272, hx272_0⟩ := Kd.at_int (Kd.R_reads' HO_3.out).2.2 x5_1 p272 q272
             obtain rfl : ad269 = ad272 := (by injection e272)
             replace p272 := eq_true p272
             replace q272 := eq_true q272
             have p273 : 0 ≤ (x6_2 : Int) := of_decide_eq_true (by first | (with_reducible assumption) | assumption)
             have q273 : x6_2 < (t265.length : Int) := of_decide_eq_true (by first | (with_reducible assumption) | assumption)
             obtain ⟨ad273, e273, hx273_0⟩ := Kd.at_int (Kd.R_reads' HO_3.out).2.2 x6_2 p273 q273
             obtain rfl : ad269 = ad273 := (by injection e273)
             replace p273 := eq_true p273
             replace q273 := eq_true q273
             refine start_ (n := 21) (S := fun w' => w'.cell? (ad269.add (x5_1).toNat) = some (.int .i64 (rd t265 x5_1)) ∧ w'.cell? (ad269.add (x6_2).toNat) = some (.int .i64 (rd t265 x6_2)) ∧ w'.cell? (ad269.add (x5_1).toNat) = some (.int .i64 (rd t265 x5_1)) ∧ w'.cell? (ad269.add (x6_2).toNat) = some (.int .i64 (rd t265 x6_2))) (ds := []) #[false, false, false, false, false, false, false, false, false, false, false, false, false, false, false, false, false, false, false, false, false] (by kernel_rfl) rfl rfl ⟨hx269_0, hx270_0, hx272_0, hx273_0⟩ (fun hHeld => ?_); refine with_tabW logjamlaw38_HistoryOrders.tab9 logjamlaw38_HistoryOrders.bits9 (fun HT_ HW_ => ?_)
             generalize wr.drew = w22 at HO_0 HO_3 HB hx269_0 hx270_0 hx272_0 hx273_0 hHeld ⊢
             refine pure_ (i := 0) (N := some 34) (v := ?_) (a' := ?_) #[true, false, false, false, false, false, false, false, false, false, false, false, false, false, false, false, false, false, false, false, false] rfl rfl (any_of HT_.out (by kernel_rfl)) (fun _ _ _ h => h) (Or.inl ⟨by rfl, ?_⟩) ?_ ?_
             rotate_left
             ·intro w'
              go_simp
              with_reducible rfl
             rotate_left
             ·simp only [Act.put, List.setIfInBounds_toArray, List.set_cons_zero, List.set_cons_succ, i64_w, i32_w]
              rfl
             refine pure_ (i := 1) (N := some 35) (v := ?_) (a' := ?_) #[true, true, false, false, false, false, false, false, false, false, false, false, false, false, false, false, false, false, false, false, false] rfl rfl (any_of HT_.out (by kernel_rfl)) (fun _ _ _ h => h) (Or.inl ⟨by rfl, ?_⟩) ?_ ?_
             rotate_left
             ·intro w'
              go_simp
              with_reducible rfl
             rotate_left
             ·simp only [Act.put, List.setIfInBounds_toArray, List.set_cons_zero, List.set_cons_succ, i64_w, i32_w]
              rfl
             refine pure_ (i := 2) (N := some 36) (v := ?_) (a' := ?_) #[true, true, true, false, false, false, false, false, false, false, false, false, false, false, false, false, false, false, false, false, false] rfl rfl (any_of HT_.out (by kernel_rfl)) (fun _ _ _ h => h) (Or.inl ⟨by rfl, ?_⟩) ?_ ?_
             rotate_left
             ·intro w'
              go_simp
              with_reducible rfl
             rotate_left
             ·simp only [Act.put, List.setIfInBounds_toArray, List.set_cons_zero, List.set_cons_succ, i64_w, i32_w]
              rfl
             refine pure_ (i := 3) (N := some 37) (v := ?_) (a' := ?_) #[true, true, true, true, false, false, false, false, false, false, false, false, false, false, false, false, false, false, false, false, false] rfl rfl (any_of HT_.out (by kernel_rfl)) (fun _ _ _ h => h) (Or.inl ⟨by rfl, ?_⟩) ?_ ?_
             rotate_left
             ·intro w'
              go_simp
              with_reducible rfl
             rotate_left
             ·simp only [Act.put, List.setIfInBounds_toArray, List.set_cons_zero, List.set_cons_succ, i64_w, i32_w]
              rfl
             refine pure_ (i := 5) (N := some 39) (v := ?_) (a' := ?_) #[true, true, true, true, false, true, false, false, false, false, false, false, false, false, false, false, false, false, false, false, false] rfl rfl (any_of HT_.out (by kernel_rfl)) (fun _ _ _ h => h) (Or.inl ⟨by rfl, ?_⟩) ?_ ?_
             rotate_left
             ·intro w'
              go_simp
              with_reducible rfl
             rotate_left
             ·simp only [Act.put, List.setIfInBounds_toArray, List.set_cons_zero, List.set_cons_succ, i64_w, i32_w]
              rfl
             refine pure_ (i := 6) (N := some 40) (v := ?_) (a' := ?_) #[true, true, true, true, false, true, true, false, false, false, false, false, false, false, false, false, false, false, false, false, false] rfl rfl (any_of HT_.out (by kernel_rfl)) (fun _ _ _ h => h) (Or.inl ⟨by rfl, ?_⟩) ?_ ?_
             rotate_left
             ·intro w'
              go_simp
              with_reducible rfl
             rotate_left
             ·simp only [Act.put, List.setIfInBounds_toArray, List.set_cons_zero, List.set_cons_succ, i64_w, i32_w]
              rfl
             refine pure_ (i := 7) (N := some 41) (v := ?_) (a' := ?_) #[true, true, true, true, false, true, true, true, false, false, false, false, false, false, false, false, false, false, false, false, false] rfl rfl (any_of HT_.out (by kernel_rfl)) (fun _ _ _ h => h) (Or.inl ⟨by rfl, ?_⟩) ?_ ?_
             rotate_left
             ·intro w'
              go_simp
              with_reducible rfl
             rotate_left
             ·simp only [Act.put, List.setIfInBounds_toArray, List.set_cons_zero, List.set_cons_succ, i64_w, i32_w]
              rfl
             refine take_ (i := 4) (N := some 38) (v := ?_) (a' := ?_) #[true, true, true, true, true, true, true, true, false, false, false, false, false, false, false, false, false, false, false, false, false] rfl rfl (take_ofW HT_.out HW_.out (by kernel_rfl)) (fun _ _ _ h => h) (Or.inl ⟨by rfl, ?_⟩) hHeld ?_ ?_
             rotate_left
             ·rintro w' ⟨s0, s1, s2, s3⟩
              go_simp
              with_reducible rfl
             rotate_left
             ·simp only [Act.put, List.setIfInBounds_toArray, List.set_cons_zero, List.set_cons_succ, i64_w, i32_w]
              rfl
             refine take_ (i := 8) (N := some 42) (v := ?_) (a' := ?_) #[true, true, true, true, true, true, true, true, true, false, false, false, false, false, false, false, false, false, false, false, false] rfl rfl (take_ofW HT_.out HW_.out (by kernel_rfl)) (fun _ _ _ h => h) (Or.inl ⟨by rfl, ?_⟩) hHeld ?_ ?_
             rotate_left
             ·rintro w' ⟨s0, s1, s2, s3⟩
              go_simp
              with_reducible rfl
             rotate_left
             ·simp only [Act.put, List.setIfInBounds_toArray, List.set_cons_zero, List.set_cons_succ, i64_w, i32_w]
              rfl
             refine one_ (i := 9) (N := some 43) #[true, true, true, true, true, true, true, true, true, true, false, false, false, false, false, false, false, false, false, false, false] rfl rfl (one_of HT_.out (by kernel_rfl)) (by decide) (fun K hK => ?_)
             refine goes_ Try.func13 (by kernel_rfl) rfl #[.slice Ao6 t259.length co6, .int .i64 (rd t265 x5_1), .int .i64 (rd t265 x6_2)] (by rfl) rfl rfl (by (try simp only [List.map_toArray, List.map_cons, List.map_nil]); first | done | rfl | (simp only [List.length_drop, List.length_take]; rfl)) ?_
             with_reducible refine (logjamref38_Before.calls k2 _ _ t259 (rd t265 x5_1) (rd t265 x6_2) false _ ?side1 ?side2 A17.out).mono ?_
             (case side1 => repeat (first | exact (Kd.R_reads' HO_0.out).2.2 | (with_reducible refine Kd.C_alloc ?_ _) | (with_reducible refine Kd.C_drewN ?_ _) | (with_reducible refine Kd.C_drew ?_)))
             (case side2 => exact (Kd.R_reads' HO_0.out).2.1)
             rintro e w23 ⟨rfl, hb⟩
             have HS0_ := (hb.cell (World.block_lt_of_cell? _ _ (hHeld.1))).trans (hHeld.1)
             have HS1_ := (hb.cell (World.block_lt_of_cell? _ _ (hHeld.2.1))).trans (hHeld.2.1)
             have HS2_ := (hb.cell (World.block_lt_of_cell? _ _ (hHeld.2.2.1))).trans (hHeld.2.2.1)
             have HS3_ := (hb.cell (World.block_lt_of_cell? _ _ (hHeld.2.2.2))).trans (hHeld.2.2.2)
             refine ⟨_, rfl, ?_⟩
             have n0_ := Aside0.mk (Kd.R_below (by (with_reducible repeat (first | apply Kd.R_alloc | apply Kd.R_drewN | apply Kd.R_drew)); exact HO_0.out) hb)
             have n1_ := Aside0.mk (Kd.R_below (by (with_reducible repeat (first | apply Kd.R_alloc | apply Kd.R_drewN | apply Kd.R_drew)); exact HO_3.out) hb)
             have n2_ := Aside0.mk (below_step (by repeat (first | (with_reducible first | exact HB.out | apply below_alloc | apply pw_below_drewN | apply below_drew1) | exact HB.out)) hb)
             clear HO_0; clear HO_3; clear HB; have HO_0 := n0_; have HO_3 := n1_; have HB := n2_; clear n0_ n1_ n2_; (try clear hb); (try clear hb2); (try clear hk); (try clear hi)
             refine hK.out _ _ ⟨HS0_, HS1_, HS2_, HS3_⟩ (fun hHeld => ?_)
             clear hK K
             refine norm_ (a' := ?_) ?_ ?_
             rotate_left
             ·show Act.put _ (some 43) _ = _
              simp only [Act.put, List.setIfInBounds_toArray, List.set_cons_zero, List.set_cons_succ, i64_w, i32_w]
              rfl
             refine pure_ (i := 10) (N := some 44) (v := ?_) (a' := ?_) #[true, true, true, true, true, true, true, true, true, true, true, false, false, false, false, false, false, false, false, false, false] rfl rfl (any_of HT_.out (by kernel_rfl)) (fun _ _ _ h => h) (Or.inl ⟨by rfl, ?_⟩) ?_ ?_
             rotate_left
             ·intro w'
              go_simp
              with_reducible rfl
             rotate_left
             ·simp only [Act.put, List.setIfInBounds_toArray, List.set_cons_zero, List.set_cons_succ, i64_w, i32_w]
              rfl
             refine pure_ (i := 11) (N := some 45) (v := ?_) (a' := ?_) #[true, true, true, true, true, true, true, true, true, true, true, true, false, false, false, false, false, false, false, false, false] rfl rfl (any_of HT_.out (by kernel_rfl)) (fun _ _ _ h => h) (Or.inl ⟨by rfl, ?_⟩) ?_ ?_
             rotate_left
             ·intro w'
              go_simp
              with_reducible rfl
             rotate_left
             ·simp only [Act.put, List.setIfInBounds_toArray, List.set_cons_zero, List.set_cons_succ, i64_w, i32_w]
              rfl
             refine pure_ (i := 12) (N := some 46) (v := ?_) (a' := ?_) #[true, true, true, true, true, true, true, true, true, true, true, true, true, false, false, false, false, false, false, false, false] rfl rfl (any_of HT_.out (by kernel_rfl)) (fun _ _ _ h => h) (Or.inl ⟨by rfl, ?_⟩) ?_ ?_
             rotate_left
             ·intro w'
              go_simp
              with_reducible rfl
             rotate_left
             ·simp only [Act.put, List.setIfInBounds_toArray, List.set_cons_zero, List.set_cons_succ, i64_w, i32_w]
              rfl
             refine pure_ (i := 13) (N := some 47) (v := ?_) (a' := ?_) #[true, true, true, true, true, true, true, true, true, true, true, true, true, true, false, false, false, false, false, false, false] rfl rfl (any_of HT_.out (by kernel_rfl)) (fun _ _ _ h => h) (Or.inl ⟨by rfl, ?_⟩) ?_ ?_
             rotate_left
             ·intro w'
              go_simp
              with_reducible rfl
             rotate_left
             ·simp only [Act.put, List.setIfInBounds_toArray, List.set_cons_zero, List.set_cons_succ, i64_w, i32_w]
              rfl
             refine pure_ (i := 15) (N := some 49) (v := ?_) (a' := ?_) #[true, true, true, true, true, true, true, true, true, true, true, true, true, true, false, true, false, false, false, false, false] rfl rfl (any_of HT_.out (by kernel_rfl)) (fun _ _ _ h => h) (Or.inl ⟨by rfl, ?_⟩) ?_ ?_
             rotate_left
             ·intro w'
              go_simp
              with_reducible rfl
             rotate_left
             ·simp only [Act.put, List.setIfInBounds_toArray, List.set_cons_zero, List.set_cons_succ, i64_w, i32_w]
              rfl
             refine pure_ (i := 16) (N := some 50) (v := ?_) (a' := ?_) #[true, true, true, true, true, true, true, true, true, true, true, true, true, true, false, true, true, false, false, false, false] rfl rfl (any_of HT_.out (by kernel_rfl)) (fun _ _ _ h => h) (Or.inl ⟨by rfl, ?_⟩) ?_ ?_
             rotate_left
             ·intro w'
              go_simp
              with_reducible rfl
             rotate_left
             ·simp only [Act.put, List.setIfInBounds_toArray, List.set_cons_zero, List.set_cons_succ, i64_w, i32_w]
              rfl
             refine pure_ (i := 17) (N := some 51) (v := ?_) (a' := ?_) #[true, true, true, true, true, true, true, true, true, true, true, true, true, true, false, true, true, true, false, false, false] rfl rfl (any_of HT_.out (by kernel_rfl)) (fun _ _ _ h => h) (Or.inl ⟨by rfl, ?_⟩) ?_ ?_
             rotate_left
             ·intro w'
              go_simp
              with_reducible rfl
             rotate_left
             ·simp only [Act.put, List.setIfInBounds_toArray, List.set_cons_zero, List.set_cons_succ, i64_w, i32_w]
              rfl
             refine take_ (i := 14) (N := some 48) (v := ?_) (a' := ?_) #[true, true, true, true, true, true, true, true, true, true, true, true, true, true, true, true, true, true, false, false, false] rfl rfl (take_ofW HT_.out HW_.out (by kernel_rfl)) (fun _ _ _ h => h) (Or.inl ⟨by rfl, ?_⟩) hHeld ?_ ?_
             rotate_left
             ·rintro w' ⟨s0, s1, s2, s3⟩
              go_simp
              with_reducible rfl
             rotate_left
             ·simp only [Act.put, List.setIfInBounds_toArray, List.set_cons_zero, List.set_cons_succ, i64_w, i32_w]
              rfl
             refine take_ (i := 18) (N := some 52) (v := ?_) (a' := ?_) #[true, true, true, true, true, true, true, true, true, true, true, true, true, true, true, true, true, true, true, false, false] rfl rfl (take_ofW HT_.out HW_.out (by kernel_rfl)) (fun _ _ _ h => h) (Or.inl ⟨by rfl, ?_⟩) hHeld ?_ ?_
             rotate_left
             ·rintro w' ⟨s0, s1, s2, s3⟩
              go_simp
              with_reducible rfl
             rotate_left
             ·simp only [Act.put, List.setIfInBounds_toArray, List.set_cons_zero, List.set_cons_succ, i64_w, i32_w]
              rfl
             refine pure_ (i := 19) (N := some 53) (v := ?_) (a' := ?_) #[true, true, true, true, true, true, true, true, true, true, true, true, true, true, true, true, true, true, true, true, false] rfl rfl (any_of HT_.out (by kernel_rfl)) (fun _ _ _ h => h) (Or.inl ⟨by rfl, ?_⟩) ?_ ?_
             rotate_left
             ·intro w'
              go_simp
              with_reducible rfl
             rotate_left
             ·simp only [Act.put, List.setIfInBounds_toArray, List.set_cons_zero, List.set_cons_succ, i64_w, i32_w]
              rfl
             refine pure_ (i := 20) (N := some 54) (v := ?_) (a' := ?_) #[true, true, true, true, true, true, true, true, true, true, true, true, true, true, true, true, true, true, true, true, true] rfl rfl (any_of HT_.out (by kernel_rfl)) (fun _ _ _ h => h) (Or.inl ⟨by rfl, ?_⟩) ?_ ?_
             rotate_left
             ·intro w'
              go_simp
              with_reducible rfl
             rotate_left
             ·simp only [Act.put, List.setIfInBounds_toArray, List.set_cons_zero, List.set_cons_succ, i64_w, i32_w]
              rfl
             refine done_ (done_of HT_.out (by kernel_rfl)) ?_
             try go_wp2
             go_ret
             exact ⟨by first | rfl | (simp [errW_none, errW_some] <;> rfl) | (simp [*, errW_none, errW_some] <;> rfl), by repeat (first | (with_reducible first | exact HB.out | apply below_alloc | apply pw_below_drewN | apply below_drew1) | exact HB.out)⟩
            ·rw [if_neg c21] at H
             have c21b0 : ((rd t265 x5_1) == (rd t265 x6_2)) = false := beq_eq_false_iff_ne.mpr c21
             have c21b1 : ((rd t265 x5_1) != (rd t265 x6_2)) = true := bne_iff_ne.mpr c21
             have H' := Aside0.mk H
             clear H
             try go_wp2
             have n0_ := Aside0.mk (Kd.R_drew HO_0.out)
             have n1_ := Aside0.mk (Kd.R_drew HO_3.out)
             have n2_ := Aside0.mk (below_drew1 HB.out)
             clear HO_0; clear HO_3; clear HB; have HO_0 := n0_; have HO_3 := n1_; have HB := n2_; clear n0_ n1_ n2_
             have p269 : 0 ≤ (x5_1 : Int) := of_decide_eq_true (by first | (with_reducible assumption) | assumption)
             have q269 : x5_1 < (t265.length : Int) := of_decide_eq_true (by first | (with_reducible assumption) | assumption)
             obtain ⟨ad269, e269, hx269_0⟩ := Kd.at_int (Kd.R_reads' HO_3.out).2.2 x5_1 p269 q269
             cases e269
             replace p269 := eq_true p269
             replace q269 := eq_true q269
             have p270 : 0 ≤ (x6_2 : Int) := of_decide_eq_true (by first | (with_reducible assumption) | assumption)
             have q270 : x6_2 < (t265.length : Int) := of_decide_eq_true (by first | (with_reducible assumption) | assumption)
             obtain ⟨ad270, e270, hx270_0⟩ := Kd.at_int (Kd.R_reads' HO_3.out).2.2 x6_2 p270 q270
             obtain rfl : ad269 = ad270 := (by injection e270)
             replace p270 := eq_true p270
             replace q270 := eq_true q270
             have p272 : 0 ≤ (x5_1 : Int) := of_decide_eq_true (by first | (with_reducible assumption) | assumption)
             have q272 : x5_1 < (t265.length : Int) := of_decide_eq_true (by first | (with_reducible assumption) | assumption)
             obtain ⟨ad272, e272, hx272_0⟩ := Kd.at_int (Kd.R_reads' HO_3.out).2.2 x5_1 p272 q272
             obtain rfl : ad269 = ad272 := (by injection e272)
             replace p272 := eq_true p272
             replace q272 := eq_true q272
             have p273 : 0 ≤ (x6_2 : Int) := of_decide_eq_true (by first | (with_reducible assumption) | assumption)
             have q273 : x6_2 < (t265.length : Int) := of_decide_eq_true (by first | (with_reducible assumption) | assumption)
             obtain ⟨ad273, e273, hx273_0⟩ := Kd.at_int (Kd.R_reads' HO_3.out).2.2 x6_2 p273 q273
             obtain rfl : ad269 = ad273 := (by injection e273)
             replace p273 := eq_true p273
             replace q273 := eq_true q273
             refine start_ (n := 21) (S := fun w' => w'.cell? (ad269.add (x5_1).toNat) = some (.int .i64 (rd t265 x5_1)) ∧ w'.cell? (ad269.add (x6_2).toNat) = some (.int .i64 (rd t265 x6_2)) ∧ w'.cell? (ad269.add (x5_1).toNat) = some (.int .i64 (rd t265 x5_1)) ∧ w'.cell? (ad269.add (x6_2).toNat) = some (.int .i64 (rd t265 x6_2))) (ds := []) #[false, false, false, false, false, false, false, false, false, false, false, false, false, false, false, false, false, false, false, false, false] (by kernel_rfl) rfl rfl ⟨hx269_0, hx270_0, hx272_0, hx273_0⟩ (fun hHeld => ?_); refine with_tabW logjamlaw38_HistoryOrders.tab9 logjamlaw38_HistoryOrders.bits9 (fun HT_ HW_ => ?_)
             generalize wr.drew = w24 at HO_0 HO_3 HB hx269_0 hx270_0 hx272_0 hx273_0 hHeld ⊢
             refine pure_ (i := 0) (N := some 34) (v := ?_) (a' := ?_) #[true, false, false, false, false, false, false, false, false, false, false, false, false, false, false, false, false, false, false, false, false] rfl rfl (any_of HT_.out (by kernel_rfl)) (fun _ _ _ h => h) (Or.inl ⟨by rfl, ?_⟩) ?_ ?_
             rotate_left
             ·intro w'
              go_simp
              with_reducible rfl
             rotate_left
             ·simp only [Act.put, List.setIfInBounds_toArray, List.set_cons_zero, List.set_cons_succ, i64_w, i32_w]
              rfl
             refine pure_ (i := 1) (N := some 35) (v := ?_) (a' := ?_) #[true, true, false, false, false, false, false, false, false, false, false, false, false, false, false, false, false, false, false, false, false] rfl rfl (any_of HT_.out (by kernel_rfl)) (fun _ _ _ h => h) (Or.inl ⟨by rfl, ?_⟩) ?_ ?_
             rotate_left
             ·intro w'
              go_simp
              with_reducible rfl
             rotate_left
             ·simp only [Act.put, List.setIfInBounds_toArray, List.set_cons_zero, List.set_cons_succ, i64_w, i32_w]
              rfl
             refine pure_ (i := 2) (N := some 36) (v := ?_) (a' := ?_) #[true, true, true, false, false, false, false, false, false, false, false, false, false, false, false, false, false, false, false, false, false] rfl rfl (any_of HT_.out (by kernel_rfl)) (fun _ _ _ h => h) (Or.inl ⟨by rfl, ?_⟩) ?_ ?_
             rotate_left
             ·intro w'
              go_simp
              with_reducible rfl
             rotate_left
             ·simp only [Act.put, List.setIfInBounds_toArray, List.set_cons_zero, List.set_cons_succ, i64_w, i32_w]
              rfl
             refine pure_ (i := 3) (N := some 37) (v := ?_) (a' := ?_) #[true, true, true, true, false, false, false, false, false, false, false, false, false, false, false, false, false, false, false, false, false] rfl rfl (any_of HT_.out (by kernel_rfl)) (fun _ _ _ h => h) (Or.inl ⟨by rfl, ?_⟩) ?_ ?_
             rotate_left
             ·intro w'
              go_simp
              with_reducible rfl
             rotate_left
             ·simp only [Act.put, List.setIfInBounds_toArray, List.set_cons_zero, List.set_cons_succ, i64_w, i32_w]
              rfl
             refine pure_ (i := 5) (N := some 39) (v := ?_) (a' := ?_) #[true, true, true, true, false, true, false, false, false, false, false, false, false, false, false, false, false, false, false, false, false] rfl rfl (any_of HT_.out (by kernel_rfl)) (fun _ _ _ h => h) (Or.inl ⟨by rfl, ?_⟩) ?_ ?_
             rotate_left
             ·intro w'
              go_simp
              with_reducible rfl
             rotate_left
             ·simp only [Act.put, List.setIfInBounds_toArray, List.set_cons_zero, List.set_cons_succ, i64_w, i32_w]
              rfl
             refine pure_ (i := 6) (N := some 40) (v := ?_) (a' := ?_) #[true, true, true, true, false, true, true, false, false, false, false, false, false, false, false, false, false, false, false, false, false] rfl rfl (any_of HT_.out (by kernel_rfl)) (fun _ _ _ h => h) (Or.inl ⟨by rfl, ?_⟩) ?_ ?_
             rotate_left
             ·intro w'
              go_simp
              with_reducible rfl
             rotate_left
             ·simp only [Act.put, List.setIfInBounds_toArray, List.set_cons_zero, List.set_cons_succ, i64_w, i32_w]
              rfl
             refine pure_ (i := 7) (N := some 41) (v := ?_) (a' := ?_) #[true, true, true, true, false, true, true, true, false, false, false, false, false, false, false, false, false, false, false, false, false] rfl rfl (any_of HT_.out (by kernel_rfl)) (fun _ _ _ h => h) (Or.inl ⟨by rfl, ?_⟩) ?_ ?_
             rotate_left
             ·intro w'
              go_simp
              with_reducible rfl
             rotate_left
             ·simp only [Act.put, List.setIfInBounds_toArray, List.set_cons_zero, List.set_cons_succ, i64_w, i32_w]
              rfl
             refine take_ (i := 4) (N := some 38) (v := ?_) (a' := ?_) #[true, true, true, true, true, true, true, true, false, false, false, false, false, false, false, false, false, false, false, false, false] rfl rfl (take_ofW HT_.out HW_.out (by kernel_rfl)) (fun _ _ _ h => h) (Or.inl ⟨by rfl, ?_⟩) hHeld ?_ ?_
             rotate_left
             ·rintro w' ⟨s0, s1, s2, s3⟩
              go_simp
              with_reducible rfl
             rotate_left
             ·simp only [Act.put, List.setIfInBounds_toArray, List.set_cons_zero, List.set_cons_succ, i64_w, i32_w]
              rfl
             refine take_ (i := 8) (N := some 42) (v := ?_) (a' := ?_) #[true, true, true, true, true, true, true, true, true, false, false, false, false, false, false, false, false, false, false, false, false] rfl rfl (take_ofW HT_.out HW_.out (by kernel_rfl)) (fun _ _ _ h => h) (Or.inl ⟨by rfl, ?_⟩) hHeld ?_ ?_
             rotate_left
             ·rintro w' ⟨s0, s1, s2, s3⟩
              go_simp
              with_reducible rfl
             rotate_left
             ·simp only [Act.put, List.setIfInBounds_toArray, List.set_cons_zero, List.set_cons_succ, i64_w, i32_w]
              rfl
             refine one_ (i := 9) (N := some 43) #[true, true, true, true, true, true, true, true, true, true, false, false, false, false, false, false, false, false, false, false, false] rfl rfl (one_of HT_.out (by kernel_rfl)) (by decide) (fun K hK => ?_)
             refine goes_ Try.func13 (by kernel_rfl) rfl #[.slice Ao6 t259.length co6, .int .i64 (rd t265 x5_1), .int .i64 (rd t265 x6_2)] (by rfl) rfl rfl (by (try simp only [List.map_toArray, List.map_cons, List.map_nil]); first | done | rfl | (simp only [List.length_drop, List.length_take]; rfl)) ?_
             with_reducible refine (logjamref38_Before.calls k2 _ _ t259 (rd t265 x5_1) (rd t265 x6_2) false _ ?side1 ?side2 A17.out).mono ?_
             (case side1 => repeat (first | exact (Kd.R_reads' HO_0.out).2.2 | (with_reducible refine Kd.C_alloc ?_ _) | (with_reducible refine Kd.C_drewN ?_ _) | (with_reducible refine Kd.C_drew ?_)))
             (case side2 => exact (Kd.R_reads' HO_0.out).2.1)
             rintro e w25 ⟨rfl, hb⟩
             have HS0_ := (hb.cell (World.block_lt_of_cell? _ _ (hHeld.1))).trans (hHeld.1)
             have HS1_ := (hb.cell (World.block_lt_of_cell? _ _ (hHeld.2.1))).trans (hHeld.2.1)
             have HS2_ := (hb.cell (World.block_lt_of_cell? _ _ (hHeld.2.2.1))).trans (hHeld.2.2.1)
             have HS3_ := (hb.cell (World.block_lt_of_cell? _ _ (hHeld.2.2.2))).trans (hHeld.2.2.2)
             refine ⟨_, rfl, ?_⟩
             have n0_ := Aside0.mk (Kd.R_below (by (with_reducible repeat (first | apply Kd.R_alloc | apply Kd.R_drewN | apply Kd.R_drew)); exact HO_0.out) hb)
             have n1_ := Aside0.mk (Kd.R_below (by (with_reducible repeat (first | apply Kd.R_alloc | apply Kd.R_drewN | apply Kd.R_drew)); exact HO_3.out) hb)
             have n2_ := Aside0.mk (below_step (by repeat (first | (with_reducible first | exact HB.out | apply below_alloc | apply pw_below_drewN | apply below_drew1) | exact HB.out)) hb)
             clear HO_0; clear HO_3; clear HB; have HO_0 := n0_; have HO_3 := n1_; have HB := n2_; clear n0_ n1_ n2_; (try clear hb); (try clear hb2); (try clear hk); (try clear hi)
             refine hK.out _ _ ⟨HS0_, HS1_, HS2_, HS3_⟩ (fun hHeld => ?_)
             clear hK K
             refine norm_ (a' := ?_) ?_ ?_
             rotate_left
             ·show Act.put _ (some 43) _ = _
              simp only [Act.put, List.setIfInBounds_toArray, List.set_cons_zero, List.set_cons_succ, i64_w, i32_w]
              rfl
             refine pure_ (i := 10) (N := some 44) (v := ?_) (a' := ?_) #[true, true, true, true, true, true, true, true, true, true, true, false, false, false, false, false, false, false, false, false, false] rfl rfl (any_of HT_.out (by kernel_rfl)) (fun _ _ _ h => h) (Or.inl ⟨by rfl, ?_⟩) ?_ ?_
             rotate_left
             ·intro w'
              go_simp
              with_reducible rfl
             rotate_left
             ·simp only [Act.put, List.setIfInBounds_toArray, List.set_cons_zero, List.set_cons_succ, i64_w, i32_w]
              rfl
             refine pure_ (i := 11) (N := some 45) (v := ?_) (a' := ?_) #[true, true, true, true, true, true, true, true, true, true, true, true, false, false, false, false, false, false, false, false, false] rfl rfl (any_of HT_.out (by kernel_rfl)) (fun _ _ _ h => h) (Or.inl ⟨by rfl, ?_⟩) ?_ ?_
             rotate_left
             ·intro w'
              go_simp
              with_reducible rfl
             rotate_left
             ·simp only [Act.put, List.setIfInBounds_toArray, List.set_cons_zero, List.set_cons_succ, i64_w, i32_w]
              rfl
             refine pure_ (i := 12) (N := some 46) (v := ?_) (a' := ?_) #[true, true, true, true, true, true, true, true, true, true, true, true, true, false, false, false, false, false, false, false, false] rfl rfl (any_of HT_.out (by kernel_rfl)) (fun _ _ _ h => h) (Or.inl ⟨by rfl, ?_⟩) ?_ ?_
             rotate_left
             ·intro w'
              go_simp
              with_reducible rfl
             rotate_left
             ·simp only [Act.put, List.setIfInBounds_toArray, List.set_cons_zero, List.set_cons_succ, i64_w, i32_w]
              rfl
             refine pure_ (i := 13) (N := some 47) (v := ?_) (a' := ?_) #[true, true, true, true, true, true, true, true, true, true, true, true, true, true, false, false, false, false, false, false, false] rfl rfl (any_of HT_.out (by kernel_rfl)) (fun _ _ _ h => h) (Or.inl ⟨by rfl, ?_⟩) ?_ ?_
             rotate_left
             ·intro w'
              go_simp
              with_reducible rfl
             rotate_left
             ·simp only [Act.put, List.setIfInBounds_toArray, List.set_cons_zero, List.set_cons_succ, i64_w, i32_w]
              rfl
             refine pure_ (i := 15) (N := some 49) (v := ?_) (a' := ?_) #[true, true, true, true, true, true, true, true, true, true, true, true, true, true, false, true, false, false, false, false, false] rfl rfl (any_of HT_.out (by kernel_rfl)) (fun _ _ _ h => h) (Or.inl ⟨by rfl, ?_⟩) ?_ ?_
             rotate_left
             ·intro w'
              go_simp
              with_reducible rfl
             rotate_left
             ·simp only [Act.put, List.setIfInBounds_toArray, List.set_cons_zero, List.set_cons_succ, i64_w, i32_w]
              rfl
             refine pure_ (i := 16) (N := some 50) (v := ?_) (a' := ?_) #[true, true, true, true, true, true, true, true, true, true, true, true, true, true, false, true, true, false, false, false, false] rfl rfl (any_of HT_.out (by kernel_rfl)) (fun _ _ _ h => h) (Or.inl ⟨by rfl, ?_⟩) ?_ ?_
             rotate_left
             ·intro w'
              go_simp
              with_reducible rfl
             rotate_left
             ·simp only [Act.put, List.setIfInBounds_toArray, List.set_cons_zero, List.set_cons_succ, i64_w, i32_w]
              rfl
             refine pure_ (i := 17) (N := some 51) (v := ?_) (a' := ?_) #[true, true, true, true, true, true, true, true, true, true, true, true, true, true, false, true, true, true, false, false, false] rfl rfl (any_of HT_.out (by kernel_rfl)) (fun _ _ _ h => h) (Or.inl ⟨by rfl, ?_⟩) ?_ ?_
             rotate_left
             ·intro w'
              go_simp
              with_reducible rfl
             rotate_left
             ·simp only [Act.put, List.setIfInBounds_toArray, List.set_cons_zero, List.set_cons_succ, i64_w, i32_w]
              rfl
             refine take_ (i := 14) (N := some 48) (v := ?_) (a' := ?_) #[true, true, true, true, true, true, true, true, true, true, true, true, true, true, true, true, true, true, false, false, false] rfl rfl (take_ofW HT_.out HW_.out (by kernel_rfl)) (fun _ _ _ h => h) (Or.inl ⟨by rfl, ?_⟩) hHeld ?_ ?_
             rotate_left
             ·rintro w' ⟨s0, s1, s2, s3⟩
              go_simp
              with_reducible rfl
             rotate_left
             ·simp only [Act.put, List.setIfInBounds_toArray, List.set_cons_zero, List.set_cons_succ, i64_w, i32_w]
              rfl
             refine take_ (i := 18) (N := some 52) (v := ?_) (a' := ?_) #[true, true, true, true, true, true, true, true, true, true, true, true, true, true, true, true, true, true, true, false, false] rfl rfl (take_ofW HT_.out HW_.out (by kernel_rfl)) (fun _ _ _ h => h) (Or.inl ⟨by rfl, ?_⟩) hHeld ?_ ?_
             rotate_left
             ·rintro w' ⟨s0, s1, s2, s3⟩
              go_simp
              with_reducible rfl
             rotate_left
             ·simp only [Act.put, List.setIfInBounds_toArray, List.set_cons_zero, List.set_cons_succ, i64_w, i32_w]
              rfl
             refine pure_ (i := 19) (N := some 53) (v := ?_) (a' := ?_) #[true, true, true, true, true, true, true, true, true, true, true, true, true, true, true, true, true, true, true, true, false] rfl rfl (any_of HT_.out (by kernel_rfl)) (fun _ _ _ h => h) (Or.inl ⟨by rfl, ?_⟩) ?_ ?_
             rotate_left
             ·intro w'
              go_simp
              with_reducible rfl
             rotate_left
             ·simp only [Act.put, List.setIfInBounds_toArray, List.set_cons_zero, List.set_cons_succ, i64_w, i32_w]
              rfl
             refine pure_ (i := 20) (N := some 54) (v := ?_) (a' := ?_) #[true, true, true, true, true, true, true, true, true, true, true, true, true, true, true, true, true, true, true, true, true] rfl rfl (any_of HT_.out (by kernel_rfl)) (fun _ _ _ h => h) (Or.inl ⟨by rfl, ?_⟩) ?_ ?_
             rotate_left
             ·intro w'
              go_simp
              with_reducible rfl
             rotate_left
             ·simp only [Act.put, List.setIfInBounds_toArray, List.set_cons_zero, List.set_cons_succ, i64_w, i32_w]
              rfl
             refine done_ (done_of HT_.out (by kernel_rfl)) ?_
             try go_wp2
             go_roundg k2
             case measure => have := HK1.out; have := HK2.out; omega
             case rel => exact ⟨(wrap64 (x6_2 + 1)), (by first | rfl | (simp; done) | (simp only [emptyNe_, emptyEq_]; done) | (simp [*]; done)), H', ⟨by have := HK1.out; have := HK2.out; omega⟩, ⟨by (with_reducible repeat (first | apply Kd.R_alloc | apply Kd.R_drewN | apply Kd.R_drew)); exact HO_0.out⟩, ⟨by (with_reducible repeat (first | apply Kd.R_alloc | apply Kd.R_drewN | apply Kd.R_drew)); exact HO_3.out⟩, ⟨by repeat (first | (with_reducible first | exact HB.out | apply below_alloc | apply pw_below_drewN | apply below_drew1) | exact HB.out)⟩⟩
          ·rw [if_neg c16] at H
           exact absurd H (by simp)
         ·rw [if_neg c15] at H
          exact absurd H (by simp)
        ·rw [if_neg c14] at H
         exact absurd H (by simp)
       ·rw [if_neg c13] at H
        exact absurd H (by simp)
      ·rw [if_neg c12] at H
       have c12b0 : decide (x6_2 < x5_1) = false := decide_eq_false c12
       clear c12
       have H' := Aside0.mk H
       clear H
       go_wp2
       go_roundg k2
       case measure => have := HK1.out; have := HK2.out; omega
       case rel => exact ⟨(wrap64 (x5_1 + 1)), (by first | rfl | (simp; done) | (simp only [emptyNe_, emptyEq_]; done) | (simp [*]; done)), H', ⟨by have := HK1.out; have := HK2.out; omega⟩, ⟨by (with_reducible repeat (first | apply Kd.R_alloc | apply Kd.R_drewN | apply Kd.R_drew)); exact HO_0.out⟩, ⟨by (with_reducible repeat (first | apply Kd.R_alloc | apply Kd.R_drewN | apply Kd.R_drew)); exact HO_3.out⟩, ⟨by repeat (first | (with_reducible first | exact HB.out | apply below_alloc | apply pw_below_drewN | apply below_drew1) | exact HB.out)⟩⟩
   ·rw [if_neg c10] at H
    have c10b0 : decide (x5_1 < (t265.length : Int)) = false := decide_eq_false c10
    clear c10
    replace H := Option.bind_eq_some_iff.mp H
    obtain ⟨t274, A260, H⟩ := H
    replace H : (logjamlaw38_HistoryOrders.l2 k1 t259 t265 t266 t274 0 0) = some r := H
    have A26 := Aside0.mk A260
    clear A260
    have H' := Aside0.mk H
    clear H
    obtain ⟨Ao27, co27, eo27⟩ := Kd.R_slice HO_3.out
    subst eo27
    go_wp2_with (first | ((with_reducible refine gate_callee (f := 8) rfl ?_); refine goesL_ (some 56) rfl rfl Try.func8 (by kernel_rfl) rfl #[.slice Ao6 t259.length co6] rfl (by (try simp only [List.map_toArray, List.map_cons, List.map_nil]); first | done | rfl | (simp only [List.length_drop, List.length_take]; rfl)) ?_; (with_reducible refine (logjamref38_Ends.calls k1 _ _ t259 t274 _ ?side1 ?side2 A26.out).mono ?_); (case side1 => repeat (first | exact (Kd.R_reads' HO_0.out).2.2 | (with_reducible refine Kd.C_alloc ?_ _) | (with_reducible refine Kd.C_drewN ?_ _) | (with_reducible refine Kd.C_drew ?_))); (case side2 => exact (Kd.R_reads' HO_0.out).2.1); rintro e w28 ⟨v275, rfl, ho0, hb⟩; refine ⟨_, rfl, ?_⟩; have n0_ := Aside0.mk (Kd.R_below (by (with_reducible repeat (first | apply Kd.R_alloc | apply Kd.R_drewN | apply Kd.R_drew)); exact HO_0.out) hb); have n1_ := Aside0.mk (Kd.R_elder' (by (with_reducible repeat (first | apply Kd.R_alloc | apply Kd.R_drewN | apply Kd.R_drew)); exact HO_3.out) (Kd.R_base ho0) hb); have n2_ := Aside0.mk (Kd.R_lower (Kd.R_new' ho0 (Kd.R_lt (by (with_reducible repeat (first | apply Kd.R_alloc | apply Kd.R_drewN | apply Kd.R_drew)); exact HO_3.out))) (below_size (by repeat (first | (with_reducible first | exact HB.out | apply below_alloc | apply pw_below_drewN | apply below_drew1) | exact HB.out)))); have n3_ := Aside0.mk (below_step (by repeat (first | (with_reducible first | exact HB.out | apply below_alloc | apply pw_below_drewN | apply below_drew1) | exact HB.out)) hb); clear HO_0; clear HO_3; clear HB; have HO_0 := n0_; have HO_3 := n1_; have HO276 := n2_; have HB := n3_; clear n0_ n1_ n2_ n3_; (try clear hb); (try clear hb2); (try clear hk); (try clear hi); (try clear ho0)))
    go_loopg [8, 9] k1 (fun kq v8 v9 w' => ∃ (x8_2 : Int) (x9_2 : Int), v8 = .int .i64 x8_2 ∧ v9 = .int .i64 x9_2 ∧ Aside0 (logjamlaw38_HistoryOrders.l2 kq t259 t265 t266 t274 x8_2 x9_2 = some r) ∧ Aside0 (kq ≤ k1) ∧ Aside0 (Kd.R k29 29 w' w.heap.size (fun _ => True) (.slice Ao6 t259.length co6) t259) ∧ Aside0 (Kd.R (Kd.int .i64) 3 w' w.heap.size (fun k_ => some k_ ≠ (v275 : Value).ownBlock) (.slice Ao27 t265.length co27) t265) ∧ Aside0 (Kd.R (Kd.int .i64) 3 w' w.heap.size (fun k_ => some k_ ≠ ((.slice Ao27 t265.length co27) : Value).ownBlock) v275 t274) ∧ Aside0 (Below w.heap.size w w'))
    case atStart => exact ⟨(0), (0), (by first | rfl | (simp; done) | (simp only [emptyNe_, emptyEq_]; done) | (simp [*]; done)), (by first | rfl | (simp; done) | (simp only [emptyNe_, emptyEq_]; done) | (simp [*]; done)), H', ⟨Nat.le_refl _⟩, ⟨by (with_reducible repeat (first | apply Kd.R_alloc | apply Kd.R_drewN | apply Kd.R_drew)); exact HO_0.out⟩, ⟨by (with_reducible repeat (first | apply Kd.R_alloc | apply Kd.R_drewN | apply Kd.R_drew)); exact Kd.R_mono HO_3.out (fun _ hk => hk.2)⟩, ⟨by (with_reducible repeat (first | apply Kd.R_alloc | apply Kd.R_drewN | apply Kd.R_drew)); exact Kd.R_mono HO276.out (fun _ hk => hk.2)⟩, ⟨by repeat (first | (with_reducible first | exact HB.out | apply below_alloc | apply pw_below_drewN | apply below_drew1) | exact HB.out)⟩⟩
    case round =>
     clear H'; try clear c1; try clear c2; try clear p2; try clear q2; try clear hx2; try clear p6; try clear c8; try clear c10; try clear c10b0; try clear c12; try clear c12b0; try clear c13; try clear c14; try clear c15; try clear c16; try clear c18; try clear c21; try clear c21b0; try clear c21b1; try clear p26; try clear q26; try clear hx26; try clear p27; try clear q27; try clear hx27; try clear hx269_0; try clear hx270_0; try clear hx272_0; try clear hx273_0; try clear p269; try clear p270; try clear p272; try clear p273; try clear q269; try clear q270; try clear q272; try clear q273
     obtain ⟨x8_2, x9_2, rfl, rfl, HA, HK2, HO_0, HO_3, HO_7, HB⟩ := hrel
     cases gk with
     | zero => exact absurd HA.out (by simp [logjamlaw38_HistoryOrders.l2])
     | succ k2 =>
      have H := HA.out
      clear HA
      simp only [logjamlaw38_HistoryOrders.l2] at H
      by_cases c29 : x9_2 < (t274.length : Int)
      ·rw [if_pos c29] at H
       have c29b0 : decide (x9_2 < (t274.length : Int)) = true := decide_eq_true c29
       clear c29
       have HC30 := Aside0.mk H
       clear H
       obtain ⟨Ao31, co31, eo31⟩ := Kd.R_slice HO_7.out
       subst eo31
       go_upto_block 5 with (fail)
       go_cut [8] (fun v8 wc => ∃ (kq : Nat) (x8_29 : Int), v8 = .int .i64 x8_29 ∧ Aside0 (logjamlaw38_HistoryOrders.j7 kq t259 t265 t266 t274 x8_29 x9_2 = some r) ∧ Aside0 (kq ≤ k2) ∧ Aside0 (Kd.R k29 29 wc w.heap.size (fun _ => True) (.slice Ao6 t259.length co6) t259) ∧ Aside0 (Kd.R (Kd.int .i64) 3 wc w.heap.size (fun k_ => some k_ ≠ ((.slice Ao31 t274.length co31) : Value).ownBlock) (.slice Ao27 t265.length co27) t265) ∧ Aside0 (Kd.R (Kd.int .i64) 3 wc w.heap.size (fun k_ => some k_ ≠ ((.slice Ao27 t265.length co27) : Value).ownBlock) (.slice Ao31 t274.length co31) t274) ∧ Aside0 (Below w.heap.size w wc))
       case first =>
        have H := HC30.out
        clear HC30
        by_cases c32 : 0 ≤ x9_2
        ·rw [if_pos c32] at H
         have c32b0 : decide (0 ≤ x9_2) = true := decide_eq_true c32
         clear c32
         (first | rw [c32b0] | (simp only [i64_w, i32_w]; rw [c32b0]) | skip)
         by_cases c33 : 0 ≤ (rd t274 x9_2)
         ·rw [if_pos c33] at H
          have c33b0 : decide (0 ≤ (rd t274 x9_2)) = true := decide_eq_true c33
          clear c33
          by_cases c34 : (rd t274 x9_2) < (t259.length : Int)
          ·rw [if_pos c34] at H
           have c34b0 : decide ((rd t274 x9_2) < (t259.length : Int)) = true := decide_eq_true c34
           clear c34
           by_cases c35 : ((rd_T29 t259 (rd t274 x9_2)).f0) = 3
           ·rw [if_pos c35] at H
            have c35b0 : (((rd_T29 t259 (rd t274 x9_2)).f0) == 3) = true := beq_iff_eq.mpr c35
            have c35b1 : (((rd_T29 t259 (rd t274 x9_2)).f0) != 3) = false := bne_eq_false_iff_eq.mpr c35
            clear c35
            have H' := Aside0.mk H
            clear H
            have p277 : 0 ≤ (x9_2 : Int) := of_decide_eq_true (by first | (with_reducible assumption) | assumption)
            have q277 : x9_2 < (t274.length : Int) := of_decide_eq_true (by first | (with_reducible assumption) | assumption)
            obtain ⟨ad277, e277, hx277_0⟩ := Kd.at_int (Kd.R_reads' HO_7.out).2.2 x9_2 p277 q277
            cases e277
            replace p277 := eq_true p277
            replace q277 := eq_true q277
            have p278 : 0 ≤ ((rd t274 x9_2) : Int) := of_decide_eq_true (by first | (with_reducible assumption) | assumption)
            have q278 : (rd t274 x9_2) < (t259.length : Int) := of_decide_eq_true (by first | (with_reducible assumption) | assumption)
            obtain ⟨ad278, e278, hx278_0, hx278_1, hx278_2, hx278_3, hx278_4⟩ := at_T29 (Kd.R_reads' HO_0.out).2.2 (rd t274 x9_2) p278 q278
            cases e278
            replace p278 := eq_true p278
            replace q278 := eq_true q278
            have p279 : 0 ≤ (x9_2 : Int) := of_decide_eq_true (by first | (with_reducible assumption) | assumption)
            have q279 : x9_2 < (t274.length : Int) := of_decide_eq_true (by first | (with_reducible assumption) | assumption)
            obtain ⟨ad279, e279, hx279_0⟩ := Kd.at_int (Kd.R_reads' HO_7.out).2.2 x9_2 p279 q279
            obtain rfl : ad277 = ad279 := (by injection e279)
            replace p279 := eq_true p279
            replace q279 := eq_true q279
            have p280 : 0 ≤ ((rd t274 x9_2) : Int) := of_decide_eq_true (by first | (with_reducible assumption) | assumption)
            have q280 : (rd t274 x9_2) < (t259.length : Int) := of_decide_eq_true (by first | (with_reducible assumption) | assumption)
            obtain ⟨ad280, e280, hx280_0, hx280_1, hx280_2, hx280_3, hx280_4⟩ := at_T29 (Kd.R_reads' HO_0.out).2.2 (rd t274 x9_2) p280 q280
            obtain rfl : ad278 = ad280 := (by injection e280)
            replace p280 := eq_true p280
            replace q280 := eq_true q280
            go_wp2
            go_loopg [11, 13] k2 (fun kq v11 v13 w' => ∃ (x11_3 : Bool) (x13_3 : Int), v11 = .bool x11_3 ∧ v13 = .int .i64 x13_3 ∧ Aside0 (logjamlaw38_HistoryOrders.l3 kq t259 t265 t266 t274 (wrap64 (x8_2 + 1)) x9_2 ((rd_T29 t259 (rd t274 x9_2)).f2) x11_3 false x13_3 = some r) ∧ Aside0 (kq ≤ k2) ∧ Aside0 (Kd.R k29 29 w' w.heap.size (fun _ => True) (.slice (some ad278) t259.length co6) t259) ∧ Aside0 (Kd.R (Kd.int .i64) 3 w' w.heap.size (fun k_ => some k_ ≠ ((.slice (some ad277) t274.length co31) : Value).ownBlock) (.slice Ao27 t265.length co27) t265) ∧ Aside0 (Kd.R (Kd.int .i64) 3 w' w.heap.size (fun k_ => some k_ ≠ ((.slice Ao27 t265.length co27) : Value).ownBlock) (.slice (some ad277) t274.length co31) t274) ∧ Aside0 (Below w.heap.size w w'))
            case atStart => exact ⟨(false), (0), (by first | rfl | (simp; done) | (simp only [emptyNe_, emptyEq_]; done) | (simp [*]; done)), (by first | rfl | (simp; done) | (simp only [emptyNe_, emptyEq_]; done) | (simp [*]; done)), H', ⟨Nat.le_refl _⟩, ⟨by (with_reducible repeat (first | apply Kd.R_alloc | apply Kd.R_drewN | apply Kd.R_drew)); exact HO_0.out⟩, ⟨by (with_reducible repeat (first | apply Kd.R_alloc | apply Kd.R_drewN | apply Kd.R_drew)); exact HO_3.out⟩, ⟨by (with_reducible repeat (first | apply Kd.R_alloc | apply Kd.R_drewN | apply Kd.R_drew)); exact HO_7.out⟩, ⟨by repeat (first | (with_reducible first | exact HB.out | apply below_alloc | apply pw_below_drewN | apply below_drew1) | exact HB.out)⟩⟩
            case round =>
             clear H'; try clear c1; try clear c2; try clear p2; try clear q2; try clear hx2; try clear c3; try clear p6; try clear c8; try clear c10; try clear c10b0; try clear c12; try clear c12b0; try clear c13; try clear c14; try clear c15; try clear c16; try clear c18; try clear c21; try clear c21b0; try clear c21b1; try clear p26; try clear q26; try clear hx26; try clear p27; try clear q27; try clear hx27; try clear p28; try clear q28; try clear hx28; try clear c29; try clear c29b0; try clear c32; try clear c32b0; try clear c33; try clear c33b0; try clear c34; try clear c34b0; try clear c35; try clear c35b0; try clear c35b1; try clear hx269_0; try clear hx270_0; try clear hx272_0; try clear hx273_0; try clear hx277_0; try clear hx278_0; try clear hx278_1; try clear hx278_2; try clear hx278_3; try clear hx278_4; try clear hx279_0; try clear hx280_0; try clear hx280_1; try clear hx280_2; try clear hx280_3; try clear hx280_4; try clear p2; try clear p26; try clear p269; try clear p27; try clear p270; try clear p272; try clear p273; try clear p277; try clear p278; try clear p279; try clear p280; try clear p6; try clear q2; try clear q26; try clear q269; try clear q27; try clear q270; try clear q272; try clear q273; try clear q277; try clear q278; try clear q279; try clear q280
             obtain ⟨x11_3, x13_3, rfl, rfl, HA, HK3, HO_0, HO_3, HO_7, HB⟩ := hrel
             cases gk with
             | zero => exact absurd HA.out (by simp [logjamlaw38_HistoryOrders.l3])
             | succ k3 =>
              have H := HA.out
              clear HA
              simp only [logjamlaw38_HistoryOrders.l3] at H
              by_cases c36 : x13_3 < (t265.length : Int)
              ·rw [if_pos c36] at H
               have c36b0 : decide (x13_3 < (t265.length : Int)) = true := decide_eq_true c36
               clear c36
               have HC37 := Aside0.mk H
               clear H
               go_upto_block 7 with (fail)
               go_cut [11] (fun v11 wc => ∃ (kq : Nat) (x11_36 : Bool), v11 = .bool x11_36 ∧ Aside0 (logjamlaw38_HistoryOrders.j4 kq t259 t265 t266 t274 (wrap64 (x8_2 + 1)) x9_2 ((rd_T29 t259 (rd t274 x9_2)).f2) x11_36 false x13_3 = some r) ∧ Aside0 (kq ≤ k3) ∧ Aside0 (Kd.R k29 29 wc w.heap.size (fun _ => True) (.slice (some ad278) t259.length co6) t259) ∧ Aside0 (Kd.R (Kd.int .i64) 3 wc w.heap.size (fun k_ => some k_ ≠ ((.slice (some ad277) t274.length co31) : Value).ownBlock) (.slice Ao27 t265.length co27) t265) ∧ Aside0 (Kd.R (Kd.int .i64) 3 wc w.heap.size (fun k_ => some k_ ≠ ((.slice Ao27 t265.length co27) : Value).ownBlock) (.slice (some ad277) t274.length co31) t274) ∧ Aside0 (Below w.heap.size w wc))
               case first =>
                have H := HC37.out
                clear HC37
                by_cases c38 : x11_3 = true
                ·subst c38
                 have H1 : (logjamlaw38_HistoryOrders.j4 k3 t259 t265 t266 t274 (wrap64 (x8_2 + 1)) x9_2 ((rd_T29 t259 (rd t274 x9_2)).f2) true false x13_3) = some r := by rw [if_pos rfl] at H; exact H
                 clear H
                 have H := H1
                 clear H1
                 have H' := Aside0.mk H
                 clear H
                 go_wp2
                 go_meet
                 case rel => exact ⟨_, (true), (by first | rfl | (simp; done) | (simp only [emptyNe_, emptyEq_]; done) | (simp [*]; done)), H', ⟨by have := HK1.out; have := HK2.out; have := HK3.out; first | omega | exact Nat.le_refl _⟩, ⟨by (with_reducible repeat (first | apply Kd.R_alloc | apply Kd.R_drewN | apply Kd.R_drew)); exact HO_0.out⟩, ⟨by (with_reducible repeat (first | apply Kd.R_alloc | apply Kd.R_drewN | apply Kd.R_drew)); exact HO_3.out⟩, ⟨by (with_reducible repeat (first | apply Kd.R_alloc | apply Kd.R_drewN | apply Kd.R_drew)); exact HO_7.out⟩, ⟨by repeat (first | (with_reducible first | exact HB.out | apply below_alloc | apply pw_below_drewN | apply below_drew1) | exact HB.out)⟩⟩
                ·replace c38 := Bool.eq_false_iff.mpr c38
                 subst c38
                 have H1 : (if 0 ≤ x13_3 then (logjamlaw38_HistoryOrders.j4 k3 t259 t265 t266 t274 (wrap64 (x8_2 + 1)) x9_2 ((rd_T29 t259 (rd t274 x9_2)).f2) ((rd t265 x13_3) == ((rd_T29 t259 (rd t274 x9_2)).f2)) false x13_3) else (none)) = some r := by rw [if_neg (show ¬ (false = true) by decide)] at H; exact H
                 clear H
                 have H := H1
                 clear H1
                 by_cases c39 : 0 ≤ x13_3
                 ·rw [if_pos c39] at H
                  have c39b0 : decide (0 ≤ x13_3) = true := decide_eq_true c39
                  clear c39
                  (first | rw [c39b0] | (simp only [i64_w, i32_w]; rw [c39b0]) | skip)
                  have H' := Aside0.mk H
                  clear H
                  have p281 : 0 ≤ (x13_3 : Int) := of_decide_eq_true (by first | (with_reducible assumption) | assumption)
                  have q281 : x13_3 < (t265.length : Int) := of_decide_eq_true (by first | (with_reducible assumption) | assumption)
                  obtain ⟨ad281, e281, hx281_0⟩ := Kd.at_int (Kd.R_reads' HO_3.out).2.2 x13_3 p281 q281
                  cases e281
                  replace p281 := eq_true p281
                  replace q281 := eq_true q281
                  go_wp2
                  go_meet
                  case rel => exact ⟨_, (((rd t265 x13_3) == ((rd_T29 t259 (rd t274 x9_2)).f2))), (by first | rfl | (simp; done) | (simp only [emptyNe_, emptyEq_]; done) | (simp [*]; done)), H', ⟨by have := HK1.out; have := HK2.out; have := HK3.out; first | omega | exact Nat.le_refl _⟩, ⟨by (with_reducible repeat (first | apply Kd.R_alloc | apply Kd.R_drewN | apply Kd.R_drew)); exact HO_0.out⟩, ⟨by (with_reducible repeat (first | apply Kd.R_alloc | apply Kd.R_drewN | apply Kd.R_drew)); exact HO_3.out⟩, ⟨by (with_reducible repeat (first | apply Kd.R_alloc | apply Kd.R_drewN | apply Kd.R_drew)); exact HO_7.out⟩, ⟨by repeat (first | (with_reducible first | exact HB.out | apply below_alloc | apply pw_below_drewN | apply below_drew1) | exact HB.out)⟩⟩
                 ·rw [if_neg c39] at H
                  exact absurd H (by simp)
               case rest =>
                clear HC37; try clear c1; try clear c2; try clear p2; try clear q2; try clear hx2; try clear c3; try clear p6; try clear c8; try clear c10; try clear c10b0; try clear c12; try clear c12b0; try clear c13; try clear c14; try clear c15; try clear c16; try clear c18; try clear c21; try clear c21b0; try clear c21b1; try clear p26; try clear q26; try clear hx26; try clear p27; try clear q27; try clear hx27; try clear p28; try clear q28; try clear hx28; try clear c29; try clear c29b0; try clear c32; try clear c32b0; try clear c33; try clear c33b0; try clear c34; try clear c34b0; try clear c35; try clear c35b0; try clear c35b1; try clear c36; try clear c36b0; try clear c38; try clear c39; try clear c39b0; try clear hx269_0; try clear hx270_0; try clear hx272_0; try clear hx273_0; try clear hx277_0; try clear hx278_0; try clear hx278_1; try clear hx278_2; try clear hx278_3; try clear hx278_4; try clear hx279_0; try clear hx280_0; try clear hx280_1; try clear hx280_2; try clear hx280_3; try clear hx280_4; try clear hx281_0; try clear p2; try clear p26; try clear p269; try clear p27; try clear p270; try clear p272; try clear p273; try clear p277; try clear p278; try clear p279; try clear p28; try clear p280; try clear p281; try clear p6; try clear q2; try clear q26; try clear q269; try clear q27; try clear q270; try clear q272; try clear q273; try clear q277; try clear q278; try clear q279; try clear q28; try clear q280; try clear q281
                obtain ⟨kq, x11_36, rfl, HA, HJ36, HO_0, HO_3, HO_7, HB⟩ := hcut
                cases kq with
                | zero => exact absurd HA.out (by simp [logjamlaw38_HistoryOrders.j4])
                | succ kj36 =>
                 have H := HA.out
                 clear HA
                 simp only [logjamlaw38_HistoryOrders.j4] at H
                 have H' := Aside0.mk H
                 clear H
                 go_wp2
                 go_roundg kj36
                 case measure => have := HK1.out; have := HK2.out; have := HK3.out; have := HJ36.out; omega
                 case rel => exact ⟨(x11_36), (wrap64 (x13_3 + 1)), (by first | rfl | (simp; done) | (simp only [emptyNe_, emptyEq_]; done) | (simp [*]; done)), (by first | rfl | (simp; done) | (simp only [emptyNe_, emptyEq_]; done) | (simp [*]; done)), H', ⟨by have := HK1.out; have := HK2.out; have := HK3.out; have := HJ36.out; omega⟩, ⟨by (with_reducible repeat (first | apply Kd.R_alloc | apply Kd.R_drewN | apply Kd.R_drew)); exact HO_0.out⟩, ⟨by (with_reducible repeat (first | apply Kd.R_alloc | apply Kd.R_drewN | apply Kd.R_drew)); exact HO_3.out⟩, ⟨by (with_reducible repeat (first | apply Kd.R_alloc | apply Kd.R_drewN | apply Kd.R_drew)); exact HO_7.out⟩, ⟨by repeat (first | (with_reducible first | exact HB.out | apply below_alloc | apply pw_below_drewN | apply below_drew1) | exact HB.out)⟩⟩
              ·rw [if_neg c36] at H
               have c36b0 : decide (x13_3 < (t265.length : Int)) = false := decide_eq_false c36
               clear c36
               have H' := Aside0.mk H
               clear H
               go_wp2
               go_loopg [12, 14] k3 (fun kq v12 v14 w' => ∃ (x12_4 : Bool) (x14_4 : Int), v12 = .bool x12_4 ∧ v14 = .int .i64 x14_4 ∧ Aside0 (logjamlaw38_HistoryOrders.l4 kq t259 t265 t266 t274 (wrap64 (x8_2 + 1)) x9_2 ((rd_T29 t259 (rd t274 x9_2)).f2) x11_3 x12_4 x14_4 = some r) ∧ Aside0 (kq ≤ k3) ∧ Aside0 (Kd.R k29 29 w' w.heap.size (fun _ => True) (.slice (some ad278) t259.length co6) t259) ∧ Aside0 (Kd.R (Kd.int .i64) 3 w' w.heap.size (fun k_ => some k_ ≠ ((.slice (some ad277) t274.length co31) : Value).ownBlock) (.slice Ao27 t265.length co27) t265) ∧ Aside0 (Kd.R (Kd.int .i64) 3 w' w.heap.size (fun k_ => some k_ ≠ ((.slice Ao27 t265.length co27) : Value).ownBlock) (.slice (some ad277) t274.length co31) t274) ∧ Aside0 (Below w.heap.size w w'))
               case atStart => exact ⟨(false), (0), (by first | rfl | (simp; done) | (simp only [emptyNe_, emptyEq_]; done) | (simp [*]; done)), (by first | rfl | (simp; done) | (simp only [emptyNe_, emptyEq_]; done) | (simp [*]; done)), H', ⟨Nat.le_refl _⟩, ⟨by (with_reducible repeat (first | apply Kd.R_alloc | apply Kd.R_drewN | apply Kd.R_drew)); exact HO_0.out⟩, ⟨by (with_reducible repeat (first | apply Kd.R_alloc | apply Kd.R_drewN | apply Kd.R_drew)); exact HO_3.out⟩, ⟨by (with_reducible repeat (first | apply Kd.R_alloc | apply Kd.R_drewN | apply Kd.R_drew)); exact HO_7.out⟩, ⟨by repeat (first | (with_reducible first | exact HB.out | apply below_alloc | apply pw_below_drewN | apply below_drew1) | exact HB.out)⟩⟩
               case round =>
                clear H'; try clear c1; try clear c2; try clear p2; try clear q2; try clear hx2; try clear c3; try clear p6; try clear c8; try clear c10; try clear c10b0; try clear c12; try clear c12b0; try clear c13; try clear c14; try clear c15; try clear c16; try clear c18; try clear c21; try clear c21b0; try clear c21b1; try clear p26; try clear q26; try clear hx26; try clear p27; try clear q27; try clear hx27; try clear p28; try clear q28; try clear hx28; try clear c29; try clear c29b0; try clear c32; try clear c32b0; try clear c33; try clear c33b0; try clear c34; try clear c34b0; try clear c35; try clear c35b0; try clear c35b1; try clear c36; try clear c36b0; try clear c38; try clear c39; try clear c39b0; try clear hx269_0; try clear hx270_0; try clear hx272_0; try clear hx273_0; try clear hx277_0; try clear hx278_0; try clear hx278_1; try clear hx278_2; try clear hx278_3; try clear hx278_4; try clear hx279_0; try clear hx280_0; try clear hx280_1; try clear hx280_2; try clear hx280_3; try clear hx280_4; try clear hx281_0; try clear p2; try clear p26; try clear p269; try clear p27; try clear p270; try clear p272; try clear p273; try clear p277; try clear p278; try clear p279; try clear p28; try clear p280; try clear p281; try clear p6; try clear q2; try clear q26; try clear q269; try clear q27; try clear q270; try clear q272; try clear q273; try clear q277; try clear q278; try clear q279; try clear q28; try clear q280; try clear q281
                obtain ⟨x12_4, x14_4, rfl, rfl, HA, HK4, HO_0, HO_3, HO_7, HB⟩ := hrel
                cases gk with
                | zero => exact absurd HA.out (by simp [logjamlaw38_HistoryOrders.l4])
                | succ k4 =>
                 have H := HA.out
                 clear HA
                 simp only [logjamlaw38_HistoryOrders.l4] at H
                 by_cases c40 : x14_4 < (t274.length : Int)
                 ·rw [if_pos c40] at H
                  have c40b0 : decide (x14_4 < (t274.length : Int)) = true := decide_eq_true c40
                  clear c40
                  have HC41 := Aside0.mk H
                  clear H
                  go_upto_block 9 with (fail)
                  go_cut [12] (fun v12 wc => ∃ (kq : Nat) (x12_40 : Bool), v12 = .bool x12_40 ∧ Aside0 (logjamlaw38_HistoryOrders.j6 kq t259 t265 t266 t274 (wrap64 (x8_2 + 1)) x9_2 ((rd_T29 t259 (rd t274 x9_2)).f2) x11_3 x12_40 x14_4 = some r) ∧ Aside0 (kq ≤ k4) ∧ Aside0 (Kd.R k29 29 wc w.heap.size (fun _ => True) (.slice (some ad278) t259.length co6) t259) ∧ Aside0 (Kd.R (Kd.int .i64) 3 wc w.heap.size (fun k_ => some k_ ≠ ((.slice (some ad277) t274.length co31) : Value).ownBlock) (.slice Ao27 t265.length co27) t265) ∧ Aside0 (Kd.R (Kd.int .i64) 3 wc w.heap.size (fun k_ => some k_ ≠ ((.slice Ao27 t265.length co27) : Value).ownBlock) (.slice (some ad277) t274.length co31) t274) ∧ Aside0 (Below w.heap.size w wc))
                  case first =>
                   have H := HC41.out
                   clear HC41
                   by_cases c42 : x12_4 = true
                   ·subst c42
                    have H1 : (logjamlaw38_HistoryOrders.j6 k4 t259 t265 t266 t274 (wrap64 (x8_2 + 1)) x9_2 ((rd_T29 t259 (rd t274 x9_2)).f2) x11_3 true x14_4) = some r := by rw [if_pos rfl] at H; exact H
                    clear H
                    have H := H1
                    clear H1
                    have H' := Aside0.mk H
                    clear H
                    go_wp2
                    go_meet
                    case rel => exact ⟨_, (true), (by first | rfl | (simp; done) | (simp only [emptyNe_, emptyEq_]; done) | (simp [*]; done)), H', ⟨by have := HK1.out; have := HK2.out; have := HK3.out; have := HK4.out; first | omega | exact Nat.le_refl _⟩, ⟨by (with_reducible repeat (first | apply Kd.R_alloc | apply Kd.R_drewN | apply Kd.R_drew)); exact HO_0.out⟩, ⟨by (with_reducible repeat (first | apply Kd.R_alloc | apply Kd.R_drewN | apply Kd.R_drew)); exact HO_3.out⟩, ⟨by (with_reducible repeat (first | apply Kd.R_alloc | apply Kd.R_drewN | apply Kd.R_drew)); exact HO_7.out⟩, ⟨by repeat (first | (with_reducible first | exact HB.out | apply below_alloc | apply pw_below_drewN | apply below_drew1) | exact HB.out)⟩⟩
                   ·replace c42 := Bool.eq_false_iff.mpr c42
                    subst c42
                    have H1 : (if 0 ≤ x14_4 then (if 0 ≤ (rd t274 x14_4) then (if (rd t274 x14_4) < (t259.length : Int) then ((logjamref38_Before.f k4 t259 ((rd_T29 t259 (rd t274 x14_4)).f2) ((rd_T29 t259 (rd t274 x9_2)).f2)).bind fun t284 => (logjamlaw38_HistoryOrders.j6 k4 t259 t265 t266 t274 (wrap64 (x8_2 + 1)) x9_2 ((rd_T29 t259 (rd t274 x9_2)).f2) x11_3 t284 x14_4)) else (none)) else (none)) else (none)) = some r := by rw [if_neg (show ¬ (false = true) by decide)] at H; exact H
                    clear H
                    have H := H1
                    clear H1
                    by_cases c43 : 0 ≤ x14_4
                    ·rw [if_pos c43] at H
                     have c43b0 : decide (0 ≤ x14_4) = true := decide_eq_true c43
                     clear c43
                     (first | rw [c43b0] | (simp only [i64_w, i32_w]; rw [c43b0]) | skip)
                     by_cases c44 : 0 ≤ (rd t274 x14_4)
                     ·rw [if_pos c44] at H
                      have c44b0 : decide (0 ≤ (rd t274 x14_4)) = true := decide_eq_true c44
                      clear c44
                      by_cases c45 : (rd t274 x14_4) < (t259.length : Int)
                      ·rw [if_pos c45] at H
                       have c45b0 : decide ((rd t274 x14_4) < (t259.length : Int)) = true := decide_eq_true c45
                       clear c45
                       replace H := Option.bind_eq_some_iff.mp H
                       obtain ⟨t284, A460, H⟩ := H
                       replace H : (logjamlaw38_HistoryOrders.j6 k4 t259 t265 t266 t274 (wrap64 (x8_2 + 1)) x9_2 ((rd_T29 t259 (rd t274 x9_2)).f2) x11_3 t284 x14_4) = some r := H
                       have A46 := Aside0.mk A460
                       clear A460
                       have H' := Aside0.mk H
                       clear H
                       have p282 : 0 ≤ (x14_4 : Int) := of_decide_eq_true (by first | (with_reducible assumption) | assumption)
                       have q282 : x14_4 < (t274.length : Int) := of_decide_eq_true (by first | (with_reducible assumption) | assumption)
                       obtain ⟨ad282, e282, hx282_0⟩ := Kd.at_int (Kd.R_reads' HO_7.out).2.2 x14_4 p282 q282
                       obtain rfl : ad277 = ad282 := (by injection e282)
                       replace p282 := eq_true p282
                       replace q282 := eq_true q282
                       have p283 : 0 ≤ ((rd t274 x14_4) : Int) := of_decide_eq_true (by first | (with_reducible assumption) | assumption)
                       have q283 : (rd t274 x14_4) < (t259.length : Int) := of_decide_eq_true (by first | (with_reducible assumption) | assumption)
                       obtain ⟨ad283, e283, hx283_0, hx283_1, hx283_2, hx283_3, hx283_4⟩ := at_T29 (Kd.R_reads' HO_0.out).2.2 (rd t274 x14_4) p283 q283
                       obtain rfl : ad278 = ad283 := (by injection e283)
                       replace p283 := eq_true p283
                       replace q283 := eq_true q283
                       go_wp2_with (first | (go_at_call 13; (with_reducible refine (logjamref38_Before.calls k4 _ _ t259 ((rd_T29 t259 (rd t274 x14_4)).f2) ((rd_T29 t259 (rd t274 x9_2)).f2) t284 _ ?side1 ?side2 A46.out).mono ?_); (case side1 => repeat (first | exact (Kd.R_reads' HO_0.out).2.2 | (with_reducible refine Kd.C_alloc ?_ _) | (with_reducible refine Kd.C_drewN ?_ _) | (with_reducible refine Kd.C_drew ?_))); (case side2 => exact (Kd.R_reads' HO_0.out).2.1); rintro e w47 ⟨rfl, hb⟩; have n0_ := Aside0.mk (Kd.R_below (by (with_reducible repeat (first | apply Kd.R_alloc | apply Kd.R_drewN | apply Kd.R_drew)); exact HO_0.out) hb); have n1_ := Aside0.mk (Kd.R_below (by (with_reducible repeat (first | apply Kd.R_alloc | apply Kd.R_drewN | apply Kd.R_drew)); exact HO_3.out) hb); have n2_ := Aside0.mk (Kd.R_below (by (with_reducible repeat (first | apply Kd.R_alloc | apply Kd.R_drewN | apply Kd.R_drew)); exact HO_7.out) hb); have n3_ := Aside0.mk (below_step (by repeat (first | (with_reducible first | exact HB.out | apply below_alloc | apply pw_below_drewN | apply below_drew1) | exact HB.out)) hb); clear HO_0; clear HO_3; clear HO_7; clear HB; have HO_0 := n0_; have HO_3 := n1_; have HO_7 := n2_; have HB := n3_; clear n0_ n1_ n2_ n3_; (try clear hb); (try clear hb2); (try clear hk); (try clear hi)))
                       go_meet
                       case rel => exact ⟨_, (t284), (by first | rfl | (simp; done) | (simp only [emptyNe_, emptyEq_]; done) | (simp [*]; done)), H', ⟨by have := HK1.out; have := HK2.out; have := HK3.out; have := HK4.out; first | omega | exact Nat.le_refl _⟩, ⟨by (with_reducible repeat (first | apply Kd.R_alloc | apply Kd.R_drewN | apply Kd.R_drew)); exact HO_0.out⟩, ⟨by (with_reducible repeat (first | apply Kd.R_alloc | apply Kd.R_drewN | apply Kd.R_drew)); exact HO_3.out⟩, ⟨by (with_reducible repeat (first | apply Kd.R_alloc | apply Kd.R_drewN | apply Kd.R_drew)); exact HO_7.out⟩, ⟨by repeat (first | (with_reducible first | exact HB.out | apply below_alloc | apply pw_below_drewN | apply below_drew1) | exact HB.out)⟩⟩
                      ·rw [if_neg c45] at H
                       exact absurd H (by simp)
                     ·rw [if_neg c44] at H
                      exact absurd H (by simp)
                    ·rw [if_neg c43] at H
                     exact absurd H (by simp)
                  case rest =>
                   clear HC41; try clear c1; try clear c2; try clear p2; try clear q2; try clear hx2; try clear c3; try clear c4; try clear p6; try clear c8; try clear c10; try clear c10b0; try clear c12; try clear c12b0; try clear c13; try clear c14; try clear c15; try clear c16; try clear c18; try clear c21; try clear c21b0; try clear c21b1; try clear p26; try clear q26; try clear hx26; try clear p27; try clear q27; try clear hx27; try clear p28; try clear q28; try clear hx28; try clear c29; try clear c29b0; try clear c32; try clear c32b0; try clear c33; try clear c33b0; try clear c34; try clear c34b0; try clear c35; try clear c35b0; try clear c35b1; try clear c36; try clear c36b0; try clear c38; try clear c39; try clear c39b0; try clear c40; try clear c40b0; try clear c42; try clear c43; try clear c43b0; try clear c44; try clear c44b0; try clear c45; try clear c45b0; try clear hx269_0; try clear hx270_0; try clear hx272_0; try clear hx273_0; try clear hx277_0; try clear hx278_0; try clear hx278_1; try clear hx278_2; try clear hx278_3; try clear hx278_4; try clear hx279_0; try clear hx280_0; try clear hx280_1; try clear hx280_2; try clear hx280_3; try clear hx280_4; try clear hx281_0; try clear hx282_0; try clear hx283_0; try clear hx283_1; try clear hx283_2; try clear hx283_3; try clear hx283_4; try clear p2; try clear p26; try clear p269; try clear p27; try clear p270; try clear p272; try clear p273; try clear p277; try clear p278; try clear p279; try clear p28; try clear p280; try clear p281; try clear p282; try clear p283; try clear p6; try clear q2; try clear q26; try clear q269; try clear q27; try clear q270; try clear q272; try clear q273; try clear q277; try clear q278; try clear q279; try clear q28; try clear q280; try clear q281; try clear q282; try clear q283
                   obtain ⟨kq, x12_40, rfl, HA, HJ40, HO_0, HO_3, HO_7, HB⟩ := hcut
                   cases kq with
                   | zero => exact absurd HA.out (by simp [logjamlaw38_HistoryOrders.j6])
                   | succ kj40 =>
                    have H := HA.out
                    clear HA
                    simp only [logjamlaw38_HistoryOrders.j6] at H
                    have H' := Aside0.mk H
                    clear H
                    go_wp2
                    go_roundg kj40
                    case measure => have := HK1.out; have := HK2.out; have := HK3.out; have := HK4.out; have := HJ40.out; omega
                    case rel => exact ⟨(x12_40), (wrap64 (x14_4 + 1)), (by first | rfl | (simp; done) | (simp only [emptyNe_, emptyEq_]; done) | (simp [*]; done)), (by first | rfl | (simp; done) | (simp only [emptyNe_, emptyEq_]; done) | (simp [*]; done)), H', ⟨by have := HK1.out; have := HK2.out; have := HK3.out; have := HK4.out; have := HJ40.out; omega⟩, ⟨by (with_reducible repeat (first | apply Kd.R_alloc | apply Kd.R_drewN | apply Kd.R_drew)); exact HO_0.out⟩, ⟨by (with_reducible repeat (first | apply Kd.R_alloc | apply Kd.R_drewN | apply Kd.R_drew)); exact HO_3.out⟩, ⟨by (with_reducible repeat (first | apply Kd.R_alloc | apply Kd.R_drewN | apply Kd.R_drew)); exact HO_7.out⟩, ⟨by repeat (first | (with_reducible first | exact HB.out | apply below_alloc | apply pw_below_drewN | apply below_drew1) | exact HB.out)⟩⟩
                 ·rw [if_neg c40] at H
                  have c40b0 : decide (x14_4 < (t274.length : Int)) = false := decide_eq_false c40
                  clear c40
                  by_cases c48 : x11_3 = true
                  ·subst c48
                   have H1 : (logjamlaw38_HistoryOrders.j7 k4 t259 t265 t266 t274 (wrap64 (x8_2 + 1)) x9_2) = some r := by rw [if_pos rfl] at H; exact H
                   clear H
                   have H := H1
                   clear H1
                   have H' := Aside0.mk H
                   clear H
                   go_wp2
                   go_meet
                   case rel => exact ⟨_, ((wrap64 (x8_2 + 1))), (by first | rfl | (simp; done) | (simp only [emptyNe_, emptyEq_]; done) | (simp [*]; done)), H', ⟨by have := HK1.out; have := HK2.out; have := HK3.out; have := HK4.out; first | omega | exact Nat.le_refl _⟩, ⟨by (with_reducible repeat (first | apply Kd.R_alloc | apply Kd.R_drewN | apply Kd.R_drew)); exact HO_0.out⟩, ⟨by (with_reducible repeat (first | apply Kd.R_alloc | apply Kd.R_drewN | apply Kd.R_drew)); exact HO_3.out⟩, ⟨by (with_reducible repeat (first | apply Kd.R_alloc | apply Kd.R_drewN | apply Kd.R_drew)); exact HO_7.out⟩, ⟨by repeat (first | (with_reducible first | exact HB.out | apply below_alloc | apply pw_below_drewN | apply below_drew1) | exact HB.out)⟩⟩
                  ·replace c48 := Bool.eq_false_iff.mpr c48
                   subst c48
                   have H1 : (if x12_4 = true then (logjamlaw38_HistoryOrders.j7 k4 t259 t265 t266 t274 (wrap64 (x8_2 + 1)) x9_2) else (some false)) = some r := by rw [if_neg (show ¬ (false = true) by decide)] at H; exact H
                   clear H
                   have H := H1
                   clear H1
                   by_cases c49 : x12_4 = true
                   ·subst c49
                    have H1 : (logjamlaw38_HistoryOrders.j7 k4 t259 t265 t266 t274 (wrap64 (x8_2 + 1)) x9_2) = some r := by rw [if_pos rfl] at H; exact H
                    clear H
                    have H := H1
                    clear H1
                    have H' := Aside0.mk H
                    clear H
                    go_wp2
                    go_meet
                    case rel => exact ⟨_, ((wrap64 (x8_2 + 1))), (by first | rfl | (simp; done) | (simp only [emptyNe_, emptyEq_]; done) | (simp [*]; done)), H', ⟨by have := HK1.out; have := HK2.out; have := HK3.out; have := HK4.out; first | omega | exact Nat.le_refl _⟩, ⟨by (with_reducible repeat (first | apply Kd.R_alloc | apply Kd.R_drewN | apply Kd.R_drew)); exact HO_0.out⟩, ⟨by (with_reducible repeat (first | apply Kd.R_alloc | apply Kd.R_drewN | apply Kd.R_drew)); exact HO_3.out⟩, ⟨by (with_reducible repeat (first | apply Kd.R_alloc | apply Kd.R_drewN | apply Kd.R_drew)); exact HO_7.out⟩, ⟨by repeat (first | (with_reducible first | exact HB.out | apply below_alloc | apply pw_below_drewN | apply below_drew1) | exact HB.out)⟩⟩
                   ·replace c49 := Bool.eq_false_iff.mpr c49
                    subst c49
                    have H1 : (some false) = some r := by rw [if_neg (show ¬ (false = true) by decide)] at H; exact H
                    clear H
                    have H := H1
                    clear H1
                    obtain rfl := Option.some.inj H
                    go_wp2
                    go_ret
                    exact ⟨by first | rfl | (simp [errW_none, errW_some] <;> rfl) | (simp [*, errW_none, errW_some] <;> rfl), by repeat (first | (with_reducible first | exact HB.out | apply below_alloc | apply pw_below_drewN | apply below_drew1) | exact HB.out)⟩
           ·rw [if_neg c35] at H
            have c35b0 : (((rd_T29 t259 (rd t274 x9_2)).f0) == 3) = false := beq_eq_false_iff_ne.mpr c35
            have c35b1 : (((rd_T29 t259 (rd t274 x9_2)).f0) != 3) = true := bne_iff_ne.mpr c35
            have H' := Aside0.mk H
            clear H
            have p277 : 0 ≤ (x9_2 : Int) := of_decide_eq_true (by first | (with_reducible assumption) | assumption)
            have q277 : x9_2 < (t274.length : Int) := of_decide_eq_true (by first | (with_reducible assumption) | assumption)
            obtain ⟨ad277, e277, hx277_0⟩ := Kd.at_int (Kd.R_reads' HO_7.out).2.2 x9_2 p277 q277
            cases e277
            replace p277 := eq_true p277
            replace q277 := eq_true q277
            have p278 : 0 ≤ ((rd t274 x9_2) : Int) := of_decide_eq_true (by first | (with_reducible assumption) | assumption)
            have q278 : (rd t274 x9_2) < (t259.length : Int) := of_decide_eq_true (by first | (with_reducible assumption) | assumption)
            obtain ⟨ad278, e278, hx278_0, hx278_1, hx278_2, hx278_3, hx278_4⟩ := at_T29 (Kd.R_reads' HO_0.out).2.2 (rd t274 x9_2) p278 q278
            cases e278
            replace p278 := eq_true p278
            replace q278 := eq_true q278
            have p279 : 0 ≤ (x9_2 : Int) := of_decide_eq_true (by first | (with_reducible assumption) | assumption)
            have q279 : x9_2 < (t274.length : Int) := of_decide_eq_true (by first | (with_reducible assumption) | assumption)
            obtain ⟨ad279, e279, hx279_0⟩ := Kd.at_int (Kd.R_reads' HO_7.out).2.2 x9_2 p279 q279
            obtain rfl : ad277 = ad279 := (by injection e279)
            replace p279 := eq_true p279
            replace q279 := eq_true q279
            have p280 : 0 ≤ ((rd t274 x9_2) : Int) := of_decide_eq_true (by first | (with_reducible assumption) | assumption)
            have q280 : (rd t274 x9_2) < (t259.length : Int) := of_decide_eq_true (by first | (with_reducible assumption) | assumption)
            obtain ⟨ad280, e280, hx280_0, hx280_1, hx280_2, hx280_3, hx280_4⟩ := at_T29 (Kd.R_reads' HO_0.out).2.2 (rd t274 x9_2) p280 q280
            obtain rfl : ad278 = ad280 := (by injection e280)
            replace p280 := eq_true p280
            replace q280 := eq_true q280
            go_wp2
            go_meet
            case rel => exact ⟨_, (x8_2), (by first | rfl | (simp; done) | (simp only [emptyNe_, emptyEq_]; done) | (simp [*]; done)), H', ⟨by have := HK1.out; have := HK2.out; first | omega | exact Nat.le_refl _⟩, ⟨by (with_reducible repeat (first | apply Kd.R_alloc | apply Kd.R_drewN | apply Kd.R_drew)); exact HO_0.out⟩, ⟨by (with_reducible repeat (first | apply Kd.R_alloc | apply Kd.R_drewN | apply Kd.R_drew)); exact HO_3.out⟩, ⟨by (with_reducible repeat (first | apply Kd.R_alloc | apply Kd.R_drewN | apply Kd.R_drew)); exact HO_7.out⟩, ⟨by repeat (first | (with_reducible first | exact HB.out | apply below_alloc | apply pw_below_drewN | apply below_drew1) | exact HB.out)⟩⟩
          ·rw [if_neg c34] at H
           exact absurd H (by simp)
         ·rw [if_neg c33] at H
          exact absurd H (by simp)
        ·rw [if_neg c32] at H
         exact absurd H (by simp)
       case rest =>
        clear HC30; try clear c1; try clear c2; try clear p2; try clear q2; try clear hx2; try clear c3; try clear c4; try clear p6; try clear c8; try clear c10; try clear c10b0; try clear c12; try clear c12b0; try clear c13; try clear c14; try clear c15; try clear c16; try clear c18; try clear c21; try clear c21b0; try clear c21b1; try clear p26; try clear q26; try clear hx26; try clear p27; try clear q27; try clear hx27; try clear p28; try clear q28; try clear hx28; try clear c29; try clear c29b0; try clear c32; try clear c32b0; try clear c33; try clear c33b0; try clear c34; try clear c34b0; try clear c35; try clear c35b0; try clear c35b1; try clear c36; try clear c36b0; try clear c38; try clear c39; try clear c39b0; try clear c40; try clear c40b0; try clear c42; try clear c43; try clear c43b0; try clear c44; try clear c44b0; try clear c45; try clear c45b0; try clear c48; try clear c49; try clear hx269_0; try clear hx270_0; try clear hx272_0; try clear hx273_0; try clear hx277_0; try clear hx278_0; try clear hx278_1; try clear hx278_2; try clear hx278_3; try clear hx278_4; try clear hx279_0; try clear hx280_0; try clear hx280_1; try clear hx280_2; try clear hx280_3; try clear hx280_4; try clear hx281_0; try clear hx282_0; try clear hx283_0; try clear hx283_1; try clear hx283_2; try clear hx283_3; try clear hx283_4; try clear p2; try clear p26; try clear p269; try clear p27; try clear p270; try clear p272; try clear p273; try clear p277; try clear p278; try clear p279; try clear p28; try clear p280; try clear p281; try clear p282; try clear p283; try clear p6; try clear q2; try clear q26; try clear q269; try clear q27; try clear q270; try clear q272; try clear q273; try clear q277; try clear q278; try clear q279; try clear q28; try clear q280; try clear q281; try clear q282; try clear q283
        obtain ⟨kq, x8_29, rfl, HA, HJ29, HO_0, HO_3, HO_7, HB⟩ := hcut
        cases kq with
        | zero => exact absurd HA.out (by simp [logjamlaw38_HistoryOrders.j7])
        | succ kj29 =>
         have H := HA.out
         clear HA
         simp only [logjamlaw38_HistoryOrders.j7] at H
         have H' := Aside0.mk H
         clear H
         go_wp2
         go_roundg kj29
         case measure => have := HK1.out; have := HK2.out; have := HJ29.out; omega
         case rel => exact ⟨(x8_29), (wrap64 (x9_2 + 1)), (by first | rfl | (simp; done) | (simp only [emptyNe_, emptyEq_]; done) | (simp [*]; done)), (by first | rfl | (simp; done) | (simp only [emptyNe_, emptyEq_]; done) | (simp [*]; done)), H', ⟨by have := HK1.out; have := HK2.out; have := HJ29.out; omega⟩, ⟨by (with_reducible repeat (first | apply Kd.R_alloc | apply Kd.R_drewN | apply Kd.R_drew)); exact HO_0.out⟩, ⟨by (with_reducible repeat (first | apply Kd.R_alloc | apply Kd.R_drewN | apply Kd.R_drew)); exact HO_3.out⟩, ⟨by (with_reducible repeat (first | apply Kd.R_alloc | apply Kd.R_drewN | apply Kd.R_drew)); exact HO_7.out⟩, ⟨by repeat (first | (with_reducible first | exact HB.out | apply below_alloc | apply pw_below_drewN | apply below_drew1) | exact HB.out)⟩⟩
      ·rw [if_neg c29] at H
       have c29b0 : decide (x9_2 < (t274.length : Int)) = false := decide_eq_false c29
       clear c29
       by_cases c50 : (t266 == (x8_2 == (t265.length : Int))) = true
       ·rw [if_pos c50] at H
        have c50b0 : (t266 == (x8_2 == (t265.length : Int))) = true := c50
        (try (have c50b1 : decide (t266 = (x8_2 == (t265.length : Int))) = true := by simpa using c50))
        (try (have c50b2 : (t266 == (x8_2 == (t265.length : Int))) = true := by simpa using c50))
        clear c50
        replace H := Option.bind_eq_some_iff.mp H
        obtain ⟨t285, A510, H⟩ := H
        replace H : (some t285) = some r := H
        have A51 := Aside0.mk A510
        clear A510
        obtain rfl := Option.some.inj H
        obtain ⟨Ao52, co52, eo52⟩ := Kd.R_slice HO_7.out
        subst eo52
        go_wp2_with (first | (go_at_call 16; (with_reducible refine (logjamlaw38_lives.calls k2  t285 _ A51.out).mono ?_); rintro e w53 ⟨rfl, hb⟩; have n0_ := Aside0.mk (Kd.R_below (by (with_reducible repeat (first | apply Kd.R_alloc | apply Kd.R_drewN | apply Kd.R_drew)); exact HO_0.out) hb); have n1_ := Aside0.mk (Kd.R_below (by (with_reducible repeat (first | apply Kd.R_alloc | apply Kd.R_drewN | apply Kd.R_drew)); exact HO_3.out) hb); have n2_ := Aside0.mk (Kd.R_below (by (with_reducible repeat (first | apply Kd.R_alloc | apply Kd.R_drewN | apply Kd.R_drew)); exact HO_7.out) hb); have n3_ := Aside0.mk (below_step (by repeat (first | (with_reducible first | exact HB.out | apply below_alloc | apply pw_below_drewN | apply below_drew1) | exact HB.out)) hb); clear HO_0; clear HO_3; clear HO_7; clear HB; have HO_0 := n0_; have HO_3 := n1_; have HO_7 := n2_; have HB := n3_; clear n0_ n1_ n2_ n3_; (try clear hb); (try clear hb2); (try clear hk); (try clear hi)))
        go_ret
        exact ⟨by first | rfl | (simp [errW_none, errW_some] <;> rfl) | (simp [*, errW_none, errW_some] <;> rfl), by repeat (first | (with_reducible first | exact HB.out | apply below_alloc | apply pw_below_drewN | apply below_drew1) | exact HB.out)⟩
       ·rw [if_neg c50] at H
        have c50b0 : (t266 == (x8_2 == (t265.length : Int))) = false := by simpa using c50
        (try (have c50b1 : decide (t266 = (x8_2 == (t265.length : Int))) = false := by simpa using c50))
        (try (have c50b2 : (t266 == (x8_2 == (t265.length : Int))) = false := by simpa using c50))
        (try (have c50b3 : ¬ (t266 = (x8_2 == (t265.length : Int))) := by simpa using c50))
        clear c50
        obtain rfl := Option.some.inj H
        obtain ⟨Ao54, co54, eo54⟩ := Kd.R_slice HO_7.out
        subst eo54
        go_wp2
        go_ret
        exact ⟨by first | rfl | (simp [errW_none, errW_some] <;> rfl) | (simp [*, errW_none, errW_some] <;> rfl), by repeat (first | (with_reducible first | exact HB.out | apply below_alloc | apply pw_below_drewN | apply below_drew1) | exact HB.out)⟩
end Go.Proofs.Ytadepdeckapgcaa.PHi
end

section
namespace Go.Proofs.Ytadepdeckapgcaa.Hi
open Go.RowKit Go.Proofs.YtadepdeckapgcaaW.PrintWords Go.Proofs.YtadepdeckapgcaaW.PrintLast Go.Proofs.YtadepdeckapgcaaW.PrintMore Go.Proofs.Ytadepdeckapgcaa.PHi Go.Proofs.Ytadepdeckapgcaa.Orc
set_option linter.unusedVariables false
set_option linter.unusedSimpArgs false
theorem ev_ints (a : List Int) (ha : a.length ≤ MX) : Ev (fun k => logjamlaw30_Ints.f k a a) true := by
  have hl : ∀ (d i : Nat), i + d = a.length → Ev (fun k => logjamlaw30_Ints.l0 k a a (i : Int)) true := by
    intro d
    induction d with
    | zero => intro i hi; exact Ev.step1 (fun k => by simp only [logjamlaw30_Ints.l0]; rw [if_neg (by omega)])
    | succ d ih =>
      intro i hi
      have hw := Lib.hid (wrap_succ i a.length (by omega) ha)
      exact Ev.step (f := fun k => logjamlaw30_Ints.l0 k a a ((i + 1 : Nat) : Int)) (fun k => by simp only [logjamlaw30_Ints.l0]; rw [if_pos (by omega), if_pos (by omega), if_pos (by omega), if_pos trivial, hw.out]) (ih (i + 1) (by omega))
  exact Ev.congr (f := fun k => logjamlaw30_Ints.l0 k a a ((0 : Nat) : Int)) (fun k => by simp only [logjamlaw30_Ints.f]; rw [if_pos trivial]; rfl) (hl a.length 0 (Nat.zero_add _))
def lvM : List Mk := [⟨2, 0, 1, 3, 4⟩, ⟨1, 1, 2, 3, 4⟩, ⟨3, 0, 1, 0, 0⟩, ⟨3, 1, 2, 0, 0⟩]
theorem lv_ok : okM lvM = true := by decide
theorem lv_ends : endsG lvM 0 [] = [⟨1, 0, 3, 2⟩, ⟨2, 1, 3, 3⟩] := rfl
theorem lv_com : committedG lvM = [1, 2] := by
  unfold committedG
  rw [lv_ends]
  show srt [1, 2] = [1, 2]
  unfold srt
  exact List.mergeSort_of_pairwise (by decide)
theorem lv_serial : serialG lvM = ([1, 2], true) := by
  rw [serial_page, lv_ends]
  decide
theorem ev_lives : Ev (fun k => logjamlaw38_lives.f k) true := by
  have e1 : o_Ends.f lvM = some [⟨1, 0, 3, 2⟩, ⟨2, 1, 3, 3⟩] := by unfold o_Ends.f; rw [if_pos lv_ok, lv_ends]
  have e2 : o_Serial.f lvM = some ([1, 2], true) := by unfold o_Serial.f; rw [if_pos lv_ok, lv_serial]
  have e3 : o_Strict.f lvM = some false := by unfold o_Strict.f; rw [if_pos lv_ok, strict_eq]; decide
  have e4 : o_Strict.f (lvM.take 1) = some true := by unfold o_Strict.f; rw [if_pos (by decide), strict_eq]; decide
  have b1 : befG lvM 1 2 = true := by unfold befG; rw [lv_com]; decide
  have b2 : befG lvM 2 1 = false := by unfold befG; rw [lv_com]; decide
  have h1 := ev_before lvM 1 2 lv_ok
  have h2 := ev_before lvM 2 1 lv_ok
  rw [b1] at h1; rw [b2] at h2
  refine Ev.congr (f := fun k => (history_Before.f k lvM 1 2).bind fun t213 => (if t213 = true then ((history_Before.f k lvM 2 1).bind fun t214 => (if t214 = true then (logjamlaw38_lives.j0 k false) else ((logjamlaw30_Ints.f k [1, 2] [1, 2]).bind fun t218 => (logjamlaw38_lives.j0 k t218)))) else (logjamlaw38_lives.j0 k false))) (fun k => ?_) ?_
  · show (some lvM).bind _ = _
    simp only [Option.bind_some, e1, e2, e3]
    rw [if_pos (by decide), if_pos (by decide), if_pos (by decide), if_neg (by decide), if_pos (by decide), e4]
    simp only [Option.bind_some]
    rw [if_pos trivial]
    congr 1
  · refine Ev.bind h1 (Ev.congr (f := fun k => (history_Before.f k lvM 2 1).bind fun t214 => (if t214 = true then (logjamlaw38_lives.j0 k false) else ((logjamlaw30_Ints.f k [1, 2] [1, 2]).bind fun t218 => (logjamlaw38_lives.j0 k t218)))) (fun k => if_pos rfl) ?_)
    refine Ev.bind h2 (Ev.congr (f := fun k => (logjamlaw30_Ints.f k [1, 2] [1, 2]).bind fun t218 => (logjamlaw38_lives.j0 k t218)) (fun k => if_neg (by simp)) ?_)
    exact Ev.bind (ev_ints [1, 2] (by unfold MX; decide)) (Ev.step1 (fun k => rfl))
theorem inB_of {n : Int} (h : in64 n) : inB n = true := by unfold inB; simp [h.1, h.2]
theorem okM_of {l : List Mk} (hl : l.length ≤ 1000000) (h : ∀ m ∈ l, inM m) : okM l = true := by
  unfold okM
  rw [decide_eq_true hl, Bool.true_and, List.all_eq_true]
  intro m hm
  obtain ⟨h0, h1, h2, h3, h4⟩ := h m hm
  rw [inB_of h0, inB_of h1, inB_of h2, inB_of h3, inB_of h4]; rfl
theorem few_ok {l : List Mk} (h : ∀ m ∈ l, inM m) : okM (l.take 120) = true := okM_of (by simp; omega) (fun m hm => h m (List.mem_of_mem_take hm))
theorem serial_len (m : List Mk) (hm : m.length ≤ 1000000) : (serialG m).1.length ≤ 1000000 := by
  have hp : (committedG m).length ≤ 1000000 := by
    unfold committedG srt; rw [List.length_mergeSort]
    exact Nat.le_trans (Nat.le_trans (comsG_len _) (endsG_len _ _ _)) hm
  have h : ∀ (n : Nat) (left out : List Int), (serG m n left out).1.length ≤ n + out.length := by
    intro n
    induction n with
    | zero => intro left out; simp [serG]
    | succ n ih =>
      intro left out
      unfold serG
      split
      · simp
      · exact Nat.le_trans (ih _ _) (by simp; omega)
  have := h (committedG m).length (committedG m) []
  unfold serialG
  simp at this
  omega
theorem rser_spec (m : List Mk) : ∀ (n : Nat) (left out : List Int), left.length = n → left.Nodup → (∀ b ∈ left, 0 < b) → ∃ p, rser m n left out = (out ++ p, decide (p.length = left.length)) ∧ (∀ x ∈ p, x ∈ left) ∧ p.Pairwise (fun b a => a ≠ b ∧ rconf a b m = false) ∧
    (∀ b ∈ left, b ∉ p → ∃ a ∈ left, a ≠ b ∧ rconf a b m = true)
  | 0, left, out, hn, hd, h0 => by
    obtain rfl := List.eq_nil_of_length_eq_zero hn
    exact ⟨[], by simp [rser], by simp, List.Pairwise.nil, by simp⟩
  | n + 1, left, out, hn, hd, h0 => by
    unfold rser
    obtain ⟨h1, _, h3⟩ := pkR_spec (frR m left) left 0 (Int.le_refl _) h0
    by_cases q : pkR (frR m left) 0 left = 0
    · rw [if_pos q]
      refine ⟨[], by simp; omega, by simp, List.Pairwise.nil, fun b hb _ => ?_⟩
      have hf : frR m left b ≠ true := fun hf => (h3 b hb hf).1 q
      have hf' : left.any (fun a => a != b && rconf a b m) = true := by
        unfold frR at hf
        cases hq : left.any (fun a => a != b && rconf a b m)
        · rw [hq] at hf; exact absurd rfl hf
        · rfl
      obtain ⟨a, ha, hc⟩ := List.any_eq_true.1 hf'
      simp only [Bool.and_eq_true, bne_iff_ne, ne_eq] at hc
      exact ⟨a, ha, hc.1, hc.2⟩
    · rw [if_neg q]
      obtain ⟨hb, hf⟩ : pkR (frR m left) 0 left ∈ left ∧ frR m left (pkR (frR m left) 0 left) = true := by rcases h1 with e | e; exact absurd e q; exact e
      generalize pkR (frR m left) 0 left = b at hb hf q
      have hfl := filter_len left b hd hb
      obtain ⟨p, hp, hin, hpw, hbl⟩ := rser_spec m n (left.filter (fun x => x != b)) (out ++ [b]) (by omega) (hd.sublist List.filter_sublist) (fun c hc => h0 c (List.mem_filter.1 hc).1)
      refine ⟨b :: p, ?_, fun x hx => ?_, ?_, fun c hc hcp => ?_⟩
      · have hde : decide (p.length = (left.filter (fun x => x != b)).length) = decide ((b :: p).length = left.length) := by
          rw [Bool.eq_iff_iff, decide_eq_true_iff, decide_eq_true_iff, List.length_cons]; omega
        rw [hp, List.append_assoc, hde]; rfl
      · rcases List.mem_cons.1 hx with rfl | hx
        · exact hb
        · exact (List.mem_filter.1 (hin x hx)).1
      · refine List.Pairwise.cons (fun a ha => ?_) hpw
        obtain ⟨ha1, ha2⟩ := List.mem_filter.1 (hin a ha)
        have hne : a ≠ b := by simpa using ha2
        refine ⟨hne, ?_⟩
        unfold frR at hf
        simp only [Bool.not_eq_true'] at hf
        have := List.any_eq_false.1 hf a ha1
        simpa [hne] using this
      · have hcb : c ≠ b := fun e => hcp (e ▸ List.mem_cons_self)
        obtain ⟨a, ha, h4, h5⟩ := hbl c (List.mem_filter.2 ⟨hc, by simpa using hcb⟩) (fun h => hcp (List.mem_cons_of_mem _ h))
        exact ⟨a, (List.mem_filter.1 ha).1, h4, h5⟩
theorem serial_spec (m : List Mk) : (serialG m).2 = decide ((serialG m).1.length = (comsG (endsG m 0 [])).length) ∧ (∀ x ∈ (serialG m).1, x ∈ comsG (endsG m 0 [])) ∧ (serialG m).1.Pairwise (fun b a => a ≠ b ∧ rconf a b m = false) ∧
    ∀ b ∈ comsG (endsG m 0 []), b ∉ (serialG m).1 → ∃ a ∈ comsG (endsG m 0 []), a ≠ b ∧ rconf a b m = true := by
  obtain ⟨p, hp, h1, h2, h3⟩ := rser_spec m _ (comsG (endsG m 0 [])) [] rfl (coms_nodup m) (coms_pos m)
  rw [serial_page, hp]
  exact ⟨by simp, by simpa using h1, by simpa using h2, by simpa using h3⟩
theorem ord_l4 (m : List Mk) (out : List Int) (ok : Bool) (x7 : List Int) (x8 x9 reg : Int) (hm : m.length ≤ 1000000) (hx : x7.length ≤ 1000000) (hj : ∀ j ∈ x7, 0 ≤ j ∧ j < m.length) (f : Bool) (r : Bool) (h : Ev (fun k => logjamlaw38_HistoryOrders.j7 k m out ok x7 x8 x9) r) :
    ∀ (d s : Nat) (g : Bool), s + d = x7.length → (f || (g || (x7.drop s).any (fun j => befG m (mkAt m j).f2 reg))) = true → Ev (fun k => logjamlaw38_HistoryOrders.l4 k m out ok x7 x8 x9 reg f g (s : Int)) r := by
  intro d
  induction d with
  | zero =>
    intro s g hs hg
    rw [List.drop_of_length_le (by omega)] at hg
    simp only [List.any_nil, Bool.or_false] at hg
    cases f
    · simp only [Bool.false_or] at hg
      subst hg
      exact Ev.step (fun k => by simp only [logjamlaw38_HistoryOrders.l4]; rw [if_neg (by omega), if_neg (by simp), if_pos trivial]) h
    · exact Ev.step (fun k => by simp only [logjamlaw38_HistoryOrders.l4]; rw [if_neg (by omega), if_pos trivial]) h
  | succ d ih =>
    intro s g hs hg
    have hw := Lib.hid (wrap_succ s x7.length (by omega) (by unfold MX; omega))
    rw [drop_cons' 0 x7 s (by omega), List.any_cons] at hg
    have j6 : ∀ g', (f || (g' || (x7.drop (s + 1)).any (fun j => befG m (mkAt m j).f2 reg))) = true → Ev (fun k => logjamlaw38_HistoryOrders.j6 k m out ok x7 x8 x9 reg f g' (s : Int)) r := fun g' hg' =>
      Ev.step (f := fun k => logjamlaw38_HistoryOrders.l4 k m out ok x7 x8 x9 reg f g' ((s + 1 : Nat) : Int)) (fun k => by simp only [logjamlaw38_HistoryOrders.j6]; rw [hw.out]) (ih (s + 1) g' (by omega) hg')
    cases g
    · obtain ⟨g0, g1⟩ := hj (x7.getD s 0) (getD_mem (by omega))
      have hr : rd x7 (s : Int) = x7.getD s 0 := rfl
      refine Ev.step (f := fun k => (logjamref38_Before.f k m (mkAt m (x7.getD s 0)).f2 reg).bind fun t284 => logjamlaw38_HistoryOrders.j6 k m out ok x7 x8 x9 reg f t284 (s : Int)) (fun k => by simp only [logjamlaw38_HistoryOrders.l4]; rw [if_pos (by omega), if_neg (by simp), if_pos (by omega), hr, if_pos g0, if_pos g1]; rfl) ?_
      exact Ev.bind (ev_rbefore m _ _ hm) (j6 _ (by simpa using hg))
    · exact Ev.step (f := fun k => logjamlaw38_HistoryOrders.j6 k m out ok x7 x8 x9 reg f true (s : Int)) (fun k => by simp only [logjamlaw38_HistoryOrders.l4]; rw [if_pos (by omega), if_pos trivial]) (j6 true (by simp))
theorem ord_l3 (m : List Mk) (out : List Int) (ok : Bool) (x7 : List Int) (x8 x9 reg : Int) (ho : out.length ≤ 1000000) (r : Bool) : ∀ (d s : Nat) (f : Bool), s + d = out.length →
    Ev (fun k => logjamlaw38_HistoryOrders.l4 k m out ok x7 x8 x9 reg (f || (out.drop s).any (fun x => x == reg)) false 0) r → Ev (fun k => logjamlaw38_HistoryOrders.l3 k m out ok x7 x8 x9 reg f false (s : Int)) r := by
  intro d
  induction d with
  | zero =>
    intro s f hs h
    rw [List.drop_of_length_le (by omega)] at h
    simp only [List.any_nil, Bool.or_false] at h
    exact Ev.step (fun k => by simp only [logjamlaw38_HistoryOrders.l3]; rw [if_neg (by omega)]) h
  | succ d ih =>
    intro s f hs h
    have hw := Lib.hid (wrap_succ s out.length (by omega) (by unfold MX; omega))
    rw [drop_cons' 0 out s (by omega), List.any_cons] at h
    have hr : rd out (s : Int) = out.getD s 0 := rfl
    have j4 : ∀ f', Ev (fun k => logjamlaw38_HistoryOrders.l4 k m out ok x7 x8 x9 reg (f' || (out.drop (s + 1)).any (fun x => x == reg)) false 0) r → Ev (fun k => logjamlaw38_HistoryOrders.j4 k m out ok x7 x8 x9 reg f' false (s : Int)) r := fun f' h' =>
      Ev.step (f := fun k => logjamlaw38_HistoryOrders.l3 k m out ok x7 x8 x9 reg f' false ((s + 1 : Nat) : Int)) (fun k => by simp only [logjamlaw38_HistoryOrders.j4]; rw [hw.out]) (ih (s + 1) f' (by omega) h')
    cases f
    · exact Ev.step (f := fun k => logjamlaw38_HistoryOrders.j4 k m out ok x7 x8 x9 reg (out.getD s 0 == reg) false (s : Int)) (fun k => by simp only [logjamlaw38_HistoryOrders.l3]; rw [if_pos (by omega), if_neg (by simp), if_pos (by omega), hr]) (j4 _ (by simpa using h))
    · exact Ev.step (f := fun k => logjamlaw38_HistoryOrders.j4 k m out ok x7 x8 x9 reg true false (s : Int)) (fun k => by simp only [logjamlaw38_HistoryOrders.l3]; rw [if_pos (by omega), if_pos trivial]) (j4 true (by simpa using h))
theorem ord_l2 (m : List Mk) (hok : okM m = true) : ∀ (d i n : Nat), i + d = (ixG m 0 []).length → n ≤ i → n + (comsG (((ixG m 0 []).drop i).map (enAt m))).length = (comsG (endsG m 0 [])).length →
    Ev (fun k => logjamlaw38_HistoryOrders.l2 k m (serialG m).1 (serialG m).2 (ixG m 0 []) (n : Int) (i : Int)) true := by
  have hm := (okM_in hok).1
  have hil : (ixG m 0 []).length ≤ 1000000 := Nat.le_trans (ixG_len m 0 []) hm
  have hix := ixG_in m m 0 [] (Nat.zero_add _)
  obtain ⟨s1, s2, s3, s4⟩ := serial_spec m
  have hcs : (comsG (endsG m 0 [])).length ≤ 1000000 := Nat.le_trans (Nat.le_trans (comsG_len _) (endsG_len _ _ _)) hm
  have hol := serial_len m hm
  have hcom : ∀ j ∈ ixG m 0 [], (mkAt m j).f0 = 3 → (mkAt m j).f2 ∈ comsG (endsG m 0 []) := fun j hj h3 => by
    rw [ends_eq]
    have : ∀ l : List Int, j ∈ l → (mkAt m j).f2 ∈ comsG (l.map (enAt m)) := by
      intro l
      induction l with
      | nil => intro h; cases h
      | cons x r ih =>
        intro h
        rw [List.map_cons, comsG]
        rcases List.mem_cons.1 h with rfl | h
        · rw [if_pos (show (enAt m j).f2 = 3 from h3)]; exact List.mem_cons_self
        · split
          · exact List.mem_cons_of_mem _ (ih h)
          · exact ih h
    exact this _ hj
  have hok2 : ∀ b ∈ comsG (endsG m 0 []), ((serialG m).1.any (fun x => x == b) || (false || (ixG m 0 []).any (fun j => befG m (mkAt m j).f2 b))) = true := fun b hb => by
    by_cases h : b ∈ (serialG m).1
    · rw [show (serialG m).1.any (fun x => x == b) = true from List.any_eq_true.2 ⟨b, h, by simp⟩]; rfl
    · obtain ⟨a, ha, hne, hc⟩ := s4 b hb h
      obtain ⟨e, he, hf⟩ := List.mem_map.1 (comsG_sub a _ ha)
      rw [ends_eq] at he
      obtain ⟨j, hj, rfl⟩ := List.mem_map.1 he
      have : befG m (mkAt m j).f2 b = true := by
        have hf' : (mkAt m j).f2 = a := hf
        rw [hf']
        unfold befG
        rw [decide_eq_true hne, decide_eq_true ((committed_mem m a).2 ha), decide_eq_true ((committed_mem m b).2 hb), hc]; rfl
      rw [show (ixG m 0 []).any (fun j => befG m (mkAt m j).f2 b) = true from List.any_eq_true.2 ⟨j, hj, this⟩]; simp
  intro d
  induction d with
  | zero =>
    intro i n hi hn hc
    rw [List.drop_of_length_le (by omega)] at hc
    simp only [List.map_nil, comsG, List.length_nil, Nat.add_zero] at hc
    have hq : ((serialG m).2 == ((n : Int) == ((serialG m).1.length : Int))) = true := by
      rw [s1, hc]
      by_cases e : (serialG m).1.length = (comsG (endsG m 0 [])).length
      · rw [e]; simp
      · rw [decide_eq_false e, beq_iff_eq]; symm; rw [beq_eq_false_iff_ne]; omega
    exact Ev.step (f := fun k => (logjamlaw38_lives.f k).bind fun t285 => (some t285)) (fun k => by simp only [logjamlaw38_HistoryOrders.l2]; rw [if_neg (by omega), if_pos hq]) (Ev.bind ev_lives (Ev.now _))
  | succ d ih =>
    intro i n hi hn hc
    have hw := Lib.hid (wrap_succ i (ixG m 0 []).length (by omega) (by unfold MX; omega))
    have hwn := Lib.hid (wrap_succ n 1000001 (by omega) (by unfold MX; omega))
    have hmem : (ixG m 0 []).getD i 0 ∈ ixG m 0 [] := getD_mem (by omega)
    obtain ⟨g0, g1⟩ := hix _ hmem
    have hr : rd (ixG m 0 []) (i : Int) = (ixG m 0 []).getD i 0 := rfl
    rw [drop_cons' 0 (ixG m 0 []) i (by omega), List.map_cons, comsG] at hc
    have j7 : ∀ n' : Nat, n' ≤ i + 1 → n' + (comsG (((ixG m 0 []).drop (i + 1)).map (enAt m))).length = (comsG (endsG m 0 [])).length → Ev (fun k => logjamlaw38_HistoryOrders.j7 k m (serialG m).1 (serialG m).2 (ixG m 0 []) (n' : Int) (i : Int)) true := fun n' h1 h2 =>
      Ev.step (f := fun k => logjamlaw38_HistoryOrders.l2 k m (serialG m).1 (serialG m).2 (ixG m 0 []) (n' : Int) ((i + 1 : Nat) : Int)) (fun k => by simp only [logjamlaw38_HistoryOrders.j7]; rw [hw.out]) (ih (i + 1) n' (by omega) h1 h2)
    by_cases q : (mkAt m ((ixG m 0 []).getD i 0)).f0 = 3
    · rw [if_pos (show (enAt m ((ixG m 0 []).getD i 0)).f2 = 3 from q)] at hc
      have q' : (rd_T29 m ((ixG m 0 []).getD i 0)).f0 = 3 := q
      refine Ev.step (f := fun k => logjamlaw38_HistoryOrders.l3 k m (serialG m).1 (serialG m).2 (ixG m 0 []) ((n + 1 : Nat) : Int) (i : Int) (mkAt m ((ixG m 0 []).getD i 0)).f2 false false ((0 : Nat) : Int)) (fun k => by simp only [logjamlaw38_HistoryOrders.l2]; rw [if_pos (by omega), if_pos (by omega), hr, if_pos g0, if_pos g1, if_pos q', hwn.out]; rfl) ?_
      refine ord_l3 m _ _ _ _ _ _ hol _ (serialG m).1.length 0 false (Nat.zero_add _) ?_
      rw [List.drop_zero, Bool.false_or]
      refine ord_l4 m _ _ _ _ _ _ hm hil hix _ _ (j7 (n + 1) (by omega) (by simp only [List.length_cons] at hc; omega)) _ 0 false (Nat.zero_add _) ?_
      rw [List.drop_zero]
      exact hok2 _ (hcom _ hmem q)
    · rw [if_neg (show ¬ (enAt m ((ixG m 0 []).getD i 0)).f2 = 3 from q)] at hc
      have q' : ¬ (rd_T29 m ((ixG m 0 []).getD i 0)).f0 = 3 := q
      exact Ev.step (f := fun k => logjamlaw38_HistoryOrders.j7 k m (serialG m).1 (serialG m).2 (ixG m 0 []) (n : Int) (i : Int)) (fun k => by simp only [logjamlaw38_HistoryOrders.l2]; rw [if_pos (by omega), if_pos (by omega), hr, if_pos g0, if_pos g1, if_neg q']) (j7 n (by omega) hc)
theorem ord_l0 (m : List Mk) (hok : okM m = true) : ∀ (d i : Nat), i + d = (serialG m).1.length → Ev (fun k => logjamlaw38_HistoryOrders.l0 k m (serialG m).1 (serialG m).2 (i : Int)) true := by
  have hm := (okM_in hok).1
  obtain ⟨s1, s2, s3, s4⟩ := serial_spec m
  have hcs : (comsG (endsG m 0 [])).length ≤ 1000000 := Nat.le_trans (Nat.le_trans (comsG_len _) (endsG_len _ _ _)) hm
  have hol := serial_len m hm
  intro d
  induction d with
  | zero =>
    intro i hi
    refine Ev.step (f := fun k => (logjamref38_Ends.f k m).bind fun t274 => (logjamlaw38_HistoryOrders.l2 k m (serialG m).1 (serialG m).2 t274 ((0 : Nat) : Int) ((0 : Nat) : Int))) (fun k => by simp only [logjamlaw38_HistoryOrders.l0]; rw [if_neg (by omega)]; rfl) ?_
    refine Ev.bind (ev_rends m hm) (ord_l2 m hok _ 0 0 (Nat.zero_add _) (Nat.le_refl _) ?_)
    rw [List.drop_zero, ← ends_eq, Nat.zero_add]
  | succ d ih =>
    intro i hi
    have hw := Lib.hid (wrap_succ i (serialG m).1.length (by omega) (by unfold MX; omega))
    have hri : rd (serialG m).1 (i : Int) = (serialG m).1.getD i 0 := rfl
    have hgi : (serialG m).1.getD i 0 = (serialG m).1[i] := by simp [show i < (serialG m).1.length by omega]
    have inner : ∀ (e j : Nat), j + e = i → Ev (fun k => logjamlaw38_HistoryOrders.l1 k m (serialG m).1 (serialG m).2 (i : Int) (j : Int)) true := by
      intro e
      induction e with
      | zero =>
        intro j hj
        exact Ev.step (f := fun k => logjamlaw38_HistoryOrders.l0 k m (serialG m).1 (serialG m).2 ((i + 1 : Nat) : Int)) (fun k => by simp only [logjamlaw38_HistoryOrders.l1]; rw [if_neg (by omega), hw.out]) (ih (i + 1) (by omega))
      | succ e ih2 =>
        intro j hj
        have hwj := Lib.hid (wrap_succ j i (by omega) (by unfold MX; omega))
        have hrj : rd (serialG m).1 (j : Int) = (serialG m).1.getD j 0 := rfl
        have hgj : (serialG m).1.getD j 0 = (serialG m).1[j] := by simp [show j < (serialG m).1.length by omega]
        obtain ⟨hne, hcf⟩ := List.pairwise_iff_getElem.1 s3 j i (by omega) (by omega) (by omega)
        rw [← hgi, ← hgj] at hne hcf
        have hb : befG m ((serialG m).1.getD i 0) ((serialG m).1.getD j 0) = false := by unfold befG; rw [hcf]; simp
        have hbe := ev_rbefore m ((serialG m).1.getD i 0) ((serialG m).1.getD j 0) hm
        rw [hb] at hbe
        refine Ev.step (f := fun k => (logjamref38_Before.f k m ((serialG m).1.getD i 0) ((serialG m).1.getD j 0)).bind fun t271 => (if t271 = true then (some false) else (if ((serialG m).1.getD i 0) = ((serialG m).1.getD j 0) then (some false) else (logjamlaw38_HistoryOrders.l1 k m (serialG m).1 (serialG m).2 (i : Int) ((j + 1 : Nat) : Int))))) (fun k => by simp only [logjamlaw38_HistoryOrders.l1]; rw [if_pos (by omega), if_pos (by omega), if_pos (by omega), if_pos (by omega), if_pos (by omega), hri, hrj, hwj.out]) ?_
        refine Ev.bind hbe (Ev.congr (f := fun k => logjamlaw38_HistoryOrders.l1 k m (serialG m).1 (serialG m).2 (i : Int) ((j + 1 : Nat) : Int)) (fun k => by rw [if_neg (by simp), if_neg hne]) (ih2 (j + 1) (by omega)))
    exact Ev.step (f := fun k => logjamlaw38_HistoryOrders.l1 k m (serialG m).1 (serialG m).2 (i : Int) ((0 : Nat) : Int)) (fun k => by simp only [logjamlaw38_HistoryOrders.l0]; rw [if_pos (by omega)]; rfl) (inner i 0 (Nat.zero_add _))
theorem ev_orders (l : List Mk) (h : ∀ m ∈ l, inM m) : Ev (fun k => logjamlaw38_HistoryOrders.f k l) true := by
  have hok := few_ok h
  have hf := ev_few l
  have h120 : (l.take 120).take 120 = l.take 120 := by rw [List.take_take]; rfl
  generalize l.take 120 = m at hok hf h120
  have hf2 := ev_few m
  rw [h120] at hf2
  have e2 : o_Serial.f m = some (serialG m) := if_pos hok
  refine Ev.congr (f := fun k => (logjamlaw38_few.f k l).bind fun t259 => ((logjamlaw38_few.f k t259).bind fun t262 => ((o_Serial.f t262).bind fun bt265 => (logjamlaw38_HistoryOrders.l0 k t259 bt265.1 bt265.2 0)))) (fun k => rfl) ?_
  refine Ev.bind hf (Ev.bind hf2 (Ev.congr (f := fun k => logjamlaw38_HistoryOrders.l0 k m (serialG m).1 (serialG m).2 ((0 : Nat) : Int)) (fun k => by rw [e2]; rfl) ?_))
  exact ord_l0 m hok _ 0 (Nat.zero_add _)
end Go.Proofs.Ytadepdeckapgcaa.Hi
end

section
namespace Go.Proofs.Ytadepdeckapgcaa.Hi
open Go.RowKit Go.Proofs.YtadepdeckapgcaaW.PrintWords Go.Proofs.Ytadepdeckapgcaa.PHi Go.Proofs.Ytadepdeckapgcaa
set_option linter.unusedVariables false
set_option linter.unusedSimpArgs false
theorem C_of_shape {α β : Type} {S : Sh α} {d : Kd β} (f : α → β) (hsz : d.sz = S.n) {w : World} (hK : ∀ a cs, S.rd w w.heap.size a cs → d.K w (f a) cs) {l : List α} {v : Value} (h : (shL S).rd w w.heap.size l [v]) :
    ∃ A c, v = .slice A (l.map f).length c ∧ Kd.C d w A (l.map f).length (l.map f) ∧ (l.map f).length ≤ c := by
  rcases h with ⟨rfl, a, h⟩ | ⟨b, o, cap, hb, hl, hm, h, hi⟩
  · simp at h; exact ⟨a, 0, h, ⟨rfl, Nat.zero_le _, fun q => absurd q (by simp)⟩, Nat.le_refl _⟩
  · simp at h
    unfold maxLen at hm
    refine ⟨some ⟨b, o, none⟩, cap, by rw [h, List.length_map], ⟨rfl, by rw [List.length_map]; omega, fun _ => ⟨⟨b, o, none⟩, rfl, fun j q hj => ?_⟩⟩, by rw [List.length_map]; exact hl⟩
    rw [List.getElem?_map] at hj
    obtain ⟨x, hx, rfl⟩ := Option.map_eq_some_iff.1 hj
    obtain ⟨hjl, rfl⟩ := List.getElem?_eq_some_iff.1 hx
    obtain ⟨ci, hr, hcl, hcell⟩ := hi j hjl
    refine ⟨ci, hcl.trans hsz.symm, hK _ _ hr, fun i u hu => ?_⟩
    obtain ⟨hil, _⟩ := List.getElem?_eq_some_iff.1 hu
    rw [addr_add, hsz, ← Nat.add_assoc, hcell i (by omega)]
    exact hu
theorem all_of_shape {α : Type} {S : Sh α} {w : World} {p : α → Prop} (hp : ∀ a cs, S.rd w w.heap.size a cs → p a) {l : List α} {cs : List Value} (h : (shL S).rd w w.heap.size l cs) : ∀ a ∈ l, p a := by
  rcases h with ⟨rfl, _⟩ | ⟨b, o, cap, _, _, _, _, hi⟩
  · simp
  · intro a ha
    obtain ⟨i, hi', rfl⟩ := List.getElem_of_mem ha
    obtain ⟨ci, hr, _⟩ := hi i hi'
    exact hp _ _ hr
abbrev shM : Sh (Int × Int × Int × Int × Int) := shP shInt (shP shInt (shP shInt (shP shInt shInt)))
def toMk (x : Int × Int × Int × Int × Int) : Mk := ⟨x.1, x.2.1, x.2.2.1, x.2.2.2.1, x.2.2.2.2⟩
theorem mark_of {w : World} (a : Int × Int × Int × Int × Int) (cs : List Value) (h : shM.rd w w.heap.size a cs) : k29.K w (toMk a) cs := by
  obtain ⟨c1, c2, rfl, _, ⟨rfl, _⟩, ⟨c3, c4, rfl, _, ⟨rfl, _⟩, ⟨c5, c6, rfl, _, ⟨rfl, _⟩, ⟨c7, c8, rfl, _, ⟨rfl, _⟩, ⟨rfl, _⟩⟩⟩⟩⟩ := h
  exact k29_mk w (toMk a)
theorem mark_in {w : World} (a : Int × Int × Int × Int × Int) (cs : List Value) (h : shM.rd w w.heap.size a cs) : inM (toMk a) := by
  obtain ⟨c1, c2, rfl, _, ⟨rfl, h1⟩, ⟨c3, c4, rfl, _, ⟨rfl, h2⟩, ⟨c5, c6, rfl, _, ⟨rfl, h3⟩, ⟨c7, c8, rfl, _, ⟨rfl, h4⟩, ⟨rfl, h5⟩⟩⟩⟩⟩ := h
  exact ⟨h1, h2, h3, h4, h5⟩
theorem marks_in {w : World} {l : List (Int × Int × Int × Int × Int)} {v : Value} (h : (shL shM).rd w w.heap.size l [v]) : ∀ m ∈ l.map toMk, inM m := by
  have := all_of_shape (S := shM) (p := fun a => inM (toMk a)) mark_in h
  intro m hm
  obtain ⟨a, ha, rfl⟩ := List.mem_map.1 hm
  exact this a ha
theorem historyOrdersW (W : World) (v0 : Value) (a0 : List (Int × Int × Int × Int × Int)) (e0 : (shL shM).rd W W.heap.size a0 [v0]) :
    Calls Try.prog 4 #[v0] W fun e w' => e = .returned (.bool true) ∧ Quiet W w' := by
  have hin := marks_in e0
  obtain ⟨A, c, rfl, hC, hc⟩ := C_of_shape (S := shM) (d := k29) toMk rfl mark_of e0
  obtain ⟨k, hk⟩ := (ev_orders (a0.map toMk) hin).rounds
  exact (logjamlaw38_HistoryOrders.calls k A c (a0.map toMk) true W hC hc hk).mono (fun e w' h => ⟨h.1, Fr.of_below h.2⟩)
end Go.Proofs.Ytadepdeckapgcaa.Hi
end
