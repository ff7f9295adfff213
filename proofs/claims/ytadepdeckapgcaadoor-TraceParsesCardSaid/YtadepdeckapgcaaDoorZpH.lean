/- LawTraceParses, part 8: what the proof stands on (merged by wip/shake.py out of the session's texts and of what the print wrote for this claim). -/
import Derived.Test.YtadepdeckapgcaaDoorZpG

section
namespace Go.Proofs.YtadepdeckapgcaaDoor.PTr
open Go.RowKit Go.Proofs.YtadepdeckapgcaaDoor.Orc Go.Proofs.YtadepdeckapgcaaDoorW.PrintWords Go.Proofs.YtadepdeckapgcaaDoorW.PrintLast Go.Proofs.YtadepdeckapgcaaDoorW.PrintMore
attribute [local go_sem] max2_int min2_int max_two min_two max_three min_three max_four min_four
set_option linter.unusedVariables false
set_option linter.unusedSimpArgs false
def logjamref41_Parse.l0 : Nat → ByteArray → List (S72) → Int → Int → Option ((List (S72)) × Int)
 | 0, _, _, _, _ => none
 | k + 1, x0, x4, x5, x6 => if x6 < (x0.size : Int) then (if 0 ≤ x6 then (if (bt x0 x6) = 10 then (if 0 ≤ x5 then (if x5 ≤ x6 then (if x6 ≤ (x0.size : Int) then ((o_read.f (x0.extract (x5 : Int).toNat (x6 : Int).toNat)).bind fun bt301 => (if bt301.2.2.2.2 = true then ((logjamref41_Check.f k bt301.1 bt301.2.1 bt301.2.2.1 bt301.2.2.2.1).bind fun t307 => (if t307 = 0 then (if x4.length < 4398046511104 then (logjamref41_Parse.l0 k x0 (x4 ++ [(⟨bt301.1, bt301.2.1, bt301.2.2.1, bt301.2.2.2.1⟩ : S72)]) (wrap64 (x6 + 1)) (wrap64 (x6 + 1))) else (none)) else (some (([] : List (S72)), 2)))) else (some (([] : List (S72)), 2)))) else (none)) else (none)) else (none)) else (logjamref41_Parse.l0 k x0 x4 x5 (wrap64 (x6 + 1)))) else (none)) else (if x5 < (x0.size : Int) then (some (([] : List (S72)), 2)) else (some (x4, 0)))
def logjamref41_Parse.f (k : Nat) (a0 : ByteArray) : Option ((List (S72)) × Int) := if (a0.size : Int) > 60000 then (some (([] : List (S72)), 4)) else (logjamref41_Parse.l0 k a0 (([] : List (S72))) 0 0)
set_option maxHeartbeats 8000000 in
set_option maxRecDepth 100000 in
theorem logjamref41_Parse.calls (k : Nat) (a0 : ByteArray) (r1 : List (S72)) (r2 : Int) (w : World) (h : logjamref41_Parse.f k a0 = some (r1, r2)) :
  Calls Tryd.prog 53 #[.string a0] w fun e w' => ∃ v0_ : Value, e = .returned (.tuple #[v0_, .int .i64 r2]) ∧ Kd.R k72 72 w' w.heap.size (fun _ => True) v0_ r1 ∧ Below w.heap.size w w' := by
 have hu72 := Tryd.underlying72
 have HB := Aside0.mk (Below.refl w.heap.size w)
 have H : (if (a0.size : Int) > 60000 then (some (([] : List (S72)), 4)) else (logjamref41_Parse.l0 k a0 (([] : List (S72))) 0 0)) = some (r1, r2) := h
 clear h
 by_cases c2 : (a0.size : Int) > 60000
 ·rw [if_pos c2] at H
  have c2b0 : decide (60000 < (a0.size : Int)) = true := decide_eq_true c2
  have c2b1 : decide (60000 < a0.size) = true := decide_eq_true (by omega)
  clear c2
  simp only [Option.some.injEq, Prod.mk.injEq] at H
  obtain ⟨rfl, rfl⟩ := H
  go_enter Tryd.func53, Tryd.ntmps53
  go_wp2
  go_ret2
  exact ⟨_, by first | rfl | (simp [errW_none, errW_some] <;> rfl) | (simp [*, errW_none, errW_some] <;> rfl), by first | exact Kd.R_nil _ _ _ _ _ | exact Kd.N_nil _ _ _ _ _ | exact Kd.V_nil _ _ _ _ _ | exact Kd.Q_nil _ _ _ _ _ | exact Kd.S_nil _ _ _ _ _, by repeat (first | (with_reducible first | exact HB.out | apply below_alloc | apply pw_below_drewN | apply below_drew1) | exact HB.out)⟩
 ·rw [if_neg c2] at H
  have c2b0 : decide (60000 < (a0.size : Int)) = false := decide_eq_false c2
  have c2b1 : decide (60000 < a0.size) = false := decide_eq_false (by omega)
  clear c2
  obtain ⟨y298, hy298⟩ : ∃ y_ : List (S72), y_ = (([] : List (S72))) := ⟨_, rfl⟩
  replace H : (logjamref41_Parse.l0 k a0 y298 0 0) = some (r1, r2) := by first | (rw [hy298]; with_reducible exact H) | (have H2_ := (Option.bind_some _ _).symm.trans H; rw [hy298]; with_reducible exact H2_) | (have H2_ := (Option.bind_some _ _).symm.trans H; with_reducible exact H2_) | with_reducible exact H | (rw [hy298]; exact H) | exact H
  have Ny298 := Aside0.mk hy298
  clear hy298
  have H' := Aside0.mk H
  clear H
  go_enter Tryd.func53, Tryd.ntmps53
  go_wp2_with (first | ((with_reducible refine gate_dst (N := 12) rfl ?_); refine Kd.R_lit k72 _ 72 ?hg (N := 12) ?hd (xs := ([] : List (S72))) (inner := []) (ok := fun _ => True) (okp := fun _ => True) ?hr ?hp (fun _ hk => hk) trivial (Below.refl _ _) (Nat.le_refl _) (by simp) ?_; (case hd => rfl); (case hg => rfl); (case hr => first | (go_simp; done) | (go_simp; rfl)); (case hp => exact (Reps.none _ _)); intro v299 w3 ho4 hb hg_ hnew_; clear hg_ hnew_; (first | rw [← Ny298.out] at ho4 | (simp only [Int.reduceToNat] at ho4; rw [← Ny298.out] at ho4)); have n0_ := Aside0.mk (Kd.R_lower ho4 (below_size (by repeat (first | (with_reducible first | exact HB.out | apply below_alloc | apply pw_below_drewN | apply below_drew1) | exact HB.out)))); have n1_ := Aside0.mk (below_step (by repeat (first | (with_reducible first | exact HB.out | apply below_alloc | apply pw_below_drewN | apply below_drew1) | exact HB.out)) hb); clear HB; have HO300 := n0_; have HB := n1_; clear n0_ n1_; clear hb ho4))
  go_loopg [4, 5, 6] k (fun kq v4 v5 v6 w' => ∃ (x4_1 : List (S72)) (x5_1 : Int) (x6_1 : Int), v5 = .int .i64 x5_1 ∧ v6 = .int .i64 x6_1 ∧ Aside0 (logjamref41_Parse.l0 kq a0 x4_1 x5_1 x6_1 = some (r1, r2)) ∧ Aside0 (kq ≤ k) ∧ Aside0 (Kd.R k72 72 w' w.heap.size (fun _ => True) v4 x4_1) ∧ Aside0 (Below w.heap.size w w'))
  case atStart => exact ⟨(y298), (0), (0), (by first | rfl | (simp; done) | (simp only [emptyNe_, emptyEq_]; done) | (simp [*]; done)), (by first | rfl | (simp; done) | (simp only [emptyNe_, emptyEq_]; done) | (simp [*]; done)), H', ⟨Nat.le_refl _⟩, ⟨by (with_reducible repeat (first | apply Kd.R_alloc | apply Kd.R_drewN | apply Kd.R_drew)); exact HO300.out⟩, ⟨by repeat (first | (with_reducible first | exact HB.out | apply below_alloc | apply pw_below_drewN | apply below_drew1) | exact HB.out)⟩⟩
  case round =>
   clear H'; try clear c2; try clear c2b0; try clear c2b1; try clear p2
   obtain ⟨x4_1, x5_1, x6_1, rfl, rfl, HA, HK1, HO_4, HB⟩ := hrel
   cases gk with
   | zero => exact absurd HA.out (by simp [logjamref41_Parse.l0])
   | succ k1 =>
    have H := HA.out
    clear HA
    simp only [logjamref41_Parse.l0] at H
    by_cases c5 : x6_1 < (a0.size : Int)
    ·rw [if_pos c5] at H
     have c5b0 : decide (x6_1 < (a0.size : Int)) = true := decide_eq_true c5
     clear c5
     by_cases c6 : 0 ≤ x6_1
     ·rw [if_pos c6] at H
      have c6b0 : decide (0 ≤ x6_1) = true := decide_eq_true c6
      clear c6
      by_cases c8 : (bt a0 x6_1) = 10
      ·rw [if_pos c8] at H
       have c8b0 : ((bt a0 x6_1) == 10) = true := beq_iff_eq.mpr c8
       have c8b1 : ((bt a0 x6_1) != 10) = false := bne_eq_false_iff_eq.mpr c8
       clear c8
       by_cases c9 : 0 ≤ x5_1
       ·rw [if_pos c9] at H
        have c9b0 := eq_true c9
        have c9b1 : decide (0 ≤ x5_1) = true := decide_eq_true c9
        clear c9
        by_cases c10 : x5_1 ≤ x6_1
        ·rw [if_pos c10] at H
         have c10b0 := eq_true c10
         have c10b1 : decide (x5_1 ≤ x6_1) = true := decide_eq_true c10
         clear c10
         by_cases c11 : x6_1 ≤ (a0.size : Int)
         ·rw [if_pos c11] at H
          have c11b0 := eq_true c11
          have c11b1 : decide (x6_1 ≤ (a0.size : Int)) = true := decide_eq_true c11
          clear c11
          replace H := Option.bind_eq_some_iff.mp H
          obtain ⟨⟨t301, t302, t303, t304, t305⟩, A120, H⟩ := H
          replace H : (if t305 = true then ((logjamref41_Check.f k1 t301 t302 t303 t304).bind fun t307 => (if t307 = 0 then (if x4_1.length < 4398046511104 then (logjamref41_Parse.l0 k1 a0 (x4_1 ++ [(⟨t301, t302, t303, t304⟩ : S72)]) (wrap64 (x6_1 + 1)) (wrap64 (x6_1 + 1))) else (none)) else (some (([] : List (S72)), 2)))) else (some (([] : List (S72)), 2))) = some (r1, r2) := H
          have A12 := Aside0.mk A120
          clear A120
          by_cases c13 : t305 = true
          ·subst c13
           have H1 : ((logjamref41_Check.f k1 t301 t302 t303 t304).bind fun t307 => (if t307 = 0 then (if x4_1.length < 4398046511104 then (logjamref41_Parse.l0 k1 a0 (x4_1 ++ [(⟨t301, t302, t303, t304⟩ : S72)]) (wrap64 (x6_1 + 1)) (wrap64 (x6_1 + 1))) else (none)) else (some (([] : List (S72)), 2)))) = some (r1, r2) := by rw [if_pos rfl] at H; exact H
           clear H
           have H := H1
           clear H1
           replace H := Option.bind_eq_some_iff.mp H
           obtain ⟨t307, A140, H⟩ := H
           replace H : (if t307 = 0 then (if x4_1.length < 4398046511104 then (logjamref41_Parse.l0 k1 a0 (x4_1 ++ [(⟨t301, t302, t303, t304⟩ : S72)]) (wrap64 (x6_1 + 1)) (wrap64 (x6_1 + 1))) else (none)) else (some (([] : List (S72)), 2))) = some (r1, r2) := H
           have A14 := Aside0.mk A140
           clear A140
           by_cases c15 : t307 = 0
           ·rw [if_pos c15] at H
            have c15b0 : (t307 == 0) = true := beq_iff_eq.mpr c15
            have c15b1 : (t307 != 0) = false := bne_eq_false_iff_eq.mpr c15
            clear c15
            by_cases c16 : x4_1.length < 4398046511104
            ·rw [if_pos c16] at H
             have LMc16 := Aside0.mk c16
             clear c16
             obtain ⟨y308, hy308⟩ : ∃ y_ : List (S72), y_ = (x4_1 ++ [(⟨t301, t302, t303, t304⟩ : S72)]) := ⟨_, rfl⟩
             replace H : (logjamref41_Parse.l0 k1 a0 y308 (wrap64 (x6_1 + 1)) (wrap64 (x6_1 + 1))) = some (r1, r2) := by first | (rw [hy308]; with_reducible exact H) | (have H2_ := (Option.bind_some _ _).symm.trans H; rw [hy308]; with_reducible exact H2_) | (have H2_ := (Option.bind_some _ _).symm.trans H; with_reducible exact H2_) | with_reducible exact H | (rw [hy308]; exact H) | exact H
             have Ny308 := Aside0.mk hy308
             clear hy308
             have H' := Aside0.mk H
             clear H
             have p7 : 0 ≤ (x6_1 : Int) := of_decide_eq_true (by first | (with_reducible assumption) | assumption)
             have q7 : x6_1 < (a0.size : Int) := of_decide_eq_true (by first | (with_reducible assumption) | assumption)
             have hx7 := bt_at a0 x6_1
             replace p7 := eq_true p7
             replace q7 := eq_true q7
             go_wp2_with (first | ((with_reducible refine gate_callee (f := 98) rfl ?_); refine goesL_ (some 28) rfl rfl Tryd.func98 (by kernel_rfl) rfl #[.string (a0.extract (x5_1 : Int).toNat (x6_1 : Int).toNat)] rfl (by (try simp only [List.map_toArray, List.map_cons, List.map_nil]); first | done | rfl | (simp only [List.length_drop, List.length_take]; rfl)) ?_; (with_reducible refine (o_read.calls (a0.extract (x5_1 : Int).toNat (x6_1 : Int).toNat) t301 t302 t303 t304 true _ A12.out).mono ?_); rintro e w17 ⟨rfl, hb⟩; refine ⟨_, rfl, ?_⟩; have n0_ := Aside0.mk (Kd.R_below (by (with_reducible repeat (first | apply Kd.R_alloc | apply Kd.R_drewN | apply Kd.R_drew)); exact HO_4.out) hb); have n1_ := Aside0.mk (below_step (by repeat (first | (with_reducible first | exact HB.out | apply below_alloc | apply pw_below_drewN | apply below_drew1) | exact HB.out)) hb); clear HO_4; clear HB; have HO_4 := n0_; have HB := n1_; clear n0_ n1_; (try clear hb); (try clear hb2); (try clear hk); (try clear hi)) | ((with_reducible refine gate_dst (N := 7) rfl ?_); refine box_event ?hg (N := 7) ?hd (cs := #[.int .i64 0, .int .i64 0, .int .i64 0, .int .i64 0]) (t := 72) ?hr ?_; (case hd => rfl); (case hg => rfl); (case hr => first | (go_simp; done) | (go_simp; rfl)); intro gb306 hg w18 hbox hb; have n0_ := Aside0.mk (Kd.R_below (Kd.R_elderB (by (with_reducible repeat (first | apply Kd.R_alloc | apply Kd.R_drewN | apply Kd.R_drew)); exact HO_4.out) gb306 (Nat.le_of_eq hg.symm)) hb); have n1_ := Aside0.mk (below_step (by repeat (first | (with_reducible first | exact HB.out | apply below_alloc | apply pw_below_drewN | apply below_drew1) | exact HB.out)) hb); have n2_ := Aside0.mk (hbox); have n3_ := Aside0.mk ((by rw [hg]; exact (below_size (by repeat (first | (with_reducible first | exact HB.out | apply below_alloc | apply pw_below_drewN | apply below_drew1) | exact HB.out))) : w.heap.size ≤ gb306)); have n4_ := Aside0.mk ((by rw [hg]; exact (below_size (by repeat (first | (with_reducible first | exact HB.out | apply below_alloc | apply pw_below_drewN | apply below_drew1) | exact HB.out))) : w.heap.size ≤ gb306)); clear HO_4; clear HB; have HO_4 := n0_; have HB := n1_; have BK306 := n2_; have GW306 := n3_; have GE306 := n4_; clear n0_ n1_ n2_ n3_ n4_; clear hb hbox hg; have hcz19_0 : w18.cell? ⟨gb306, 0, none⟩ = some (.int .i64 0) := (blk_cell BK306.out 0).trans rfl; have hcz19_1 : w18.cell? ⟨gb306, 1, none⟩ = some (.int .i64 0) := (blk_cell BK306.out 1).trans rfl; have hcz19_2 : w18.cell? ⟨gb306, 2, none⟩ = some (.int .i64 0) := (blk_cell BK306.out 2).trans rfl; have hcz19_3 : w18.cell? ⟨gb306, 3, none⟩ = some (.int .i64 0) := (blk_cell BK306.out 3).trans rfl; have hfz19_0 := blk_frozen BK306.out 0; have hfz19_1 := blk_frozen BK306.out 1; have hfz19_2 := blk_frozen BK306.out 2; have hfz19_3 := blk_frozen BK306.out 3) | (go_at_call 45; (with_reducible refine (logjamref41_Check.calls k1 t301 t302 t303 t304 t307 _ A14.out).mono ?_); rintro e w20 ⟨rfl, hb⟩; have n0_ := Aside0.mk (Kd.R_below (by (with_reducible repeat (first | apply Kd.R_alloc | apply Kd.R_drewN | apply Kd.R_drew)); exact (Kd.R_mono (Kd.R_far (p := ⟨gb306, 3, none⟩) (Kd.R_far (p := ⟨gb306, 2, none⟩) (Kd.R_far (p := ⟨gb306, 1, none⟩) (Kd.R_far (p := ⟨gb306, 0, none⟩) (Kd.R_mono HO_4.out (fun k_ hk => (⟨hk, hk.2⟩ : _ ∧ k_ ≠ gb306))) (fun _ hk => hk.2) (.int .i64 t301)) (fun _ hk => hk.2) (.int .i64 t302)) (fun _ hk => hk.2) (.int .i64 t303)) (fun _ hk => hk.2) (.int .i64 t304)) (fun _ h_ => h_.1))) hb); have n1_ := Aside0.mk (blk_below (g := gb306) (o := .cells #[.int .i64 t301, .int .i64 t302, .int .i64 t303, .int .i64 t304] 72 (0, 0)) (by (with_reducible repeat (first | refine blk_drewN ?_ _ | refine blk_drew ?_ | refine blk_alloc ?_ _)); refine blk_put (cs := #[.int .i64 t301, .int .i64 t302, .int .i64 t303, .int .i64 0]) ?_ 3 _ rfl; (with_reducible repeat (first | refine blk_drewN ?_ _ | refine blk_drew ?_ | refine blk_alloc ?_ _)); refine blk_put (cs := #[.int .i64 t301, .int .i64 t302, .int .i64 0, .int .i64 0]) ?_ 2 _ rfl; (with_reducible repeat (first | refine blk_drewN ?_ _ | refine blk_drew ?_ | refine blk_alloc ?_ _)); refine blk_put (cs := #[.int .i64 t301, .int .i64 0, .int .i64 0, .int .i64 0]) ?_ 1 _ rfl; (with_reducible repeat (first | refine blk_drewN ?_ _ | refine blk_drew ?_ | refine blk_alloc ?_ _)); refine blk_put (cs := #[.int .i64 0, .int .i64 0, .int .i64 0, .int .i64 0]) ?_ 0 _ rfl; (with_reducible repeat (first | refine blk_drewN ?_ _ | refine blk_drew ?_ | refine blk_alloc ?_ _)); exact BK306.out) hb); have n2_ := Aside0.mk (below_step (by repeat (first | (with_reducible first | exact HB.out | apply below_alloc | apply pw_below_drewN | apply below_drew1 | refine below_set ?_ GE306.out) | exact HB.out)) hb); clear HO_4; clear BK306; clear HB; have HO_4 := n0_; have BK306 := n1_; have HB := n2_; clear n0_ n1_ n2_; (try clear hb); (try clear hb2); (try clear hk); (try clear hi); have hcz21_0 : w20.cell? ⟨gb306, 0, none⟩ = some (.int .i64 t301) := (blk_cell BK306.out 0).trans rfl; have hcz21_1 : w20.cell? ⟨gb306, 1, none⟩ = some (.int .i64 t302) := (blk_cell BK306.out 1).trans rfl; have hcz21_2 : w20.cell? ⟨gb306, 2, none⟩ = some (.int .i64 t303) := (blk_cell BK306.out 2).trans rfl; have hcz21_3 : w20.cell? ⟨gb306, 3, none⟩ = some (.int .i64 t304) := (blk_cell BK306.out 3).trans rfl; have hfz21_0 := blk_frozen BK306.out 0; have hfz21_1 := blk_frozen BK306.out 1; have hfz21_2 := blk_frozen BK306.out 2; have hfz21_3 := blk_frozen BK306.out 3) | ((with_reducible refine gate_builtin (b := .append) (xs := #[.tmp 38, .tmp 40]) rfl ?_); at_builtin; refine Kd.R_append k72 (w0 := w) w.heap.size rfl (.tmp 38) (.tmp 40) 73 72 (.agg #[(.int .i64 0), (.int .i64 0), (.int .i64 0), (.int .i64 0)]) 32 rfl Tryd.underlying73 info72 rfl (by decide) (by omega) u4 x4_1 (⟨t301, t302, t303, t304⟩ : S72) [.int .i64 t301, .int .i64 t302, .int .i64 t303, .int .i64 t304] (fun k_ => k_ ≠ gb306) (fun _ => False) rfl rfl ?aP (fun _ hk => hk.elim) ?aF ?aO ?aB ?aS ?aL ?_; (case aP => exact k72_mkM _ _ _ (⟨t301, t302, t303, t304⟩ : S72)); (case aB => exact (by repeat (first | (with_reducible first | exact HB.out | apply below_alloc | apply pw_below_drewN | apply below_drew1 | refine below_set ?_ GE306.out) | exact HB.out))); (case aF => exact (fun k_ hk => Kd.freshB (g := gb306) (o := .cells #[.int .i64 t301, .int .i64 t302, .int .i64 t303, .int .i64 t304] 72 (0, 0)) (by (with_reducible repeat (first | refine blk_drewN ?_ _ | refine blk_drew ?_ | refine blk_alloc ?_ _)); exact BK306.out) k_ hk)); (case aO => exact (by (with_reducible repeat (first | apply Kd.R_alloc | apply Kd.R_drewN | apply Kd.R_drew)); exact Kd.R_mono HO_4.out (fun _ hk => hk.2))); (case aS => exact (below_size (by repeat (first | (with_reducible first | exact HB.out | apply below_alloc | apply pw_below_drewN | apply below_drew1 | refine below_set ?_ GE306.out) | exact HB.out)))); (case aL => have := LMc16.out; omega); intro v309 w22 ho hb hg hat; rw [← Ny308.out] at ho; have n0_ := Aside0.mk (blk_grown (g := gb306) (o := .cells #[.int .i64 t301, .int .i64 t302, .int .i64 t303, .int .i64 t304] 72 (0, 0)) (by (with_reducible repeat (first | refine blk_drewN ?_ _ | refine blk_drew ?_ | refine blk_alloc ?_ _)); exact BK306.out) hg (Kd.R_away HO_4.out (fun _ hk => hk.2))); have n1_ := Aside0.mk (hb); have n2_ := Aside0.mk (ho); clear BK306; clear HB; clear HO_4; have BK306 := n0_; have HB := n1_; have HO310 := n2_; clear n0_ n1_ n2_; clear ho hb hg hat))
             go_roundg k1
             case measure => have := HK1.out; omega
             case rel => exact ⟨(y308), (wrap64 (x6_1 + 1)), (wrap64 (x6_1 + 1)), (by first | rfl | (simp; done) | (simp only [emptyNe_, emptyEq_]; done) | (simp [*]; done)), (by first | rfl | (simp; done) | (simp only [emptyNe_, emptyEq_]; done) | (simp [*]; done)), H', ⟨by have := HK1.out; omega⟩, ⟨by (with_reducible repeat (first | apply Kd.R_alloc | apply Kd.R_drewN | apply Kd.R_drew)); exact Kd.R_mono HO310.out (fun _ hk => trivial)⟩, ⟨by repeat (first | (with_reducible first | exact HB.out | apply below_alloc | apply pw_below_drewN | apply below_drew1 | refine below_set ?_ GE306.out) | exact HB.out)⟩⟩
            ·rw [if_neg c16] at H
             exact absurd H (by simp)
           ·rw [if_neg c15] at H
            have c15b0 : (t307 == 0) = false := beq_eq_false_iff_ne.mpr c15
            have c15b1 : (t307 != 0) = true := bne_iff_ne.mpr c15
            simp only [Option.some.injEq, Prod.mk.injEq] at H
            obtain ⟨rfl, rfl⟩ := H
            have p7 : 0 ≤ (x6_1 : Int) := of_decide_eq_true (by first | (with_reducible assumption) | assumption)
            have q7 : x6_1 < (a0.size : Int) := of_decide_eq_true (by first | (with_reducible assumption) | assumption)
            have hx7 := bt_at a0 x6_1
            replace p7 := eq_true p7
            replace q7 := eq_true q7
            go_wp2_with (first | ((with_reducible refine gate_callee (f := 98) rfl ?_); refine goesL_ (some 28) rfl rfl Tryd.func98 (by kernel_rfl) rfl #[.string (a0.extract (x5_1 : Int).toNat (x6_1 : Int).toNat)] rfl (by (try simp only [List.map_toArray, List.map_cons, List.map_nil]); first | done | rfl | (simp only [List.length_drop, List.length_take]; rfl)) ?_; (with_reducible refine (o_read.calls (a0.extract (x5_1 : Int).toNat (x6_1 : Int).toNat) t301 t302 t303 t304 true _ A12.out).mono ?_); rintro e w23 ⟨rfl, hb⟩; refine ⟨_, rfl, ?_⟩; have n0_ := Aside0.mk (Kd.R_below (by (with_reducible repeat (first | apply Kd.R_alloc | apply Kd.R_drewN | apply Kd.R_drew)); exact HO_4.out) hb); have n1_ := Aside0.mk (below_step (by repeat (first | (with_reducible first | exact HB.out | apply below_alloc | apply pw_below_drewN | apply below_drew1) | exact HB.out)) hb); clear HO_4; clear HB; have HO_4 := n0_; have HB := n1_; clear n0_ n1_; (try clear hb); (try clear hb2); (try clear hk); (try clear hi)) | ((with_reducible refine gate_dst (N := 7) rfl ?_); refine box_event ?hg (N := 7) ?hd (cs := #[.int .i64 0, .int .i64 0, .int .i64 0, .int .i64 0]) (t := 72) ?hr ?_; (case hd => rfl); (case hg => rfl); (case hr => first | (go_simp; done) | (go_simp; rfl)); intro gb306 hg w24 hbox hb; have n0_ := Aside0.mk (Kd.R_below (Kd.R_elderB (by (with_reducible repeat (first | apply Kd.R_alloc | apply Kd.R_drewN | apply Kd.R_drew)); exact HO_4.out) gb306 (Nat.le_of_eq hg.symm)) hb); have n1_ := Aside0.mk (below_step (by repeat (first | (with_reducible first | exact HB.out | apply below_alloc | apply pw_below_drewN | apply below_drew1) | exact HB.out)) hb); have n2_ := Aside0.mk (hbox); have n3_ := Aside0.mk ((by rw [hg]; exact (below_size (by repeat (first | (with_reducible first | exact HB.out | apply below_alloc | apply pw_below_drewN | apply below_drew1) | exact HB.out))) : w.heap.size ≤ gb306)); have n4_ := Aside0.mk ((by rw [hg]; exact (below_size (by repeat (first | (with_reducible first | exact HB.out | apply below_alloc | apply pw_below_drewN | apply below_drew1) | exact HB.out))) : w.heap.size ≤ gb306)); clear HO_4; clear HB; have HO_4 := n0_; have HB := n1_; have BK306 := n2_; have GW306 := n3_; have GE306 := n4_; clear n0_ n1_ n2_ n3_ n4_; clear hb hbox hg; have hcz25_0 : w24.cell? ⟨gb306, 0, none⟩ = some (.int .i64 0) := (blk_cell BK306.out 0).trans rfl; have hcz25_1 : w24.cell? ⟨gb306, 1, none⟩ = some (.int .i64 0) := (blk_cell BK306.out 1).trans rfl; have hcz25_2 : w24.cell? ⟨gb306, 2, none⟩ = some (.int .i64 0) := (blk_cell BK306.out 2).trans rfl; have hcz25_3 : w24.cell? ⟨gb306, 3, none⟩ = some (.int .i64 0) := (blk_cell BK306.out 3).trans rfl; have hfz25_0 := blk_frozen BK306.out 0; have hfz25_1 := blk_frozen BK306.out 1; have hfz25_2 := blk_frozen BK306.out 2; have hfz25_3 := blk_frozen BK306.out 3) | (go_at_call 45; (with_reducible refine (logjamref41_Check.calls k1 t301 t302 t303 t304 t307 _ A14.out).mono ?_); rintro e w26 ⟨rfl, hb⟩; have n0_ := Aside0.mk (Kd.R_below (by (with_reducible repeat (first | apply Kd.R_alloc | apply Kd.R_drewN | apply Kd.R_drew)); exact (Kd.R_mono (Kd.R_far (p := ⟨gb306, 3, none⟩) (Kd.R_far (p := ⟨gb306, 2, none⟩) (Kd.R_far (p := ⟨gb306, 1, none⟩) (Kd.R_far (p := ⟨gb306, 0, none⟩) (Kd.R_mono HO_4.out (fun k_ hk => (⟨hk, hk.2⟩ : _ ∧ k_ ≠ gb306))) (fun _ hk => hk.2) (.int .i64 t301)) (fun _ hk => hk.2) (.int .i64 t302)) (fun _ hk => hk.2) (.int .i64 t303)) (fun _ hk => hk.2) (.int .i64 t304)) (fun _ h_ => h_.1))) hb); have n1_ := Aside0.mk (blk_below (g := gb306) (o := .cells #[.int .i64 t301, .int .i64 t302, .int .i64 t303, .int .i64 t304] 72 (0, 0)) (by (with_reducible repeat (first | refine blk_drewN ?_ _ | refine blk_drew ?_ | refine blk_alloc ?_ _)); refine blk_put (cs := #[.int .i64 t301, .int .i64 t302, .int .i64 t303, .int .i64 0]) ?_ 3 _ rfl; (with_reducible repeat (first | refine blk_drewN ?_ _ | refine blk_drew ?_ | refine blk_alloc ?_ _)); refine blk_put (cs := #[.int .i64 t301, .int .i64 t302, .int .i64 0, .int .i64 0]) ?_ 2 _ rfl; (with_reducible repeat (first | refine blk_drewN ?_ _ | refine blk_drew ?_ | refine blk_alloc ?_ _)); refine blk_put (cs := #[.int .i64 t301, .int .i64 0, .int .i64 0, .int .i64 0]) ?_ 1 _ rfl; (with_reducible repeat (first | refine blk_drewN ?_ _ | refine blk_drew ?_ | refine blk_alloc ?_ _)); refine blk_put (cs := #[.int .i64 0, .int .i64 0, .int .i64 0, .int .i64 0]) ?_ 0 _ rfl; (with_reducible repeat (first | refine blk_drewN ?_ _ | refine blk_drew ?_ | refine blk_alloc ?_ _)); exact BK306.out) hb); have n2_ := Aside0.mk (below_step (by repeat (first | (with_reducible first | exact HB.out | apply below_alloc | apply pw_below_drewN | apply below_drew1 | refine below_set ?_ GE306.out) | exact HB.out)) hb); clear HO_4; clear BK306; clear HB; have HO_4 := n0_; have BK306 := n1_; have HB := n2_; clear n0_ n1_ n2_; (try clear hb); (try clear hb2); (try clear hk); (try clear hi)))
            go_ret2
            exact ⟨_, by first | rfl | (simp [errW_none, errW_some] <;> rfl) | (simp [*, errW_none, errW_some] <;> rfl), by first | exact Kd.R_nil _ _ _ _ _ | exact Kd.N_nil _ _ _ _ _ | exact Kd.V_nil _ _ _ _ _ | exact Kd.Q_nil _ _ _ _ _ | exact Kd.S_nil _ _ _ _ _, by repeat (first | (with_reducible first | exact HB.out | apply below_alloc | apply pw_below_drewN | apply below_drew1 | refine below_set ?_ GE306.out) | exact HB.out)⟩
          ·replace c13 := Bool.eq_false_iff.mpr c13
           subst c13
           have H1 : (some (([] : List (S72)), 2)) = some (r1, r2) := by rw [if_neg (show ¬ (false = true) by decide)] at H; exact H
           clear H
           have H := H1
           clear H1
           simp only [Option.some.injEq, Prod.mk.injEq] at H
           obtain ⟨rfl, rfl⟩ := H
           have p7 : 0 ≤ (x6_1 : Int) := of_decide_eq_true (by first | (with_reducible assumption) | assumption)
           have q7 : x6_1 < (a0.size : Int) := of_decide_eq_true (by first | (with_reducible assumption) | assumption)
           have hx7 := bt_at a0 x6_1
           replace p7 := eq_true p7
           replace q7 := eq_true q7
           go_wp2_with (first | ((with_reducible refine gate_callee (f := 98) rfl ?_); refine goesL_ (some 28) rfl rfl Tryd.func98 (by kernel_rfl) rfl #[.string (a0.extract (x5_1 : Int).toNat (x6_1 : Int).toNat)] rfl (by (try simp only [List.map_toArray, List.map_cons, List.map_nil]); first | done | rfl | (simp only [List.length_drop, List.length_take]; rfl)) ?_; (with_reducible refine (o_read.calls (a0.extract (x5_1 : Int).toNat (x6_1 : Int).toNat) t301 t302 t303 t304 false _ A12.out).mono ?_); rintro e w27 ⟨rfl, hb⟩; refine ⟨_, rfl, ?_⟩; have n0_ := Aside0.mk (Kd.R_below (by (with_reducible repeat (first | apply Kd.R_alloc | apply Kd.R_drewN | apply Kd.R_drew)); exact HO_4.out) hb); have n1_ := Aside0.mk (below_step (by repeat (first | (with_reducible first | exact HB.out | apply below_alloc | apply pw_below_drewN | apply below_drew1) | exact HB.out)) hb); clear HO_4; clear HB; have HO_4 := n0_; have HB := n1_; clear n0_ n1_; (try clear hb); (try clear hb2); (try clear hk); (try clear hi)) | ((with_reducible refine gate_dst (N := 7) rfl ?_); refine box_event ?hg (N := 7) ?hd (cs := #[.int .i64 0, .int .i64 0, .int .i64 0, .int .i64 0]) (t := 72) ?hr ?_; (case hd => rfl); (case hg => rfl); (case hr => first | (go_simp; done) | (go_simp; rfl)); intro gb306 hg w28 hbox hb; have n0_ := Aside0.mk (Kd.R_below (Kd.R_elderB (by (with_reducible repeat (first | apply Kd.R_alloc | apply Kd.R_drewN | apply Kd.R_drew)); exact HO_4.out) gb306 (Nat.le_of_eq hg.symm)) hb); have n1_ := Aside0.mk (below_step (by repeat (first | (with_reducible first | exact HB.out | apply below_alloc | apply pw_below_drewN | apply below_drew1) | exact HB.out)) hb); have n2_ := Aside0.mk (hbox); have n3_ := Aside0.mk ((by rw [hg]; exact (below_size (by repeat (first | (with_reducible first | exact HB.out | apply below_alloc | apply pw_below_drewN | apply below_drew1) | exact HB.out))) : w.heap.size ≤ gb306)); have n4_ := Aside0.mk ((by rw [hg]; exact (below_size (by repeat (first | (with_reducible first | exact HB.out | apply below_alloc | apply pw_below_drewN | apply below_drew1) | exact HB.out))) : w.heap.size ≤ gb306)); clear HO_4; clear HB; have HO_4 := n0_; have HB := n1_; have BK306 := n2_; have GW306 := n3_; have GE306 := n4_; clear n0_ n1_ n2_ n3_ n4_; clear hb hbox hg; have hcz29_0 : w28.cell? ⟨gb306, 0, none⟩ = some (.int .i64 0) := (blk_cell BK306.out 0).trans rfl; have hcz29_1 : w28.cell? ⟨gb306, 1, none⟩ = some (.int .i64 0) := (blk_cell BK306.out 1).trans rfl; have hcz29_2 : w28.cell? ⟨gb306, 2, none⟩ = some (.int .i64 0) := (blk_cell BK306.out 2).trans rfl; have hcz29_3 : w28.cell? ⟨gb306, 3, none⟩ = some (.int .i64 0) := (blk_cell BK306.out 3).trans rfl; have hfz29_0 := blk_frozen BK306.out 0; have hfz29_1 := blk_frozen BK306.out 1; have hfz29_2 := blk_frozen BK306.out 2; have hfz29_3 := blk_frozen BK306.out 3))
           go_ret2
           exact ⟨_, by first | rfl | (simp [errW_none, errW_some] <;> rfl) | (simp [*, errW_none, errW_some] <;> rfl), by first | exact Kd.R_nil _ _ _ _ _ | exact Kd.N_nil _ _ _ _ _ | exact Kd.V_nil _ _ _ _ _ | exact Kd.Q_nil _ _ _ _ _ | exact Kd.S_nil _ _ _ _ _, by repeat (first | (with_reducible first | exact HB.out | apply below_alloc | apply pw_below_drewN | apply below_drew1 | refine below_set ?_ GE306.out) | exact HB.out)⟩
         ·rw [if_neg c11] at H
          exact absurd H (by simp)
        ·rw [if_neg c10] at H
         exact absurd H (by simp)
       ·rw [if_neg c9] at H
        exact absurd H (by simp)
      ·rw [if_neg c8] at H
       have c8b0 : ((bt a0 x6_1) == 10) = false := beq_eq_false_iff_ne.mpr c8
       have c8b1 : ((bt a0 x6_1) != 10) = true := bne_iff_ne.mpr c8
       have H' := Aside0.mk H
       clear H
       have p7 : 0 ≤ (x6_1 : Int) := of_decide_eq_true (by first | (with_reducible assumption) | assumption)
       have q7 : x6_1 < (a0.size : Int) := of_decide_eq_true (by first | (with_reducible assumption) | assumption)
       have hx7 := bt_at a0 x6_1
       replace p7 := eq_true p7
       replace q7 := eq_true q7
       go_wp2
       go_roundg k1
       case measure => have := HK1.out; omega
       case rel => exact ⟨(x4_1), (x5_1), (wrap64 (x6_1 + 1)), (by first | rfl | (simp; done) | (simp only [emptyNe_, emptyEq_]; done) | (simp [*]; done)), (by first | rfl | (simp; done) | (simp only [emptyNe_, emptyEq_]; done) | (simp [*]; done)), H', ⟨by have := HK1.out; omega⟩, ⟨by (with_reducible repeat (first | apply Kd.R_alloc | apply Kd.R_drewN | apply Kd.R_drew)); exact HO_4.out⟩, ⟨by repeat (first | (with_reducible first | exact HB.out | apply below_alloc | apply pw_below_drewN | apply below_drew1) | exact HB.out)⟩⟩
     ·rw [if_neg c6] at H
      exact absurd H (by simp)
    ·rw [if_neg c5] at H
     have c5b0 : decide (x6_1 < (a0.size : Int)) = false := decide_eq_false c5
     clear c5
     by_cases c30 : x5_1 < (a0.size : Int)
     ·rw [if_pos c30] at H
      have c30b0 : decide (x5_1 < (a0.size : Int)) = true := decide_eq_true c30
      clear c30
      simp only [Option.some.injEq, Prod.mk.injEq] at H
      obtain ⟨rfl, rfl⟩ := H
      go_wp2
      go_ret2
      exact ⟨_, by first | rfl | (simp [errW_none, errW_some] <;> rfl) | (simp [*, errW_none, errW_some] <;> rfl), by first | exact Kd.R_nil _ _ _ _ _ | exact Kd.N_nil _ _ _ _ _ | exact Kd.V_nil _ _ _ _ _ | exact Kd.Q_nil _ _ _ _ _ | exact Kd.S_nil _ _ _ _ _, by repeat (first | (with_reducible first | exact HB.out | apply below_alloc | apply pw_below_drewN | apply below_drew1) | exact HB.out)⟩
     ·rw [if_neg c30] at H
      have c30b0 : decide (x5_1 < (a0.size : Int)) = false := decide_eq_false c30
      clear c30
      simp only [Option.some.injEq, Prod.mk.injEq] at H
      obtain ⟨rfl, rfl⟩ := H
      go_wp2
      go_ret2
      exact ⟨_, by first | rfl | (simp [errW_none, errW_some] <;> rfl) | (simp [*, errW_none, errW_some] <;> rfl), by (with_reducible repeat (first | apply Kd.R_alloc | apply Kd.R_drewN | apply Kd.R_drew)); exact HO_4.out, by repeat (first | (with_reducible first | exact HB.out | apply below_alloc | apply pw_below_drewN | apply below_drew1) | exact HB.out)⟩
def logjamlaw41_TraceParses.j0 : Nat → ByteArray → Bool → Option (Bool)
 | 0, _, _ => none
 | k + 1, x0, x14 => if x14 = true then ((logjamlaw41_lives.f k).bind fun t311 => (some t311)) else ((trace_Parse.f k x0).bind fun bt312 => ((logjamref41_Parse.f k x0).bind fun bt316 => ((logjamlaw41_same.f k bt312.1 bt316.1).bind fun t320 => (if t320 = true then (if bt312.2 = bt316.2 then ((logjamlaw41_lives.f k).bind fun t321 => (some t321)) else (some false)) else (some false)))))
def logjamlaw41_TraceParses.f (k : Nat) (a0 : ByteArray) : Option (Bool) := if (a0.size : Int) > 20000 then (logjamlaw41_TraceParses.j0 k a0 (decide ((a0.size : Int) ≤ 60000))) else (logjamlaw41_TraceParses.j0 k a0 false)
set_option maxHeartbeats 8000000 in
set_option maxRecDepth 100000 in
theorem logjamlaw41_TraceParses.calls (k : Nat) (a0 : ByteArray) (r : Bool) (w : World) (h : logjamlaw41_TraceParses.f k a0 = some r) (hG : Gl w) :
  Calls Tryd.prog 11 #[.string a0] w fun e w' => e = .returned (.bool r) ∧ Below w.heap.size w w' := by
 have HG := Aside0.mk hG
 clear hG
 have HB := Aside0.mk (Below.refl w.heap.size w)
 have H : (if (a0.size : Int) > 20000 then (logjamlaw41_TraceParses.j0 k a0 (decide ((a0.size : Int) ≤ 60000))) else (logjamlaw41_TraceParses.j0 k a0 false)) = some r := h
 clear h
 have HC2 := Aside0.mk H
 clear H
 go_enter Tryd.func11, Tryd.ntmps11
 go_upto_region 1 with (fail)
 go_cut [14] (fun v14 wc => ∃ (kq : Nat) (x14_1 : Bool), v14 = .bool x14_1 ∧ Aside0 (logjamlaw41_TraceParses.j0 kq a0 x14_1 = some r) ∧ Aside0 (kq ≤ k) ∧ Aside0 (Below w.heap.size w wc))
 case first =>
  have H := HC2.out
  clear HC2
  by_cases c3 : (a0.size : Int) > 20000
  ·rw [if_pos c3] at H
   have c3b0 : decide (20000 < (a0.size : Int)) = true := decide_eq_true c3
   have c3b1 : decide (20000 < a0.size) = true := decide_eq_true (by omega)
   clear c3
   (first | rw [c3b0] | (simp only [i64_w, i32_w]; rw [c3b0]) | skip)
   have H' := Aside0.mk H
   clear H
   go_wp2
   go_meet
   case rel => exact ⟨_, (decide ((a0.size : Int) ≤ 60000)), (by first | rfl | (simp; done) | (simp only [emptyNe_, emptyEq_]; done) | (simp [*]; done)), H', ⟨by first | omega | exact Nat.le_refl _⟩, ⟨by repeat (first | (with_reducible first | exact HB.out | apply below_alloc | apply pw_below_drewN | apply below_drew1) | exact HB.out)⟩⟩
  ·rw [if_neg c3] at H
   have c3b0 : decide (20000 < (a0.size : Int)) = false := decide_eq_false c3
   have c3b1 : decide (20000 < a0.size) = false := decide_eq_false (by omega)
   clear c3
   (first | rw [c3b0] | (simp only [i64_w, i32_w]; rw [c3b0]) | skip)
   have H' := Aside0.mk H
   clear H
   go_wp2
   go_meet
   case rel => exact ⟨_, (false), (by first | rfl | (simp; done) | (simp only [emptyNe_, emptyEq_]; done) | (simp [*]; done)), H', ⟨by first | omega | exact Nat.le_refl _⟩, ⟨by repeat (first | (with_reducible first | exact HB.out | apply below_alloc | apply pw_below_drewN | apply below_drew1) | exact HB.out)⟩⟩
 case rest =>
  clear HC2; try clear c1; try clear p2; try clear c3; try clear c3b0; try clear c3b1
  obtain ⟨kq, x14_1, rfl, HA, HJ1, HB⟩ := hcut
  cases kq with
  | zero => exact absurd HA.out (by simp [logjamlaw41_TraceParses.j0])
  | succ kj1 =>
   have H := HA.out
   clear HA
   simp only [logjamlaw41_TraceParses.j0] at H
   by_cases c4 : x14_1 = true
   ·subst c4
    have H1 : ((logjamlaw41_lives.f kj1).bind fun t311 => (some t311)) = some r := by rw [if_pos rfl] at H; exact H
    clear H
    have H := H1
    clear H1
    replace H := Option.bind_eq_some_iff.mp H
    obtain ⟨t311, A50, H⟩ := H
    replace H : (some t311) = some r := H
    have A5 := Aside0.mk A50
    clear A50
    obtain rfl := Option.some.inj H
    go_wp2_with (first | ((with_reducible refine gate_callee (f := 51) rfl ?_); refine goesL_ (some 15) rfl rfl Tryd.func51 (by kernel_rfl) rfl #[] rfl (by (try simp only [List.map_toArray, List.map_cons, List.map_nil]); first | done | rfl | (simp only [List.length_drop, List.length_take]; rfl)) ?_; (with_reducible refine (logjamlaw41_lives.calls kj1  t311 _ A5.out ?side1).mono ?_); (case side1 => exact Gl.below HG.out (by repeat (first | (with_reducible first | exact HB.out | apply below_alloc | apply pw_below_drewN | apply below_drew1) | exact HB.out))); rintro e w6 ⟨rfl, hb⟩; refine ⟨_, rfl, ?_⟩; have n0_ := Aside0.mk (below_step (by repeat (first | (with_reducible first | exact HB.out | apply below_alloc | apply pw_below_drewN | apply below_drew1) | exact HB.out)) hb); clear HB; have HB := n0_; clear n0_; (try clear hb); (try clear hb2); (try clear hk); (try clear hi)))
    go_ret
    exact ⟨by first | rfl | (simp [errW_none, errW_some] <;> rfl) | (simp [*, errW_none, errW_some] <;> rfl), by repeat (first | (with_reducible first | exact HB.out | apply below_alloc | apply pw_below_drewN | apply below_drew1) | exact HB.out)⟩
   ·replace c4 := Bool.eq_false_iff.mpr c4
    subst c4
    have H1 : ((trace_Parse.f kj1 a0).bind fun bt312 => ((logjamref41_Parse.f kj1 a0).bind fun bt316 => ((logjamlaw41_same.f kj1 bt312.1 bt316.1).bind fun t320 => (if t320 = true then (if bt312.2 = bt316.2 then ((logjamlaw41_lives.f kj1).bind fun t321 => (some t321)) else (some false)) else (some false))))) = some r := by rw [if_neg (show ¬ (false = true) by decide)] at H; exact H
    clear H
    have H := H1
    clear H1
    replace H := Option.bind_eq_some_iff.mp H
    obtain ⟨⟨t312, t313⟩, A70, H⟩ := H
    replace H : ((logjamref41_Parse.f kj1 a0).bind fun bt316 => ((logjamlaw41_same.f kj1 t312 bt316.1).bind fun t320 => (if t320 = true then (if t313 = bt316.2 then ((logjamlaw41_lives.f kj1).bind fun t321 => (some t321)) else (some false)) else (some false)))) = some r := H
    have A7 := Aside0.mk A70
    clear A70
    replace H := Option.bind_eq_some_iff.mp H
    obtain ⟨⟨t316, t317⟩, A80, H⟩ := H
    replace H : ((logjamlaw41_same.f kj1 t312 t316).bind fun t320 => (if t320 = true then (if t313 = t317 then ((logjamlaw41_lives.f kj1).bind fun t321 => (some t321)) else (some false)) else (some false))) = some r := H
    have A8 := Aside0.mk A80
    clear A80
    replace H := Option.bind_eq_some_iff.mp H
    obtain ⟨t320, A90, H⟩ := H
    replace H : (if t320 = true then (if t313 = t317 then ((logjamlaw41_lives.f kj1).bind fun t321 => (some t321)) else (some false)) else (some false)) = some r := H
    have A9 := Aside0.mk A90
    clear A90
    by_cases c10 : t320 = true
    ·subst c10
     have H1 : (if t313 = t317 then ((logjamlaw41_lives.f kj1).bind fun t321 => (some t321)) else (some false)) = some r := by rw [if_pos rfl] at H; exact H
     clear H
     have H := H1
     clear H1
     by_cases c11 : t313 = t317
     ·rw [if_pos c11] at H
      have c11b0 : (t313 == t317) = true := beq_iff_eq.mpr c11
      have c11b1 : (t313 != t317) = false := bne_eq_false_iff_eq.mpr c11
      clear c11
      replace H := Option.bind_eq_some_iff.mp H
      obtain ⟨t321, A120, H⟩ := H
      replace H : (some t321) = some r := H
      have A12 := Aside0.mk A120
      clear A120
      obtain rfl := Option.some.inj H
      go_wp2_with (first | ((with_reducible refine gate_callee (f := 52) rfl ?_); refine goesL_ (some 18) rfl rfl Tryd.func52 (by kernel_rfl) rfl #[.string a0] rfl (by (try simp only [List.map_toArray, List.map_cons, List.map_nil]); first | done | rfl | (simp only [List.length_drop, List.length_take]; rfl)) ?_; (with_reducible refine (trace_Parse.calls kj1 a0 t312 t313 _ A7.out ?side1).mono ?_); (case side1 => exact Gl.below HG.out (by repeat (first | (with_reducible first | exact HB.out | apply below_alloc | apply pw_below_drewN | apply below_drew1) | exact HB.out))); rintro e w13 ⟨v314, rfl, ho0, hb⟩; refine ⟨_, rfl, ?_⟩; have n0_ := Aside0.mk (Kd.R_lower ho0 (below_size (by repeat (first | (with_reducible first | exact HB.out | apply below_alloc | apply pw_below_drewN | apply below_drew1) | exact HB.out)))); have n1_ := Aside0.mk (below_step (by repeat (first | (with_reducible first | exact HB.out | apply below_alloc | apply pw_below_drewN | apply below_drew1) | exact HB.out)) hb); clear HB; have HO315 := n0_; have HB := n1_; clear n0_ n1_; (try clear hb); (try clear hb2); (try clear hk); (try clear hi); (try clear ho0)) | ((with_reducible refine gate_callee (f := 53) rfl ?_); refine goesL_ (some 23) rfl rfl Tryd.func53 (by kernel_rfl) rfl #[.string a0] rfl (by (try simp only [List.map_toArray, List.map_cons, List.map_nil]); first | done | rfl | (simp only [List.length_drop, List.length_take]; rfl)) ?_; (with_reducible refine (logjamref41_Parse.calls kj1 a0 t316 t317 _ A8.out).mono ?_); rintro e w14 ⟨v318, rfl, ho0, hb⟩; refine ⟨_, rfl, ?_⟩; have n0_ := Aside0.mk (Kd.R_elder' (by (with_reducible repeat (first | apply Kd.R_alloc | apply Kd.R_drewN | apply Kd.R_drew)); exact HO315.out) (Kd.R_base ho0) hb); have n1_ := Aside0.mk (Kd.R_lower (Kd.R_new' ho0 (Kd.R_lt (by (with_reducible repeat (first | apply Kd.R_alloc | apply Kd.R_drewN | apply Kd.R_drew)); exact HO315.out))) (below_size (by repeat (first | (with_reducible first | exact HB.out | apply below_alloc | apply pw_below_drewN | apply below_drew1) | exact HB.out)))); have n2_ := Aside0.mk (below_step (by repeat (first | (with_reducible first | exact HB.out | apply below_alloc | apply pw_below_drewN | apply below_drew1) | exact HB.out)) hb); clear HO315; clear HB; have HO315 := n0_; have HO319 := n1_; have HB := n2_; clear n0_ n1_ n2_; (try clear hb); (try clear hb2); (try clear hk); (try clear hi); (try clear ho0); obtain ⟨Ao15, co15, eo15⟩ := Kd.R_slice HO315.out; subst eo15; obtain ⟨Ao16, co16, eo16⟩ := Kd.R_slice HO319.out; subst eo16) | ((with_reducible refine gate_callee (f := 54) rfl ?_); refine goesL_ (some 28) rfl rfl Tryd.func54 (by kernel_rfl) rfl #[.slice Ao15 t312.length co15, .slice Ao16 t316.length co16] rfl (by (try simp only [List.map_toArray, List.map_cons, List.map_nil]); first | done | rfl | (simp only [List.length_drop, List.length_take]; rfl)) ?_; (with_reducible refine (logjamlaw41_same.calls kj1 _ _ t312 _ _ t316 true _ ?side1 ?side2 ?side3 ?side4 A9.out).mono ?_); (case side1 => repeat (first | exact (Kd.R_reads' HO315.out).2.2 | (with_reducible refine Kd.C_alloc ?_ _) | (with_reducible refine Kd.C_drewN ?_ _) | (with_reducible refine Kd.C_drew ?_))); (case side2 => exact (Kd.R_reads' HO315.out).2.1); (case side3 => repeat (first | exact (Kd.R_reads' HO319.out).2.2 | (with_reducible refine Kd.C_alloc ?_ _) | (with_reducible refine Kd.C_drewN ?_ _) | (with_reducible refine Kd.C_drew ?_))); (case side4 => exact (Kd.R_reads' HO319.out).2.1); rintro e w' ⟨rfl, ⟨nd, rfl⟩⟩; refine ⟨_, rfl, ?_⟩) | (go_at_call 51; (with_reducible refine (logjamlaw41_lives.calls kj1  t321 _ A12.out ?side1).mono ?_); (case side1 => exact Gl.below HG.out (by repeat (first | (with_reducible first | exact HB.out | apply below_alloc | apply pw_below_drewN | apply below_drew1) | exact HB.out))); rintro e w17 ⟨rfl, hb⟩; have n0_ := Aside0.mk (Kd.R_below (by (with_reducible repeat (first | apply Kd.R_alloc | apply Kd.R_drewN | apply Kd.R_drew)); exact HO315.out) hb); have n1_ := Aside0.mk (Kd.R_below (by (with_reducible repeat (first | apply Kd.R_alloc | apply Kd.R_drewN | apply Kd.R_drew)); exact HO319.out) hb); have n2_ := Aside0.mk (below_step (by repeat (first | (with_reducible first | exact HB.out | apply below_alloc | apply pw_below_drewN | apply below_drew1) | exact HB.out)) hb); clear HO315; clear HO319; clear HB; have HO315 := n0_; have HO319 := n1_; have HB := n2_; clear n0_ n1_ n2_; (try clear hb); (try clear hb2); (try clear hk); (try clear hi)))
      go_ret
      exact ⟨by first | rfl | (simp [errW_none, errW_some] <;> rfl) | (simp [*, errW_none, errW_some] <;> rfl), by repeat (first | (with_reducible first | exact HB.out | apply below_alloc | apply pw_below_drewN | apply below_drew1) | exact HB.out)⟩
     ·rw [if_neg c11] at H
      have c11b0 : (t313 == t317) = false := beq_eq_false_iff_ne.mpr c11
      have c11b1 : (t313 != t317) = true := bne_iff_ne.mpr c11
      obtain rfl := Option.some.inj H
      go_wp2_with (first | ((with_reducible refine gate_callee (f := 52) rfl ?_); refine goesL_ (some 18) rfl rfl Tryd.func52 (by kernel_rfl) rfl #[.string a0] rfl (by (try simp only [List.map_toArray, List.map_cons, List.map_nil]); first | done | rfl | (simp only [List.length_drop, List.length_take]; rfl)) ?_; (with_reducible refine (trace_Parse.calls kj1 a0 t312 t313 _ A7.out ?side1).mono ?_); (case side1 => exact Gl.below HG.out (by repeat (first | (with_reducible first | exact HB.out | apply below_alloc | apply pw_below_drewN | apply below_drew1) | exact HB.out))); rintro e w18 ⟨v314, rfl, ho0, hb⟩; refine ⟨_, rfl, ?_⟩; have n0_ := Aside0.mk (Kd.R_lower ho0 (below_size (by repeat (first | (with_reducible first | exact HB.out | apply below_alloc | apply pw_below_drewN | apply below_drew1) | exact HB.out)))); have n1_ := Aside0.mk (below_step (by repeat (first | (with_reducible first | exact HB.out | apply below_alloc | apply pw_below_drewN | apply below_drew1) | exact HB.out)) hb); clear HB; have HO315 := n0_; have HB := n1_; clear n0_ n1_; (try clear hb); (try clear hb2); (try clear hk); (try clear hi); (try clear ho0)) | ((with_reducible refine gate_callee (f := 53) rfl ?_); refine goesL_ (some 23) rfl rfl Tryd.func53 (by kernel_rfl) rfl #[.string a0] rfl (by (try simp only [List.map_toArray, List.map_cons, List.map_nil]); first | done | rfl | (simp only [List.length_drop, List.length_take]; rfl)) ?_; (with_reducible refine (logjamref41_Parse.calls kj1 a0 t316 t317 _ A8.out).mono ?_); rintro e w19 ⟨v318, rfl, ho0, hb⟩; refine ⟨_, rfl, ?_⟩; have n0_ := Aside0.mk (Kd.R_elder' (by (with_reducible repeat (first | apply Kd.R_alloc | apply Kd.R_drewN | apply Kd.R_drew)); exact HO315.out) (Kd.R_base ho0) hb); have n1_ := Aside0.mk (Kd.R_lower (Kd.R_new' ho0 (Kd.R_lt (by (with_reducible repeat (first | apply Kd.R_alloc | apply Kd.R_drewN | apply Kd.R_drew)); exact HO315.out))) (below_size (by repeat (first | (with_reducible first | exact HB.out | apply below_alloc | apply pw_below_drewN | apply below_drew1) | exact HB.out)))); have n2_ := Aside0.mk (below_step (by repeat (first | (with_reducible first | exact HB.out | apply below_alloc | apply pw_below_drewN | apply below_drew1) | exact HB.out)) hb); clear HO315; clear HB; have HO315 := n0_; have HO319 := n1_; have HB := n2_; clear n0_ n1_ n2_; (try clear hb); (try clear hb2); (try clear hk); (try clear hi); (try clear ho0); obtain ⟨Ao20, co20, eo20⟩ := Kd.R_slice HO315.out; subst eo20; obtain ⟨Ao21, co21, eo21⟩ := Kd.R_slice HO319.out; subst eo21) | ((with_reducible refine gate_callee (f := 54) rfl ?_); refine goesL_ (some 28) rfl rfl Tryd.func54 (by kernel_rfl) rfl #[.slice Ao20 t312.length co20, .slice Ao21 t316.length co21] rfl (by (try simp only [List.map_toArray, List.map_cons, List.map_nil]); first | done | rfl | (simp only [List.length_drop, List.length_take]; rfl)) ?_; (with_reducible refine (logjamlaw41_same.calls kj1 _ _ t312 _ _ t316 true _ ?side1 ?side2 ?side3 ?side4 A9.out).mono ?_); (case side1 => repeat (first | exact (Kd.R_reads' HO315.out).2.2 | (with_reducible refine Kd.C_alloc ?_ _) | (with_reducible refine Kd.C_drewN ?_ _) | (with_reducible refine Kd.C_drew ?_))); (case side2 => exact (Kd.R_reads' HO315.out).2.1); (case side3 => repeat (first | exact (Kd.R_reads' HO319.out).2.2 | (with_reducible refine Kd.C_alloc ?_ _) | (with_reducible refine Kd.C_drewN ?_ _) | (with_reducible refine Kd.C_drew ?_))); (case side4 => exact (Kd.R_reads' HO319.out).2.1); rintro e w' ⟨rfl, ⟨nd, rfl⟩⟩; refine ⟨_, rfl, ?_⟩))
      go_ret
      exact ⟨by first | rfl | (simp [errW_none, errW_some] <;> rfl) | (simp [*, errW_none, errW_some] <;> rfl), by repeat (first | (with_reducible first | exact HB.out | apply below_alloc | apply pw_below_drewN | apply below_drew1) | exact HB.out)⟩
    ·replace c10 := Bool.eq_false_iff.mpr c10
     subst c10
     have H1 : (some false) = some r := by rw [if_neg (show ¬ (false = true) by decide)] at H; exact H
     clear H
     have H := H1
     clear H1
     obtain rfl := Option.some.inj H
     go_wp2_with (first | ((with_reducible refine gate_callee (f := 52) rfl ?_); refine goesL_ (some 18) rfl rfl Tryd.func52 (by kernel_rfl) rfl #[.string a0] rfl (by (try simp only [List.map_toArray, List.map_cons, List.map_nil]); first | done | rfl | (simp only [List.length_drop, List.length_take]; rfl)) ?_; (with_reducible refine (trace_Parse.calls kj1 a0 t312 t313 _ A7.out ?side1).mono ?_); (case side1 => exact Gl.below HG.out (by repeat (first | (with_reducible first | exact HB.out | apply below_alloc | apply pw_below_drewN | apply below_drew1) | exact HB.out))); rintro e w22 ⟨v314, rfl, ho0, hb⟩; refine ⟨_, rfl, ?_⟩; have n0_ := Aside0.mk (Kd.R_lower ho0 (below_size (by repeat (first | (with_reducible first | exact HB.out | apply below_alloc | apply pw_below_drewN | apply below_drew1) | exact HB.out)))); have n1_ := Aside0.mk (below_step (by repeat (first | (with_reducible first | exact HB.out | apply below_alloc | apply pw_below_drewN | apply below_drew1) | exact HB.out)) hb); clear HB; have HO315 := n0_; have HB := n1_; clear n0_ n1_; (try clear hb); (try clear hb2); (try clear hk); (try clear hi); (try clear ho0)) | ((with_reducible refine gate_callee (f := 53) rfl ?_); refine goesL_ (some 23) rfl rfl Tryd.func53 (by kernel_rfl) rfl #[.string a0] rfl (by (try simp only [List.map_toArray, List.map_cons, List.map_nil]); first | done | rfl | (simp only [List.length_drop, List.length_take]; rfl)) ?_; (with_reducible refine (logjamref41_Parse.calls kj1 a0 t316 t317 _ A8.out).mono ?_); rintro e w23 ⟨v318, rfl, ho0, hb⟩; refine ⟨_, rfl, ?_⟩; have n0_ := Aside0.mk (Kd.R_elder' (by (with_reducible repeat (first | apply Kd.R_alloc | apply Kd.R_drewN | apply Kd.R_drew)); exact HO315.out) (Kd.R_base ho0) hb); have n1_ := Aside0.mk (Kd.R_lower (Kd.R_new' ho0 (Kd.R_lt (by (with_reducible repeat (first | apply Kd.R_alloc | apply Kd.R_drewN | apply Kd.R_drew)); exact HO315.out))) (below_size (by repeat (first | (with_reducible first | exact HB.out | apply below_alloc | apply pw_below_drewN | apply below_drew1) | exact HB.out)))); have n2_ := Aside0.mk (below_step (by repeat (first | (with_reducible first | exact HB.out | apply below_alloc | apply pw_below_drewN | apply below_drew1) | exact HB.out)) hb); clear HO315; clear HB; have HO315 := n0_; have HO319 := n1_; have HB := n2_; clear n0_ n1_ n2_; (try clear hb); (try clear hb2); (try clear hk); (try clear hi); (try clear ho0); obtain ⟨Ao24, co24, eo24⟩ := Kd.R_slice HO315.out; subst eo24; obtain ⟨Ao25, co25, eo25⟩ := Kd.R_slice HO319.out; subst eo25) | ((with_reducible refine gate_callee (f := 54) rfl ?_); refine goesL_ (some 28) rfl rfl Tryd.func54 (by kernel_rfl) rfl #[.slice Ao24 t312.length co24, .slice Ao25 t316.length co25] rfl (by (try simp only [List.map_toArray, List.map_cons, List.map_nil]); first | done | rfl | (simp only [List.length_drop, List.length_take]; rfl)) ?_; (with_reducible refine (logjamlaw41_same.calls kj1 _ _ t312 _ _ t316 false _ ?side1 ?side2 ?side3 ?side4 A9.out).mono ?_); (case side1 => repeat (first | exact (Kd.R_reads' HO315.out).2.2 | (with_reducible refine Kd.C_alloc ?_ _) | (with_reducible refine Kd.C_drewN ?_ _) | (with_reducible refine Kd.C_drew ?_))); (case side2 => exact (Kd.R_reads' HO315.out).2.1); (case side3 => repeat (first | exact (Kd.R_reads' HO319.out).2.2 | (with_reducible refine Kd.C_alloc ?_ _) | (with_reducible refine Kd.C_drewN ?_ _) | (with_reducible refine Kd.C_drew ?_))); (case side4 => exact (Kd.R_reads' HO319.out).2.1); rintro e w' ⟨rfl, ⟨nd, rfl⟩⟩; refine ⟨_, rfl, ?_⟩))
     go_ret
     exact ⟨by first | rfl | (simp [errW_none, errW_some] <;> rfl) | (simp [*, errW_none, errW_some] <;> rfl), by repeat (first | (with_reducible first | exact HB.out | apply below_alloc | apply pw_below_drewN | apply below_drew1) | exact HB.out)⟩
end Go.Proofs.YtadepdeckapgcaaDoor.PTr
end

section
namespace Go.Proofs.YtadepdeckapgcaaDoor.Tr
open Go.RowKit Go.Proofs.YtadepdeckapgcaaDoorW.PrintWords Go.Proofs.YtadepdeckapgcaaDoor.PTr Go.Proofs.YtadepdeckapgcaaDoor.Orc
set_option linter.unusedVariables false
set_option linter.unusedSimpArgs false
def L5 : List S72 := [⟨1, 0, 24, 0⟩, ⟨2, 0, 2, 0⟩, ⟨6, -1, 5, 0⟩, ⟨3, 0, 26, 0⟩, ⟨5, 0, 1, 2⟩]
def B5 : List UInt8 := [48, 32, 111, 112, 32, 111, 117, 116, 32, 48, 10, 48, 32, 111, 117, 116, 32, 50, 10, 116, 105, 99, 107, 32, 53, 10, 48, 32, 98, 108, 111, 99, 107, 32, 119, 97, 105, 116, 10, 48, 32, 101, 110, 100, 32, 102, 97, 117, 108, 116, 101, 100, 32, 50, 10]
theorem itoa_dig (n : Nat) (h : n < 10) : Lib.itoa (n : Int) = [UInt8.ofNat (48 + n)] := by rw [Lib.itoa_nonneg, Lib.decDigits_one h]
theorem flat5 : flat L5 = B5 := by
  have e0 : Lib.itoa 0 = [48] := itoa_dig 0 (by decide)
  have e2 : Lib.itoa 2 = [50] := itoa_dig 2 (by decide)
  have e5 : Lib.itoa 5 = [53] := itoa_dig 5 (by decide)
  have n24 : (nmB 24).data.toList = [111, 117, 116] := by decide +kernel
  have n26 : (nmB 26).data.toList = [119, 97, 105, 116] := by decide +kernel
  have d1 : (edB 1).data.toList = [102, 97, 117, 108, 116, 101, 100] := by decide +kernel
  simp only [flat, L5, bytesE]
  rw [line_glue 1 0 24 0 (by decide), line_glue 2 0 2 0 (by decide), line_glue 6 (-1) 5 0 (by decide), line_glue 3 0 26 0 (by decide), line_glue 5 0 1 2 (by decide)]
  simp [wordsL, glue, e0, e2, e5, n24, n26, d1, tickW, opW, outW, blockW, endW, B5]
theorem ok5 : ∀ e ∈ L5, okE e := by
  intro e he
  simp only [L5, List.mem_cons, List.not_mem_nil, or_false] at he
  rcases he with rfl | rfl | rfl | rfl | rfl <;> exact ⟨⟨⟨by decide, by decide⟩, ⟨by decide, by decide⟩, ⟨by decide, by decide⟩, ⟨by decide, by decide⟩⟩, by decide⟩
theorem of5 : trace_Of.f 10 L5 0 = some [⟨1, 0, 24, 0⟩, ⟨2, 0, 2, 0⟩, ⟨3, 0, 26, 0⟩, ⟨5, 0, 1, 2⟩] := by kernel_rfl
theorem lives_ev : Ev (fun k => logjamlaw41_lives.f k) true := by
  have hp := parse_text L5 ok5 (by rw [flat5]; decide)
  rw [flat5] at hp
  unfold logjamlaw41_lives.f
  refine Ev.bind (a := (L5, 0)) hp ?_
  refine Ev.bind (Ev.const fun k => (text_some L5 (fun e he => (ok5 e he).1) (by decide)).trans (congrArg some (textOf_flat L5 [] ok5))) ?_
  refine Ev.congr (fun k => by rw [if_pos rfl, if_pos rfl, if_pos (by rw [mkB_list, List.nil_append, flat5]; rfl), if_pos (by decide), if_pos (by decide), if_pos (by decide)]) ?_
  refine Ev.bind (pcheck 0 0 0 0) ?_
  refine Ev.congr (fun k => by rw [if_pos (by decide)]) ?_
  exact Ev.bind (Ev.of (trace_Of.mono L5 0) of5) (Ev.const fun k => rfl)
theorem same_ev (l : List S72) (hl : l.length ≤ 1000000) : Ev (fun k => logjamlaw41_same.f k l l) true := by
  have key : ∀ (d i : Nat), i + d = l.length → Ev (fun k => logjamlaw41_same.l0 k l l (i : Int)) true := by
    intro d
    induction d with
    | zero =>
      intro i hi
      refine Ev.step1 (fun k => ?_)
      simp only [logjamlaw41_same.l0]
      rw [if_neg (by omega)]
    | succ d ih =>
      intro i hi
      have hw : wrap64 ((i : Int) + 1) = ((i + 1 : Nat) : Int) := by unfold wrap64; omega
      refine Ev.step (f := fun k => logjamlaw41_same.l0 k l l ((i + 1 : Nat) : Int)) (fun k => ?_) (ih (i + 1) (by omega))
      simp only [logjamlaw41_same.l0]
      rw [if_pos (by omega), if_pos (by omega), if_pos (by omega), if_neg (by simp), hw]
  unfold logjamlaw41_same.f
  refine Ev.congr (fun k => by rw [if_pos rfl]) ?_
  exact key l.length 0 (by omega)
theorem flat_len : ∀ l : List S72, l.length ≤ (flat l).length
  | [] => Nat.zero_le _
  | e :: l => by have := flat_len l; simp [flat]; omega
end Go.Proofs.YtadepdeckapgcaaDoor.Tr
end

section
namespace Go.Proofs.YtadepdeckapgcaaDoor.Tr
open Go.RowKit Go.Proofs.YtadepdeckapgcaaDoorW.PrintWords Go.Proofs.YtadepdeckapgcaaDoor.PTr Go.Proofs.YtadepdeckapgcaaDoor.Orc
set_option linter.unusedVariables false
set_option linter.unusedSimpArgs false
theorem nm_ix : ∀ i : Fin 52, ixGo (rdOf ByteArray.empty NM (i.val : Int)) NM 0 = (i.val : Int) := by decide +kernel
theorem nm_ixA (A : Int) (h0 : 0 ≤ A) (h1 : A < 52) : ixGo (nmB A) NM 0 = A := by
  have := nm_ix ⟨A.toNat, by omega⟩
  simp only at this
  rw [show ((A.toNat : Nat) : Int) = A by omega] at this
  exact this
theorem ixGo_at (x : ByteArray) : ∀ (l : List ByteArray) (i : Int), 0 ≤ i → 0 ≤ ixGo x l i → i ≤ ixGo x l i ∧ l[(ixGo x l i - i).toNat]? = some x
  | [], i, h, h0 => by simp [ixGo] at h0
  | y :: l, i, h, h0 => by
    simp only [ixGo] at h0 ⊢
    by_cases e : x = y
    · rw [if_pos e]
      simp [e]
    · rw [if_neg e] at h0 ⊢
      obtain ⟨a, b⟩ := ixGo_at x l (i + 1) (by omega) h0
      refine ⟨by omega, ?_⟩
      rw [show (ixGo x l (i + 1) - i).toNat = (ixGo x l (i + 1) - (i + 1)).toNat + 1 by omega, List.getElem?_cons_succ]
      exact b
theorem nm_of_ix (x : ByteArray) (h : 0 ≤ ixGo x NM 0) : nmB (ixGo x NM 0) = x := by
  have := (ixGo_at x NM 0 (by omega) h).2
  unfold nmB rdOf
  rw [List.getD_eq_getElem?_getD]
  rw [Int.sub_zero] at this
  rw [this]; rfl
theorem ed_of_ix (x : ByteArray) (h : 0 ≤ ixGo x ED 0) : edB (ixGo x ED 0) = x := by
  have := (ixGo_at x ED 0 (by omega) h).2
  unfold edB rdOf
  rw [List.getD_eq_getElem?_getD]
  rw [Int.sub_zero] at this
  rw [this]; rfl
theorem numB_itoa (n : Int) (h : in64 n) : numB (mkB (Lib.itoa n)) = (n, true) := by
  unfold numB; rw [mkB_data]; exact numP_itoa n h
theorem numB_true (w : ByteArray) (h : (numB w).2 = true) : w = mkB (Lib.itoa (numB w).1) := by
  have := numP_true w.data.toList h
  conv => lhs; rw [← mkB_of w]
  rw [this]; rfl
theorem numB_in (w : ByteArray) : in64 (numB w).1 := numP_in _
theorem rd_words (e : S72) (he : okE e) : rdP ((wordsL e.f0 e.f1 e.f2 e.f3).map mkB) = (e.f0, e.f1, e.f2, e.f3, true) := by
  obtain ⟨K, T, A, B⟩ := e
  obtain ⟨⟨hK0, hT, hA, hB⟩, hc⟩ := he
  obtain ⟨k1, k7, h6, _, hn, hed, hB0⟩ := chk_zero (show chk K T A B = 0 from hc)
  have hK : K = 1 ∨ K = 2 ∨ K = 3 ∨ K = 4 ∨ K = 5 ∨ K = 6 ∨ K = 7 := by omega
  dsimp only at hK0 hT hA hB
  unfold wordsL rdP
  rcases hK with rfl | rfl | rfl | rfl | rfl | rfl | rfl
  · have := nm_ixA A (hn (.inl rfl)).1 (hn (.inl rfl)).2
    have h0 := (hn (.inl rfl)).1
    simp [wd, rdOf, mkB_list, mkB_of, numB_itoa, hT, hB, this, h0]
  · obtain rfl := hB0 (by decide) (by decide)
    simp [wd, rdOf, mkB_list, mkB_of, numB_itoa, hT, hA, opW, endW, blockW, outW, wakeW, abortW, kdOf]
  · obtain rfl := hB0 (by decide) (by decide)
    have := nm_ixA A (hn (.inr rfl)).1 (hn (.inr rfl)).2
    have h0 := (hn (.inr rfl)).1
    simp [wd, rdOf, mkB_list, mkB_of, numB_itoa, hT, this, h0, opW, endW, blockW]
  · obtain rfl := hB0 (by decide) (by decide)
    simp [wd, rdOf, mkB_list, mkB_of, numB_itoa, hT, hA, opW, endW, blockW, outW, wakeW, abortW, kdOf]
  · have := ed_back A (hed rfl).1 (hed rfl).2
    have h0 := (hed rfl).1
    simp [wd, rdOf, mkB_list, mkB_of, numB_itoa, hT, hB, this, h0, opW, endW]
  · obtain rfl := hB0 (by decide) (by decide)
    obtain rfl := h6 rfl
    simp [wd, rdOf, mkB_list, mkB_of, numB_itoa, hA]
  · obtain rfl := hB0 (by decide) (by decide)
    simp [wd, rdOf, mkB_list, mkB_of, numB_itoa, hT, hA, opW, endW, blockW, outW, wakeW, abortW, kdOf]
theorem ws3 {ws : List ByteArray} (h : ws.length = 3) : ws = [wd ws 0, wd ws 1, wd ws 2] := by
  match ws, h with
  | [a, b, c], _ => rfl
theorem ws4 {ws : List ByteArray} (h : ws.length = 4) : ws = [wd ws 0, wd ws 1, wd ws 2, wd ws 3] := by
  match ws, h with
  | [a, b, c, d], _ => rfl
theorem ws2 {ws : List ByteArray} (h : ws.length = 2) : ws = [wd ws 0, wd ws 1] := by
  match ws, h with
  | [a, b], _ => rfl
theorem mk_of_list {b : ByteArray} {l : List UInt8} (h : b.toList = l) : b = mkB l := list_inj (by rw [mkB_list]; exact h)
theorem mk_back (b : ByteArray) : mkB b.data.toList = b := mkB_of b
theorem rd_back (ws : List ByteArray) (K T A B : Int) (h : rdP ws = (K, T, A, B, true)) : inE ⟨K, T, A, B⟩ ∧ ws = (wordsL K T A B).map mkB := by
  have i64 : ∀ n : Int, -1 ≤ n → n ≤ 1000 → in64 n := fun n a b => by unfold in64; omega
  have hnm := fun x => ixGo_in x NM 0 (by omega)
  have hed := fun x => ixGo_in x ED 0 (by omega)
  rw [NM_len] at hnm
  rw [ED_len] at hed
  unfold rdP at h
  split at h
  · rename_i c
    simp only [Prod.mk.injEq] at h
    obtain ⟨rfl, rfl, rfl, rfl, h5⟩ := h
    refine ⟨⟨i64 _ (by dsimp only; omega) (by dsimp only; omega), i64 _ (by dsimp only; omega) (by dsimp only; omega), numB_in _, i64 _ (by dsimp only; omega) (by dsimp only; omega)⟩, ?_⟩
    have e := ws2 c.1
    have e0 := mk_of_list c.2
    have e1 := numB_true _ h5
    rw [show wordsL 6 (-1) (numB (wd ws 1)).1 0 = [tickW, Lib.itoa (numB (wd ws 1)).1] from rfl]
    simp only [List.map_cons, List.map_nil]
    rw [← e0, ← e1]; exact e
  split at h
  · simp at h
  split at h
  · rename_i c
    simp only [Prod.mk.injEq, Bool.and_eq_true, decide_eq_true_eq] at h
    obtain ⟨rfl, rfl, rfl, rfl, ⟨h1, h2⟩, h3⟩ := h
    have := hnm (wd ws 2)
    refine ⟨⟨i64 _ (by dsimp only; omega) (by dsimp only; omega), numB_in _, i64 _ this.1 (by dsimp only; omega), numB_in _⟩, ?_⟩
    have e := ws4 c.2
    have e0 := mk_of_list c.1
    have e1 := numB_true _ h1
    have e2 := numB_true _ h2
    have e3 := nm_of_ix _ h3
    rw [show ∀ T A B, wordsL 1 T A B = [Lib.itoa T, opW, (nmB A).data.toList, Lib.itoa B] from fun _ _ _ => rfl]
    simp only [List.map_cons, List.map_nil]
    rw [← e0, ← e1, ← e2, e3, mk_back]; exact e
  split at h
  · rename_i c
    simp only [Prod.mk.injEq, Bool.and_eq_true, decide_eq_true_eq] at h
    obtain ⟨rfl, rfl, rfl, rfl, ⟨h1, h2⟩, h3⟩ := h
    have := hed (wd ws 2)
    refine ⟨⟨i64 _ (by dsimp only; omega) (by dsimp only; omega), numB_in _, i64 _ this.1 (by dsimp only; omega), numB_in _⟩, ?_⟩
    have e := ws4 c.2
    have e0 := mk_of_list c.1
    have e1 := numB_true _ h1
    have e2 := numB_true _ h2
    have e3 := ed_of_ix _ h3
    rw [show ∀ T A B, wordsL 5 T A B = [Lib.itoa T, endW, (edB A).data.toList, Lib.itoa B] from fun _ _ _ => rfl]
    simp only [List.map_cons, List.map_nil]
    rw [← e0, ← e1, ← e2, e3, mk_back]; exact e
  split at h
  · rename_i c
    simp only [Prod.mk.injEq, Bool.and_eq_true, decide_eq_true_eq] at h
    obtain ⟨rfl, rfl, rfl, rfl, h1, h3⟩ := h
    have := hnm (wd ws 2)
    refine ⟨⟨i64 _ (by dsimp only; omega) (by dsimp only; omega), numB_in _, i64 _ this.1 (by dsimp only; omega), i64 _ (by dsimp only; omega) (by dsimp only; omega)⟩, ?_⟩
    have e := ws3 c.2
    have e0 := mk_of_list c.1
    have e1 := numB_true _ h1
    have e3 := nm_of_ix _ h3
    rw [show ∀ T A B, wordsL 3 T A B = [Lib.itoa T, blockW, (nmB A).data.toList] from fun _ _ _ => rfl]
    simp only [List.map_cons, List.map_nil]
    rw [← e0, ← e1, e3, mk_back]; exact e
  · simp only [Prod.mk.injEq, Bool.and_eq_true, decide_eq_true_eq] at h
    obtain ⟨rfl, rfl, rfl, rfl, ⟨⟨h1, h2⟩, h3⟩, h4⟩ := h
    have e := ws3 h3
    have e1 := numB_true _ h1
    have e2 := numB_true _ h2
    unfold kdOf at h4 ⊢
    split at h4
    · rename_i c
      rw [if_pos c]
      refine ⟨⟨i64 _ (by dsimp only; omega) (by dsimp only; omega), numB_in _, numB_in _, i64 _ (by dsimp only; omega) (by dsimp only; omega)⟩, ?_⟩
      have e0 := mk_of_list c
      rw [show ∀ T A B, wordsL 7 T A B = [Lib.itoa T, abortW, Lib.itoa A] from fun _ _ _ => rfl]
      simp only [List.map_cons, List.map_nil]
      rw [← e0, ← e1, ← e2]; exact e
    · rename_i c
      rw [if_neg c]
      split at h4
      · rename_i c
        rw [if_pos c]
        refine ⟨⟨i64 _ (by dsimp only; omega) (by dsimp only; omega), numB_in _, numB_in _, i64 _ (by dsimp only; omega) (by dsimp only; omega)⟩, ?_⟩
        have e0 := mk_of_list c
        rw [show ∀ T A B, wordsL 4 T A B = [Lib.itoa T, wakeW, Lib.itoa A] from fun _ _ _ => rfl]
        simp only [List.map_cons, List.map_nil]
        rw [← e0, ← e1, ← e2]; exact e
      · rename_i c
        rw [if_neg c]
        split at h4
        · rename_i c
          rw [if_pos c]
          refine ⟨⟨i64 _ (by dsimp only; omega) (by dsimp only; omega), numB_in _, numB_in _, i64 _ (by dsimp only; omega) (by dsimp only; omega)⟩, ?_⟩
          have e0 := mk_of_list c
          rw [show ∀ T A B, wordsL 2 T A B = [Lib.itoa T, outW, Lib.itoa A] from fun _ _ _ => rfl]
          simp only [List.map_cons, List.map_nil]
          rw [← e0, ← e1, ← e2]; exact e
        · exact absurd h4 (by decide)
theorem mkB_inj {a b : List UInt8} (h : mkB a = mkB b) : a = b := by rw [← mkB_data a, h, mkB_data]
theorem map_mkB_inj : ∀ {a b : List (List UInt8)}, a.map mkB = b.map mkB → a = b
  | [], [], _ => rfl
  | [], _ :: _, h => by simp at h
  | _ :: _, [], h => by simp at h
  | x :: a, y :: b, h => by
    simp only [List.map_cons, List.cons.injEq] at h
    rw [mkB_inj h.1, map_mkB_inj h.2]
def rdS (s : List UInt8) : Int × Int × Int × Int × Bool := rdP ((pieces 32 s).map mkB)
theorem rdS_line (e : S72) (h : okE e) : rdS (bytesE e) = (e.f0, e.f1, e.f2, e.f3, true) := by
  unfold rdS; rw [pieces_line e h]; exact rd_words e h
theorem rdS_back (s : List UInt8) (K T A B : Int) (h : rdS s = (K, T, A, B, true)) (hc : chk K T A B = 0) : okE ⟨K, T, A, B⟩ ∧ bytesE ⟨K, T, A, B⟩ = s := by
  obtain ⟨hi, hw⟩ := rd_back _ K T A B h
  refine ⟨⟨hi, hc⟩, ?_⟩
  unfold bytesE
  rw [line_glue K T A B hc, ← map_mkB_inj hw, glue_pieces]
theorem oread_some (s : List UInt8) (h : s.length ≤ 60000) : o_read.f (mkB s) = some (rdS s) := by
  unfold o_read.f rdS; rw [if_pos (by rw [mkB_size]; exact h), mkB_data]
theorem rparse_any (s : List UInt8) (hs : s.length ≤ 60000) : ∀ (d i : Nat) (acc : List S72) (fr : Nat), i + d = s.length → fr ≤ i → (∀ b ∈ (s.drop fr).take (i - fr), b ≠ 10) → acc.length ≤ i →
    (∃ l, (∀ e ∈ l, okE e) ∧ s.drop fr = flat l ∧ Ev (fun k => logjamref41_Parse.l0 k (mkB s) acc (fr : Int) (i : Int)) (acc ++ l, 0)) ∨
    ((¬ ∃ l, (∀ e ∈ l, okE e) ∧ s.drop fr = flat l) ∧ Ev (fun k => logjamref41_Parse.l0 k (mkB s) acc (fr : Int) (i : Int)) (([] : List S72), 2))
  | 0, i, acc, fr, hi, hf, hno, ha => by
    have ht : (s.drop fr).take (i - fr) = s.drop fr := List.take_of_length_le (by rw [List.length_drop]; omega)
    rw [ht] at hno
    by_cases c : fr < s.length
    · refine .inr ⟨?_, Ev.step1 (fun k => ?_)⟩
      · rintro ⟨l, hl, e⟩
        cases l with
        | nil =>
          have := congrArg List.length e
          simp [flat] at this; omega
        | cons x l => rw [e] at hno; exact hno 10 (by simp [flat]) rfl
      · simp only [logjamref41_Parse.l0]
        rw [if_neg (by rw [mkB_size]; omega), if_pos (by rw [mkB_size]; omega)]
    · refine .inl ⟨[], by simp, ?_, Ev.step1 (fun k => ?_)⟩
      · rw [List.drop_of_length_le (by omega)]; rfl
      · simp only [logjamref41_Parse.l0]
        rw [if_neg (by rw [mkB_size]; omega), if_neg (by rw [mkB_size]; omega), List.append_nil]
  | d + 1, i, acc, fr, hi, hf, hno, ha => by
    have hlt : i < s.length := by omega
    have hb := bt_mk s i hlt
    have hw : wrap64 ((i : Int) + 1) = ((i + 1 : Nat) : Int) := by unfold wrap64; omega
    have hu := s[i].toNat_lt
    have htk : (s.drop fr).take (i + 1 - fr) = (s.drop fr).take (i - fr) ++ [s[i]] := by
      rw [show i + 1 - fr = (i - fr) + 1 by omega, List.take_add_one, List.getElem?_drop, show fr + (i - fr) = i by omega, List.getElem?_eq_getElem hlt]
      rfl
    by_cases h : s[i] = 10
    · have hd : s.drop fr = (s.drop fr).take (i - fr) ++ 10 :: s.drop (i + 1) := by
        conv => lhs; rw [← List.take_append_drop (i - fr) (s.drop fr)]
        rw [List.drop_drop, show fr + (i - fr) = i by omega, List.drop_eq_getElem_cons hlt, h]
      generalize hp : (s.drop fr).take (i - fr) = p at hno hd
      have hpl : p.length ≤ 60000 := by rw [← hp, List.length_take, List.length_drop]; omega
      have step : ∀ R, Ev (fun k => if (rdS p).2.2.2.2 = true then ((logjamref41_Check.f k (rdS p).1 (rdS p).2.1 (rdS p).2.2.1 (rdS p).2.2.2.1).bind fun t307 => (if t307 = 0 then (if acc.length < 4398046511104 then (logjamref41_Parse.l0 k (mkB s) (acc ++ [(⟨(rdS p).1, (rdS p).2.1, (rdS p).2.2.1, (rdS p).2.2.2.1⟩ : S72)]) ((i + 1 : Nat) : Int) ((i + 1 : Nat) : Int)) else (none)) else (some (([] : List (S72)), 2)))) else (some (([] : List (S72)), 2))) R →
          Ev (fun k => logjamref41_Parse.l0 k (mkB s) acc (fr : Int) (i : Int)) R := by
        intro R hR
        refine Ev.step (f := _) (fun k => by simp only [logjamref41_Parse.l0]; rw [if_pos (by rw [mkB_size]; omega), if_pos (by omega), hb, if_pos (by rw [h]; rfl), if_pos (by omega), if_pos (by omega), if_pos (by rw [mkB_size]; omega), Int.toNat_natCast, Int.toNat_natCast, mk_extract, hp, hw]) ?_
        exact Ev.bind (Ev.const fun k => oread_some p hpl) hR
      by_cases hok : (rdS p).2.2.2.2 = true ∧ chk (rdS p).1 (rdS p).2.1 (rdS p).2.2.1 (rdS p).2.2.2.1 = 0
      · obtain ⟨h1, h2⟩ := hok
        have he := rdS_back p (rdS p).1 (rdS p).2.1 (rdS p).2.2.1 (rdS p).2.2.2.1 (by rw [← h1]) h2
        generalize hE : (⟨(rdS p).1, (rdS p).2.1, (rdS p).2.2.1, (rdS p).2.2.2.1⟩ : S72) = E at he step
        have hR : ∀ R, Ev (fun k => logjamref41_Parse.l0 k (mkB s) (acc ++ [E]) ((i + 1 : Nat) : Int) ((i + 1 : Nat) : Int)) R → Ev (fun k => logjamref41_Parse.l0 k (mkB s) acc (fr : Int) (i : Int)) R := by
          intro R hR
          refine step R (Ev.congr (f := _) (fun k => by rw [if_pos h1]) ?_)
          refine Ev.bind (rcheck _ _ _ _) ?_
          exact Ev.congr (f := _) (fun k => by rw [if_pos h2, if_pos (by omega)]) hR
        rcases rparse_any s hs d (i + 1) (acc ++ [E]) (i + 1) (by omega) (by omega) (by simp) (by simp; omega) with ⟨l, hl, hfl, q⟩ | ⟨hnone, q⟩
        · refine .inl ⟨E :: l, ?_, ?_, ?_⟩
          · intro x hx
            rcases List.mem_cons.1 hx with rfl | hx
            · exact he.1
            · exact hl x hx
          · rw [hd, hfl, ← he.2]; rfl
          · have q := hR _ q
            simpa using q
        · refine .inr ⟨?_, hR _ q⟩
          rintro ⟨l, hl, hfl⟩
          rw [hd] at hfl
          cases l with
          | nil => simp [flat] at hfl
          | cons e l =>
            obtain ⟨x, y⟩ := first_eq hfl hno (line_no10 e (hl e (by simp)))
            exact hnone ⟨l, fun x hx => hl x (by simp [hx]), y⟩
      · refine .inr ⟨?_, ?_⟩
        · rintro ⟨l, hl, hfl⟩
          rw [hd] at hfl
          cases l with
          | nil => simp [flat] at hfl
          | cons e l =>
            have he := hl e (by simp)
            obtain ⟨x, y⟩ := first_eq hfl hno (line_no10 e he)
            apply hok
            have x' : p = bytesE e := x
            rw [x', rdS_line e he]
            exact ⟨rfl, he.2⟩
        · by_cases h1 : (rdS p).2.2.2.2 = true
          · have h2 : ¬ chk (rdS p).1 (rdS p).2.1 (rdS p).2.2.1 (rdS p).2.2.2.1 = 0 := fun q => hok ⟨h1, q⟩
            refine step _ (Ev.congr (f := _) (fun k => by rw [if_pos h1]) ?_)
            refine Ev.bind (rcheck _ _ _ _) ?_
            exact Ev.congr (f := _) (fun k => by rw [if_neg h2]) (Ev.now _)
          · exact step _ (Ev.congr (f := _) (fun k => by rw [if_neg h1]) (Ev.now _))
    · have h2 : s[i].toNat ≠ 10 := fun e => h (UInt8.toNat.inj (by rw [e]; rfl))
      have st : ∀ R, Ev (fun k => logjamref41_Parse.l0 k (mkB s) acc (fr : Int) ((i + 1 : Nat) : Int)) R → Ev (fun k => logjamref41_Parse.l0 k (mkB s) acc (fr : Int) (i : Int)) R := by
        intro R hR
        refine Ev.step (f := _) (fun k => ?_) hR
        simp only [logjamref41_Parse.l0]
        rw [if_pos (by rw [mkB_size]; omega), if_pos (by omega), hb, if_neg (by omega), hw]
      have hno2 : ∀ b ∈ (s.drop fr).take (i + 1 - fr), b ≠ 10 := by
        rw [htk]
        intro b hm
        rcases List.mem_append.1 hm with hm | hm
        · exact hno b hm
        · rw [List.mem_singleton] at hm; rw [hm]; exact h
      rcases rparse_any s hs d (i + 1) acc fr (by omega) (by omega) hno2 (by omega) with ⟨l, a, b, q⟩ | ⟨a, q⟩
      · exact .inl ⟨l, a, b, st _ q⟩
      · exact .inr ⟨a, st _ q⟩
theorem both_parse (s : ByteArray) : ∃ R : List S72 × Int, R.1.length ≤ 1000000 ∧ Ev (fun k => trace_Parse.f k s) R ∧ Ev (fun k => logjamref41_Parse.f k s) R := by
  by_cases hs : 60000 < s.size
  · refine ⟨([], 4), by simp, parse_long s hs, ?_⟩
    unfold logjamref41_Parse.f
    exact Ev.const fun k => by rw [if_pos (by omega)]
  · have hsl : s.data.toList.length ≤ 60000 := by rw [← Lib.size_eq]; omega
    have hf : ∀ R, Ev (fun k => trace_Parse.l0 k (mkB s.data.toList) []) R → Ev (fun k => trace_Parse.f k s) R := by
      intro R hR
      rw [mkB_of] at hR
      unfold trace_Parse.f
      exact Ev.congr (fun k => by rw [if_neg (by omega)]) hR
    have hg : ∀ R, Ev (fun k => logjamref41_Parse.l0 k (mkB s.data.toList) [] 0 0) R → Ev (fun k => logjamref41_Parse.f k s) R := by
      intro R hR
      rw [mkB_of] at hR
      unfold logjamref41_Parse.f
      exact Ev.congr (fun k => by rw [if_neg (by omega)]) hR
    have r := rparse_any s.data.toList hsl s.data.toList.length 0 [] 0 (by omega) (by omega) (by simp) (by simp)
    rw [List.drop_zero] at r
    rcases parse_any 60000 s.data.toList [] hsl hsl (by simp) with ⟨m, hm, he, hE⟩ | ⟨hno, hE⟩
    · have hml := flat_len m
      rw [← he] at hml
      refine ⟨(m, 0), by dsimp only; omega, hf _ (by simpa using hE), ?_⟩
      rcases r with ⟨l, hl, hle, q⟩ | ⟨hno, q⟩
      · have : l = m := flat_inj l m hl hm (hle.symm.trans he)
        subst this
        exact hg _ (by simpa using q)
      · exact absurd ⟨m, hm, he⟩ hno
    · refine ⟨([], 2), by simp, hf _ hE, ?_⟩
      rcases r with ⟨l, hl, hle, q⟩ | ⟨_, q⟩
      · exact absurd ⟨l, hl, hle⟩ hno
      · exact hg _ q
theorem parses_pure (s : ByteArray) : Ev (fun k => logjamlaw41_TraceParses.f k s) true := by
  have hj : ∀ b, Ev (fun k => logjamlaw41_TraceParses.j0 k s b) true := by
    intro b
    cases b with
    | true =>
      refine Ev.step (f := _) (fun k => by simp only [logjamlaw41_TraceParses.j0]; rw [if_pos trivial]) ?_
      exact Ev.bind lives_ev (Ev.now _)
    | false =>
      obtain ⟨R, hl, h1, h2⟩ := both_parse s
      refine Ev.step (f := _) (fun k => by simp only [logjamlaw41_TraceParses.j0]; rw [if_neg Bool.false_ne_true]) ?_
      refine Ev.bind h1 ?_
      refine Ev.bind h2 ?_
      refine Ev.bind (same_ev R.1 hl) ?_
      refine Ev.congr (f := _) (fun k => by rw [if_pos rfl, if_pos rfl]) ?_
      exact Ev.bind lives_ev (Ev.now _)
  unfold logjamlaw41_TraceParses.f
  by_cases c : (s.size : Int) > 20000
  · exact Ev.congr (f := _) (fun k => by rw [if_pos c]) (hj _)
  · exact Ev.congr (f := _) (fun k => by rw [if_neg c]) (hj _)
theorem traceParsesW (W : World) (hG : Gl W) (a0 : ByteArray) :
    Calls Tryd.prog 11 #[.string a0] W fun e w' => e = .returned (.bool true) ∧ Below W.heap.size W w' := by
  obtain ⟨k, hk⟩ := (parses_pure a0).rounds
  exact logjamlaw41_TraceParses.calls k a0 true W hk hG
end Go.Proofs.YtadepdeckapgcaaDoor.Tr
end
