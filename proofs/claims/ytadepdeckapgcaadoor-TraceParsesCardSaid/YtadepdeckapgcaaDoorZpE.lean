/- LawTraceParses, part 5: what the proof stands on (merged by wip/shake.py out of the session's texts and of what the print wrote for this claim). -/
import Derived.ArgAppend
import Derived.Below
import Derived.BigQuiet
import Derived.Deep.AppendLies
import Derived.Deep.CutBlock
import Derived.Deep.DeepCutAuto
import Derived.Deep.Draws
import Derived.Deep.LoopGhost
import Derived.Deep.OwnRows
import Derived.Deep.QuietTactic
import Derived.Deep.RegionHeld3
import Derived.KernelRfl
import Derived.Laws.BitsLemmas
import Derived.Laws.BytesArg
import Derived.Laws.IdiomCopy
import Derived.Laws.MakeOwn
import Derived.Laws.OwnMore
import Derived.Laws.Rows
import Derived.Laws.Slices
import Derived.Lib.AppendStr
import Derived.Lib.ConvBytes
import Derived.Maps.AppendAt
import Derived.OrdersHeld
import Derived.OwnWalk
import Derived.RowKit
import Derived.RowKit3
import Derived.Tactics
import Derived.Test.YtadepdeckapgcaaDoorProg
import Derived.WalkKit
import Derived.WideLaws
import Derived.Test.YtadepdeckapgcaaDoorZpD

section
namespace Go.Proofs.YtadepdeckapgcaaDoor.PTr
open Go.RowKit Go.Proofs.YtadepdeckapgcaaDoor.Orc Go.Proofs.YtadepdeckapgcaaDoorW.PrintWords Go.Proofs.YtadepdeckapgcaaDoorW.PrintLast Go.Proofs.YtadepdeckapgcaaDoorW.PrintMore
attribute [local go_sem] max2_int min2_int max_two min_two max_three min_three max_four min_four
set_option linter.unusedVariables false
set_option linter.unusedSimpArgs false
attribute [local go_sem high] eqA72
def trace_Parse.l0 : Nat → ByteArray → List (S72) → Option ((List (S72)) × Int)
 | 0, _, _ => none
 | k + 1, x0, x4 => if x0.toList = ([] : List UInt8) then (some (x4, 0)) else ((o_Cut.f x0 (⟨#[10]⟩ : ByteArray)).bind fun bt206 => ((o_Split.f bt206.1 (⟨#[32]⟩ : ByteArray)).bind fun t209 => ((trace_guess.f k t209).bind fun bt212 => ((trace_Line.f k bt212.1 bt212.2.1 bt212.2.2.1 bt212.2.2.2).bind fun bt217 => (if bt206.2.2 = true then (if bt217.2 = 0 then (if bt217.1.toList = bt206.1.toList then (if x4.length < 4398046511104 then (trace_Parse.l0 k bt206.2.1 (x4 ++ [(⟨bt212.1, bt212.2.1, bt212.2.2.1, bt212.2.2.2⟩ : S72)])) else (none)) else (some (([] : List (S72)), 2))) else (some (([] : List (S72)), 2))) else (some (([] : List (S72)), 2)))))))
def trace_Parse.f (k : Nat) (a0 : ByteArray) : Option ((List (S72)) × Int) := if (a0.size : Int) > 60000 then (some (([] : List (S72)), 4)) else (trace_Parse.l0 k a0 ([] : List (S72)))
set_option maxHeartbeats 8000000 in
set_option maxRecDepth 100000 in
theorem trace_Parse.calls (k : Nat) (a0 : ByteArray) (r1 : List (S72)) (r2 : Int) (w : World) (h : trace_Parse.f k a0 = some (r1, r2)) (hG : Gl w) :
  Calls Tryd.prog 52 #[.string a0] w fun e w' => ∃ v0_ : Value, e = .returned (.tuple #[v0_, .int .i64 r2]) ∧ Kd.R k72 72 w' w.heap.size (fun _ => True) v0_ r1 ∧ Below w.heap.size w w' := by
 have HG := Aside0.mk hG
 clear hG
 have hu72 := Tryd.underlying72
 have HB := Aside0.mk (Below.refl w.heap.size w)
 have H : (if (a0.size : Int) > 60000 then (some (([] : List (S72)), 4)) else (trace_Parse.l0 k a0 ([] : List (S72)))) = some (r1, r2) := h
 clear h
 by_cases c2 : (a0.size : Int) > 60000
 ·rw [if_pos c2] at H
  have c2b0 : decide (60000 < (a0.size : Int)) = true := decide_eq_true c2
  have c2b1 : decide (60000 < a0.size) = true := decide_eq_true (by omega)
  clear c2
  simp only [Option.some.injEq, Prod.mk.injEq] at H
  obtain ⟨rfl, rfl⟩ := H
  go_enter Tryd.func52, Tryd.ntmps52
  go_wp2
  go_ret2
  exact ⟨_, by first | rfl | (simp [errW_none, errW_some] <;> rfl) | (simp [*, errW_none, errW_some] <;> rfl), by first | exact Kd.R_nil _ _ _ _ _ | exact Kd.N_nil _ _ _ _ _ | exact Kd.V_nil _ _ _ _ _ | exact Kd.Q_nil _ _ _ _ _ | exact Kd.S_nil _ _ _ _ _, by repeat (first | (with_reducible first | exact HB.out | apply below_alloc | apply pw_below_drewN | apply below_drew1) | exact HB.out)⟩
 ·rw [if_neg c2] at H
  have c2b0 : decide (60000 < (a0.size : Int)) = false := decide_eq_false c2
  have c2b1 : decide (60000 < a0.size) = false := decide_eq_false (by omega)
  clear c2
  have H' := Aside0.mk H
  clear H
  go_enter Tryd.func52, Tryd.ntmps52
  go_wp2
  go_loopg [0, 4] k (fun kq v0 v4 w' => ∃ (x0_1 : ByteArray) (x4_1 : List (S72)), v0 = .string x0_1 ∧ Aside0 (trace_Parse.l0 kq x0_1 x4_1 = some (r1, r2)) ∧ Aside0 (kq ≤ k) ∧ Aside0 (Kd.R k72 72 w' w.heap.size (fun _ => True) v4 x4_1) ∧ Aside0 (Below w.heap.size w w'))
  case atStart => exact ⟨(a0), (([] : List (S72))), (by first | rfl | (simp; done) | (simp only [emptyNe_, emptyEq_]; done) | (simp [*]; done)), H', ⟨Nat.le_refl _⟩, ⟨by first | exact Kd.R_nil _ _ _ _ _ | exact Kd.N_nil _ _ _ _ _ | exact Kd.V_nil _ _ _ _ _ | exact Kd.Q_nil _ _ _ _ _ | exact Kd.S_nil _ _ _ _ _⟩, ⟨by repeat (first | (with_reducible first | exact HB.out | apply below_alloc | apply pw_below_drewN | apply below_drew1) | exact HB.out)⟩⟩
  case round =>
   clear H'; try clear c2; try clear c2b0; try clear c2b1; try clear p2
   obtain ⟨x0_1, x4_1, rfl, HA, HK1, HO_4, HB⟩ := hrel
   cases gk with
   | zero => exact absurd HA.out (by simp [trace_Parse.l0])
   | succ k1 =>
    have H := HA.out
    clear HA
    simp only [trace_Parse.l0] at H
    by_cases c3 : x0_1.toList = ([] : List UInt8)
    ·rw [if_pos c3] at H
     have c3b0 : (x0_1.toList == ([] : List UInt8)) = true := beq_iff_eq.mpr c3
     have c3b1 : (x0_1.toList != ([] : List UInt8)) = false := bne_eq_false_iff_eq.mpr c3
     clear c3
     simp only [Option.some.injEq, Prod.mk.injEq] at H
     obtain ⟨rfl, rfl⟩ := H
     go_wp2
     go_ret2
     exact ⟨_, by first | rfl | (simp [errW_none, errW_some] <;> rfl) | (simp [*, errW_none, errW_some] <;> rfl), by (with_reducible repeat (first | apply Kd.R_alloc | apply Kd.R_drewN | apply Kd.R_drew)); exact HO_4.out, by repeat (first | (with_reducible first | exact HB.out | apply below_alloc | apply pw_below_drewN | apply below_drew1) | exact HB.out)⟩
    ·rw [if_neg c3] at H
     have c3b0 : (x0_1.toList == ([] : List UInt8)) = false := beq_eq_false_iff_ne.mpr c3
     have c3b1 : (x0_1.toList != ([] : List UInt8)) = true := bne_iff_ne.mpr c3
     replace H := Option.bind_eq_some_iff.mp H
     obtain ⟨⟨t206, t207, t208⟩, A40, H⟩ := H
     replace H : ((o_Split.f t206 (⟨#[32]⟩ : ByteArray)).bind fun t209 => ((trace_guess.f k1 t209).bind fun bt212 => ((trace_Line.f k1 bt212.1 bt212.2.1 bt212.2.2.1 bt212.2.2.2).bind fun bt217 => (if t208 = true then (if bt217.2 = 0 then (if bt217.1.toList = t206.toList then (if x4_1.length < 4398046511104 then (trace_Parse.l0 k1 t207 (x4_1 ++ [(⟨bt212.1, bt212.2.1, bt212.2.2.1, bt212.2.2.2⟩ : S72)])) else (none)) else (some (([] : List (S72)), 2))) else (some (([] : List (S72)), 2))) else (some (([] : List (S72)), 2)))))) = some (r1, r2) := H
     have A4 := Aside0.mk A40
     clear A40
     replace H := Option.bind_eq_some_iff.mp H
     obtain ⟨t209, A50, H⟩ := H
     replace H : ((trace_guess.f k1 t209).bind fun bt212 => ((trace_Line.f k1 bt212.1 bt212.2.1 bt212.2.2.1 bt212.2.2.2).bind fun bt217 => (if t208 = true then (if bt217.2 = 0 then (if bt217.1.toList = t206.toList then (if x4_1.length < 4398046511104 then (trace_Parse.l0 k1 t207 (x4_1 ++ [(⟨bt212.1, bt212.2.1, bt212.2.2.1, bt212.2.2.2⟩ : S72)])) else (none)) else (some (([] : List (S72)), 2))) else (some (([] : List (S72)), 2))) else (some (([] : List (S72)), 2))))) = some (r1, r2) := H
     have A5 := Aside0.mk A50
     clear A50
     replace H := Option.bind_eq_some_iff.mp H
     obtain ⟨⟨t212, t213, t214, t215⟩, A60, H⟩ := H
     replace H : ((trace_Line.f k1 t212 t213 t214 t215).bind fun bt217 => (if t208 = true then (if bt217.2 = 0 then (if bt217.1.toList = t206.toList then (if x4_1.length < 4398046511104 then (trace_Parse.l0 k1 t207 (x4_1 ++ [(⟨t212, t213, t214, t215⟩ : S72)])) else (none)) else (some (([] : List (S72)), 2))) else (some (([] : List (S72)), 2))) else (some (([] : List (S72)), 2)))) = some (r1, r2) := H
     have A6 := Aside0.mk A60
     clear A60
     replace H := Option.bind_eq_some_iff.mp H
     obtain ⟨⟨t217, t218⟩, A70, H⟩ := H
     replace H : (if t208 = true then (if t218 = 0 then (if t217.toList = t206.toList then (if x4_1.length < 4398046511104 then (trace_Parse.l0 k1 t207 (x4_1 ++ [(⟨t212, t213, t214, t215⟩ : S72)])) else (none)) else (some (([] : List (S72)), 2))) else (some (([] : List (S72)), 2))) else (some (([] : List (S72)), 2))) = some (r1, r2) := H
     have A7 := Aside0.mk A70
     clear A70
     by_cases c8 : t208 = true
     ·subst c8
      have H1 : (if t218 = 0 then (if t217.toList = t206.toList then (if x4_1.length < 4398046511104 then (trace_Parse.l0 k1 t207 (x4_1 ++ [(⟨t212, t213, t214, t215⟩ : S72)])) else (none)) else (some (([] : List (S72)), 2))) else (some (([] : List (S72)), 2))) = some (r1, r2) := by rw [if_pos rfl] at H; exact H
      clear H
      have H := H1
      clear H1
      by_cases c9 : t218 = 0
      ·rw [if_pos c9] at H
       have c9b0 : (t218 == 0) = true := beq_iff_eq.mpr c9
       have c9b1 : (t218 != 0) = false := bne_eq_false_iff_eq.mpr c9
       clear c9
       by_cases c10 : t217.toList = t206.toList
       ·rw [if_pos c10] at H
        have c10b0 : (t217.toList == t206.toList) = true := beq_iff_eq.mpr c10
        have c10b1 : (t217.toList != t206.toList) = false := bne_eq_false_iff_eq.mpr c10
        clear c10
        by_cases c11 : x4_1.length < 4398046511104
        ·rw [if_pos c11] at H
         have LMc11 := Aside0.mk c11
         clear c11
         obtain ⟨y219, hy219⟩ : ∃ y_ : List (S72), y_ = (x4_1 ++ [(⟨t212, t213, t214, t215⟩ : S72)]) := ⟨_, rfl⟩
         replace H : (trace_Parse.l0 k1 t207 y219) = some (r1, r2) := by first | (rw [hy219]; with_reducible exact H) | (have H2_ := (Option.bind_some _ _).symm.trans H; rw [hy219]; with_reducible exact H2_) | (have H2_ := (Option.bind_some _ _).symm.trans H; with_reducible exact H2_) | with_reducible exact H | (rw [hy219]; exact H) | exact H
         have Ny219 := Aside0.mk hy219
         clear hy219
         have H' := Aside0.mk H
         clear H
         go_wp2_with (first | ((with_reducible refine gate_callee (f := 96) rfl ?_); refine goesL_ (some 18) rfl rfl Tryd.func96 (by kernel_rfl) rfl #[.string x0_1, .string (⟨#[10]⟩ : ByteArray)] rfl (by (try simp only [List.map_toArray, List.map_cons, List.map_nil]); first | done | rfl | (simp only [List.length_drop, List.length_take]; rfl)) ?_; (with_reducible refine (o_Cut.calls x0_1 (⟨#[10]⟩ : ByteArray) t206 t207 true _ A4.out ?side1).mono ?_); (case side1 => exact Gl.below HG.out (by repeat (first | (with_reducible first | exact HB.out | apply below_alloc | apply pw_below_drewN | apply below_drew1) | exact HB.out))); rintro e w12 ⟨rfl, hb⟩; refine ⟨_, rfl, ?_⟩; have n0_ := Aside0.mk (Kd.R_below (by (with_reducible repeat (first | apply Kd.R_alloc | apply Kd.R_drewN | apply Kd.R_drew)); exact HO_4.out) hb); have n1_ := Aside0.mk (below_step (by repeat (first | (with_reducible first | exact HB.out | apply below_alloc | apply pw_below_drewN | apply below_drew1) | exact HB.out)) hb); clear HO_4; clear HB; have HO_4 := n0_; have HB := n1_; clear n0_ n1_; (try clear hb); (try clear hb2); (try clear hk); (try clear hi)) | ((with_reducible refine gate_callee (f := 89) rfl ?_); refine goesL_ (some 23) rfl rfl Tryd.func89 (by kernel_rfl) rfl #[.string t206, .string (⟨#[32]⟩ : ByteArray)] rfl (by (try simp only [List.map_toArray, List.map_cons, List.map_nil]); first | done | rfl | (simp only [List.length_drop, List.length_take]; rfl)) ?_; (with_reducible refine (o_Split.calls t206 (⟨#[32]⟩ : ByteArray) t209 _ A5.out ?side1).mono ?_); (case side1 => exact Gl.below HG.out (by repeat (first | (with_reducible first | exact HB.out | apply below_alloc | apply pw_below_drewN | apply below_drew1) | exact HB.out))); rintro e w13 ⟨v210, rfl, ho0, hb⟩; refine ⟨_, rfl, ?_⟩; have n0_ := Aside0.mk (Kd.R_below (by (with_reducible repeat (first | apply Kd.R_alloc | apply Kd.R_drewN | apply Kd.R_drew)); exact HO_4.out) hb); have n1_ := Aside0.mk (Kd.R_lower ho0 (below_size (by repeat (first | (with_reducible first | exact HB.out | apply below_alloc | apply pw_below_drewN | apply below_drew1) | exact HB.out)))); have n2_ := Aside0.mk (below_step (by repeat (first | (with_reducible first | exact HB.out | apply below_alloc | apply pw_below_drewN | apply below_drew1) | exact HB.out)) hb); clear HO_4; clear HB; have HO_4 := n0_; have HO211 := n1_; have HB := n2_; clear n0_ n1_ n2_; (try clear hb); (try clear hb2); (try clear hk); (try clear hi); (try clear ho0); obtain ⟨Ao14, co14, eo14⟩ := Kd.R_slice HO211.out; subst eo14) | ((with_reducible refine gate_callee (f := 97) rfl ?_); refine goesL_ (some 24) rfl rfl Tryd.func97 (by kernel_rfl) rfl #[.slice Ao14 t209.length co14] rfl (by (try simp only [List.map_toArray, List.map_cons, List.map_nil]); first | done | rfl | (simp only [List.length_drop, List.length_take]; rfl)) ?_; (with_reducible refine (trace_guess.calls k1 _ _ t209 t212 t213 t214 t215 _ ?side1 ?side2 A6.out ?side3).mono ?_); (case side1 => repeat (first | exact (Kd.R_reads' HO211.out).2.2 | (with_reducible refine Kd.C_alloc ?_ _) | (with_reducible refine Kd.C_drewN ?_ _) | (with_reducible refine Kd.C_drew ?_))); (case side2 => exact (Kd.R_reads' HO211.out).2.1); (case side3 => exact Gl.below HG.out (by repeat (first | (with_reducible first | exact HB.out | apply below_alloc | apply pw_below_drewN | apply below_drew1) | exact HB.out))); rintro e w15 ⟨rfl, hb⟩; refine ⟨_, rfl, ?_⟩; have n0_ := Aside0.mk (Kd.R_below (by (with_reducible repeat (first | apply Kd.R_alloc | apply Kd.R_drewN | apply Kd.R_drew)); exact HO_4.out) hb); have n1_ := Aside0.mk (Kd.R_below (by (with_reducible repeat (first | apply Kd.R_alloc | apply Kd.R_drewN | apply Kd.R_drew)); exact HO211.out) hb); have n2_ := Aside0.mk (below_step (by repeat (first | (with_reducible first | exact HB.out | apply below_alloc | apply pw_below_drewN | apply below_drew1) | exact HB.out)) hb); clear HO_4; clear HO211; clear HB; have HO_4 := n0_; have HO211 := n1_; have HB := n2_; clear n0_ n1_ n2_; (try clear hb); (try clear hb2); (try clear hk); (try clear hi)) | ((with_reducible refine gate_dst (N := 8) rfl ?_); refine box_event ?hg (N := 8) ?hd (cs := #[.int .i64 0, .int .i64 0, .int .i64 0, .int .i64 0]) (t := 72) ?hr ?_; (case hd => rfl); (case hg => rfl); (case hr => first | (go_simp; done) | (go_simp; rfl)); intro gb216 hg w16 hbox hb; have n0_ := Aside0.mk (Kd.R_below (Kd.R_elderB (by (with_reducible repeat (first | apply Kd.R_alloc | apply Kd.R_drewN | apply Kd.R_drew)); exact HO_4.out) gb216 (Nat.le_of_eq hg.symm)) hb); have n1_ := Aside0.mk (Kd.R_below (by (with_reducible repeat (first | apply Kd.R_alloc | apply Kd.R_drewN | apply Kd.R_drew)); exact HO211.out) hb); have n2_ := Aside0.mk (below_step (by repeat (first | (with_reducible first | exact HB.out | apply below_alloc | apply pw_below_drewN | apply below_drew1) | exact HB.out)) hb); have n3_ := Aside0.mk (hbox); have n4_ := Aside0.mk ((by rw [hg]; exact (below_size (by repeat (first | (with_reducible first | exact HB.out | apply below_alloc | apply pw_below_drewN | apply below_drew1) | exact HB.out))) : w.heap.size ≤ gb216)); have n5_ := Aside0.mk ((by rw [hg]; exact (below_size (by repeat (first | (with_reducible first | exact HB.out | apply below_alloc | apply pw_below_drewN | apply below_drew1) | exact HB.out))) : w.heap.size ≤ gb216)); clear HO_4; clear HO211; clear HB; have HO_4 := n0_; have HO211 := n1_; have HB := n2_; have BK216 := n3_; have GW216 := n4_; have GE216 := n5_; clear n0_ n1_ n2_ n3_ n4_ n5_; clear hb hbox hg; have hcz17_0 : w16.cell? ⟨gb216, 0, none⟩ = some (.int .i64 0) := (blk_cell BK216.out 0).trans rfl; have hcz17_1 : w16.cell? ⟨gb216, 1, none⟩ = some (.int .i64 0) := (blk_cell BK216.out 1).trans rfl; have hcz17_2 : w16.cell? ⟨gb216, 2, none⟩ = some (.int .i64 0) := (blk_cell BK216.out 2).trans rfl; have hcz17_3 : w16.cell? ⟨gb216, 3, none⟩ = some (.int .i64 0) := (blk_cell BK216.out 3).trans rfl; have hfz17_0 := blk_frozen BK216.out 0; have hfz17_1 := blk_frozen BK216.out 1; have hfz17_2 := blk_frozen BK216.out 2; have hfz17_3 := blk_frozen BK216.out 3) | ((with_reducible refine gate_callee (f := 47) rfl ?_); refine goesL_ (some 27) rfl rfl Tryd.func47 (by kernel_rfl) rfl #[.agg #[.int .i64 t212, .int .i64 t213, .int .i64 t214, .int .i64 t215]] rfl (by (try simp only [List.map_toArray, List.map_cons, List.map_nil]); first | done | rfl | (simp only [List.length_drop, List.length_take]; rfl)) ?_; (with_reducible refine (trace_Line.calls k1 t212 t213 t214 t215 t217 t218 _ A7.out ?side1).mono ?_); (case side1 => exact Gl.below HG.out (by repeat (first | (with_reducible first | exact HB.out | apply below_alloc | apply pw_below_drewN | apply below_drew1 | refine below_set ?_ GE216.out) | exact HB.out))); rintro e w18 ⟨rfl, hb⟩; refine ⟨_, rfl, ?_⟩; have n0_ := Aside0.mk (Kd.R_below (by (with_reducible repeat (first | apply Kd.R_alloc | apply Kd.R_drewN | apply Kd.R_drew)); exact (Kd.R_mono (Kd.R_far (p := ⟨gb216, 3, none⟩) (Kd.R_far (p := ⟨gb216, 2, none⟩) (Kd.R_far (p := ⟨gb216, 1, none⟩) (Kd.R_far (p := ⟨gb216, 0, none⟩) (Kd.R_mono HO_4.out (fun k_ hk => (⟨hk, hk.2⟩ : _ ∧ k_ ≠ gb216))) (fun _ hk => hk.2) (.int .i64 t212)) (fun _ hk => hk.2) (.int .i64 t213)) (fun _ hk => hk.2) (.int .i64 t214)) (fun _ hk => hk.2) (.int .i64 t215)) (fun _ h_ => h_.1))) hb); have n1_ := Aside0.mk (Kd.R_below (by (with_reducible repeat (first | apply Kd.R_alloc | apply Kd.R_drewN | apply Kd.R_drew)); exact (Kd.R_mono (Kd.R_far (p := ⟨gb216, 3, none⟩) (Kd.R_far (p := ⟨gb216, 2, none⟩) (Kd.R_far (p := ⟨gb216, 1, none⟩) (Kd.R_far (p := ⟨gb216, 0, none⟩) (Kd.R_types HO211.out BK216.out (by decide)) (fun _ hk => hk.2) (.int .i64 t212)) (fun _ hk => hk.2) (.int .i64 t213)) (fun _ hk => hk.2) (.int .i64 t214)) (fun _ hk => hk.2) (.int .i64 t215)) (fun _ h_ => h_.1))) hb); have n2_ := Aside0.mk (blk_below (g := gb216) (o := .cells #[.int .i64 t212, .int .i64 t213, .int .i64 t214, .int .i64 t215] 72 (0, 0)) (by (with_reducible repeat (first | refine blk_drewN ?_ _ | refine blk_drew ?_ | refine blk_alloc ?_ _)); refine blk_put (cs := #[.int .i64 t212, .int .i64 t213, .int .i64 t214, .int .i64 0]) ?_ 3 _ rfl; (with_reducible repeat (first | refine blk_drewN ?_ _ | refine blk_drew ?_ | refine blk_alloc ?_ _)); refine blk_put (cs := #[.int .i64 t212, .int .i64 t213, .int .i64 0, .int .i64 0]) ?_ 2 _ rfl; (with_reducible repeat (first | refine blk_drewN ?_ _ | refine blk_drew ?_ | refine blk_alloc ?_ _)); refine blk_put (cs := #[.int .i64 t212, .int .i64 0, .int .i64 0, .int .i64 0]) ?_ 1 _ rfl; (with_reducible repeat (first | refine blk_drewN ?_ _ | refine blk_drew ?_ | refine blk_alloc ?_ _)); refine blk_put (cs := #[.int .i64 0, .int .i64 0, .int .i64 0, .int .i64 0]) ?_ 0 _ rfl; (with_reducible repeat (first | refine blk_drewN ?_ _ | refine blk_drew ?_ | refine blk_alloc ?_ _)); exact BK216.out) hb); have n3_ := Aside0.mk (below_step (by repeat (first | (with_reducible first | exact HB.out | apply below_alloc | apply pw_below_drewN | apply below_drew1 | refine below_set ?_ GE216.out) | exact HB.out)) hb); clear HO_4; clear HO211; clear BK216; clear HB; have HO_4 := n0_; have HO211 := n1_; have BK216 := n2_; have HB := n3_; clear n0_ n1_ n2_ n3_; (try clear hb); (try clear hb2); (try clear hk); (try clear hi); have hcz19_0 : w18.cell? ⟨gb216, 0, none⟩ = some (.int .i64 t212) := (blk_cell BK216.out 0).trans rfl; have hcz19_1 : w18.cell? ⟨gb216, 1, none⟩ = some (.int .i64 t213) := (blk_cell BK216.out 1).trans rfl; have hcz19_2 : w18.cell? ⟨gb216, 2, none⟩ = some (.int .i64 t214) := (blk_cell BK216.out 2).trans rfl; have hcz19_3 : w18.cell? ⟨gb216, 3, none⟩ = some (.int .i64 t215) := (blk_cell BK216.out 3).trans rfl; have hfz19_0 := blk_frozen BK216.out 0; have hfz19_1 := blk_frozen BK216.out 1; have hfz19_2 := blk_frozen BK216.out 2; have hfz19_3 := blk_frozen BK216.out 3) | ((with_reducible refine gate_builtin (b := .append) (xs := #[.tmp 41, .tmp 43]) rfl ?_); at_builtin; refine Kd.R_append k72 (w0 := w) w.heap.size rfl (.tmp 41) (.tmp 43) 73 72 (.agg #[(.int .i64 0), (.int .i64 0), (.int .i64 0), (.int .i64 0)]) 32 rfl Tryd.underlying73 info72 rfl (by decide) (by omega) u4 x4_1 (⟨t212, t213, t214, t215⟩ : S72) [.int .i64 t212, .int .i64 t213, .int .i64 t214, .int .i64 t215] (fun k_ => k_ ≠ gb216) (fun _ => False) rfl rfl ?aP (fun _ hk => hk.elim) ?aF ?aO ?aB ?aS ?aL ?_; (case aP => exact k72_mkM _ _ _ (⟨t212, t213, t214, t215⟩ : S72)); (case aB => exact (by repeat (first | (with_reducible first | exact HB.out | apply below_alloc | apply pw_below_drewN | apply below_drew1 | refine below_set ?_ GE216.out) | exact HB.out))); (case aF => exact (fun k_ hk => Kd.freshB (g := gb216) (o := .cells #[.int .i64 t212, .int .i64 t213, .int .i64 t214, .int .i64 t215] 72 (0, 0)) (by (with_reducible repeat (first | refine blk_drewN ?_ _ | refine blk_drew ?_ | refine blk_alloc ?_ _)); exact BK216.out) k_ hk)); (case aO => exact (by (with_reducible repeat (first | apply Kd.R_alloc | apply Kd.R_drewN | apply Kd.R_drew)); exact Kd.R_mono HO_4.out (fun _ hk => hk.2))); (case aS => exact (below_size (by repeat (first | (with_reducible first | exact HB.out | apply below_alloc | apply pw_below_drewN | apply below_drew1 | refine below_set ?_ GE216.out) | exact HB.out)))); (case aL => have := LMc11.out; omega); intro v220 w20 ho hb hg hat; rw [← Ny219.out] at ho; have n0_ := Aside0.mk (Kd.R_over' (by (with_reducible repeat (first | apply Kd.R_alloc | apply Kd.R_drewN | apply Kd.R_drew)); exact HO211.out) (Kd.R_typed (by (with_reducible repeat (first | apply Kd.R_alloc | apply Kd.R_drewN | apply Kd.R_drew)); exact HO_4.out)) (by decide) hg); have n1_ := Aside0.mk (blk_grown (g := gb216) (o := .cells #[.int .i64 t212, .int .i64 t213, .int .i64 t214, .int .i64 t215] 72 (0, 0)) (by (with_reducible repeat (first | refine blk_drewN ?_ _ | refine blk_drew ?_ | refine blk_alloc ?_ _)); exact BK216.out) hg (Kd.R_away HO_4.out (fun _ hk => hk.2))); have n2_ := Aside0.mk (hb); have n3_ := Aside0.mk (ho); clear HO211; clear BK216; clear HB; clear HO_4; have HO211 := n0_; have BK216 := n1_; have HB := n2_; have HO221 := n3_; clear n0_ n1_ n2_ n3_; clear ho hb hg hat))
         go_roundg k1
         case measure => have := HK1.out; omega
         case rel => exact ⟨(t207), (y219), (by first | rfl | (simp; done) | (simp only [emptyNe_, emptyEq_]; done) | (simp [*]; done)), H', ⟨by have := HK1.out; omega⟩, ⟨by (with_reducible repeat (first | apply Kd.R_alloc | apply Kd.R_drewN | apply Kd.R_drew)); exact Kd.R_mono HO221.out (fun _ hk => trivial)⟩, ⟨by repeat (first | (with_reducible first | exact HB.out | apply below_alloc | apply pw_below_drewN | apply below_drew1 | refine below_set ?_ GE216.out) | exact HB.out)⟩⟩
        ·rw [if_neg c11] at H
         exact absurd H (by simp)
       ·rw [if_neg c10] at H
        have c10b0 : (t217.toList == t206.toList) = false := beq_eq_false_iff_ne.mpr c10
        have c10b1 : (t217.toList != t206.toList) = true := bne_iff_ne.mpr c10
        simp only [Option.some.injEq, Prod.mk.injEq] at H
        obtain ⟨rfl, rfl⟩ := H
        go_wp2_with (first | ((with_reducible refine gate_callee (f := 96) rfl ?_); refine goesL_ (some 18) rfl rfl Tryd.func96 (by kernel_rfl) rfl #[.string x0_1, .string (⟨#[10]⟩ : ByteArray)] rfl (by (try simp only [List.map_toArray, List.map_cons, List.map_nil]); first | done | rfl | (simp only [List.length_drop, List.length_take]; rfl)) ?_; (with_reducible refine (o_Cut.calls x0_1 (⟨#[10]⟩ : ByteArray) t206 t207 true _ A4.out ?side1).mono ?_); (case side1 => exact Gl.below HG.out (by repeat (first | (with_reducible first | exact HB.out | apply below_alloc | apply pw_below_drewN | apply below_drew1) | exact HB.out))); rintro e w21 ⟨rfl, hb⟩; refine ⟨_, rfl, ?_⟩; have n0_ := Aside0.mk (Kd.R_below (by (with_reducible repeat (first | apply Kd.R_alloc | apply Kd.R_drewN | apply Kd.R_drew)); exact HO_4.out) hb); have n1_ := Aside0.mk (below_step (by repeat (first | (with_reducible first | exact HB.out | apply below_alloc | apply pw_below_drewN | apply below_drew1) | exact HB.out)) hb); clear HO_4; clear HB; have HO_4 := n0_; have HB := n1_; clear n0_ n1_; (try clear hb); (try clear hb2); (try clear hk); (try clear hi)) | ((with_reducible refine gate_callee (f := 89) rfl ?_); refine goesL_ (some 23) rfl rfl Tryd.func89 (by kernel_rfl) rfl #[.string t206, .string (⟨#[32]⟩ : ByteArray)] rfl (by (try simp only [List.map_toArray, List.map_cons, List.map_nil]); first | done | rfl | (simp only [List.length_drop, List.length_take]; rfl)) ?_; (with_reducible refine (o_Split.calls t206 (⟨#[32]⟩ : ByteArray) t209 _ A5.out ?side1).mono ?_); (case side1 => exact Gl.below HG.out (by repeat (first | (with_reducible first | exact HB.out | apply below_alloc | apply pw_below_drewN | apply below_drew1) | exact HB.out))); rintro e w22 ⟨v210, rfl, ho0, hb⟩; refine ⟨_, rfl, ?_⟩; have n0_ := Aside0.mk (Kd.R_below (by (with_reducible repeat (first | apply Kd.R_alloc | apply Kd.R_drewN | apply Kd.R_drew)); exact HO_4.out) hb); have n1_ := Aside0.mk (Kd.R_lower ho0 (below_size (by repeat (first | (with_reducible first | exact HB.out | apply below_alloc | apply pw_below_drewN | apply below_drew1) | exact HB.out)))); have n2_ := Aside0.mk (below_step (by repeat (first | (with_reducible first | exact HB.out | apply below_alloc | apply pw_below_drewN | apply below_drew1) | exact HB.out)) hb); clear HO_4; clear HB; have HO_4 := n0_; have HO211 := n1_; have HB := n2_; clear n0_ n1_ n2_; (try clear hb); (try clear hb2); (try clear hk); (try clear hi); (try clear ho0); obtain ⟨Ao23, co23, eo23⟩ := Kd.R_slice HO211.out; subst eo23) | ((with_reducible refine gate_callee (f := 97) rfl ?_); refine goesL_ (some 24) rfl rfl Tryd.func97 (by kernel_rfl) rfl #[.slice Ao23 t209.length co23] rfl (by (try simp only [List.map_toArray, List.map_cons, List.map_nil]); first | done | rfl | (simp only [List.length_drop, List.length_take]; rfl)) ?_; (with_reducible refine (trace_guess.calls k1 _ _ t209 t212 t213 t214 t215 _ ?side1 ?side2 A6.out ?side3).mono ?_); (case side1 => repeat (first | exact (Kd.R_reads' HO211.out).2.2 | (with_reducible refine Kd.C_alloc ?_ _) | (with_reducible refine Kd.C_drewN ?_ _) | (with_reducible refine Kd.C_drew ?_))); (case side2 => exact (Kd.R_reads' HO211.out).2.1); (case side3 => exact Gl.below HG.out (by repeat (first | (with_reducible first | exact HB.out | apply below_alloc | apply pw_below_drewN | apply below_drew1) | exact HB.out))); rintro e w24 ⟨rfl, hb⟩; refine ⟨_, rfl, ?_⟩; have n0_ := Aside0.mk (Kd.R_below (by (with_reducible repeat (first | apply Kd.R_alloc | apply Kd.R_drewN | apply Kd.R_drew)); exact HO_4.out) hb); have n1_ := Aside0.mk (Kd.R_below (by (with_reducible repeat (first | apply Kd.R_alloc | apply Kd.R_drewN | apply Kd.R_drew)); exact HO211.out) hb); have n2_ := Aside0.mk (below_step (by repeat (first | (with_reducible first | exact HB.out | apply below_alloc | apply pw_below_drewN | apply below_drew1) | exact HB.out)) hb); clear HO_4; clear HO211; clear HB; have HO_4 := n0_; have HO211 := n1_; have HB := n2_; clear n0_ n1_ n2_; (try clear hb); (try clear hb2); (try clear hk); (try clear hi)) | ((with_reducible refine gate_dst (N := 8) rfl ?_); refine box_event ?hg (N := 8) ?hd (cs := #[.int .i64 0, .int .i64 0, .int .i64 0, .int .i64 0]) (t := 72) ?hr ?_; (case hd => rfl); (case hg => rfl); (case hr => first | (go_simp; done) | (go_simp; rfl)); intro gb216 hg w25 hbox hb; have n0_ := Aside0.mk (Kd.R_below (Kd.R_elderB (by (with_reducible repeat (first | apply Kd.R_alloc | apply Kd.R_drewN | apply Kd.R_drew)); exact HO_4.out) gb216 (Nat.le_of_eq hg.symm)) hb); have n1_ := Aside0.mk (Kd.R_below (by (with_reducible repeat (first | apply Kd.R_alloc | apply Kd.R_drewN | apply Kd.R_drew)); exact HO211.out) hb); have n2_ := Aside0.mk (below_step (by repeat (first | (with_reducible first | exact HB.out | apply below_alloc | apply pw_below_drewN | apply below_drew1) | exact HB.out)) hb); have n3_ := Aside0.mk (hbox); have n4_ := Aside0.mk ((by rw [hg]; exact (below_size (by repeat (first | (with_reducible first | exact HB.out | apply below_alloc | apply pw_below_drewN | apply below_drew1) | exact HB.out))) : w.heap.size ≤ gb216)); have n5_ := Aside0.mk ((by rw [hg]; exact (below_size (by repeat (first | (with_reducible first | exact HB.out | apply below_alloc | apply pw_below_drewN | apply below_drew1) | exact HB.out))) : w.heap.size ≤ gb216)); clear HO_4; clear HO211; clear HB; have HO_4 := n0_; have HO211 := n1_; have HB := n2_; have BK216 := n3_; have GW216 := n4_; have GE216 := n5_; clear n0_ n1_ n2_ n3_ n4_ n5_; clear hb hbox hg; have hcz26_0 : w25.cell? ⟨gb216, 0, none⟩ = some (.int .i64 0) := (blk_cell BK216.out 0).trans rfl; have hcz26_1 : w25.cell? ⟨gb216, 1, none⟩ = some (.int .i64 0) := (blk_cell BK216.out 1).trans rfl; have hcz26_2 : w25.cell? ⟨gb216, 2, none⟩ = some (.int .i64 0) := (blk_cell BK216.out 2).trans rfl; have hcz26_3 : w25.cell? ⟨gb216, 3, none⟩ = some (.int .i64 0) := (blk_cell BK216.out 3).trans rfl; have hfz26_0 := blk_frozen BK216.out 0; have hfz26_1 := blk_frozen BK216.out 1; have hfz26_2 := blk_frozen BK216.out 2; have hfz26_3 := blk_frozen BK216.out 3) | ((with_reducible refine gate_callee (f := 47) rfl ?_); refine goesL_ (some 27) rfl rfl Tryd.func47 (by kernel_rfl) rfl #[.agg #[.int .i64 t212, .int .i64 t213, .int .i64 t214, .int .i64 t215]] rfl (by (try simp only [List.map_toArray, List.map_cons, List.map_nil]); first | done | rfl | (simp only [List.length_drop, List.length_take]; rfl)) ?_; (with_reducible refine (trace_Line.calls k1 t212 t213 t214 t215 t217 t218 _ A7.out ?side1).mono ?_); (case side1 => exact Gl.below HG.out (by repeat (first | (with_reducible first | exact HB.out | apply below_alloc | apply pw_below_drewN | apply below_drew1 | refine below_set ?_ GE216.out) | exact HB.out))); rintro e w27 ⟨rfl, hb⟩; refine ⟨_, rfl, ?_⟩; have n0_ := Aside0.mk (Kd.R_below (by (with_reducible repeat (first | apply Kd.R_alloc | apply Kd.R_drewN | apply Kd.R_drew)); exact (Kd.R_mono (Kd.R_far (p := ⟨gb216, 3, none⟩) (Kd.R_far (p := ⟨gb216, 2, none⟩) (Kd.R_far (p := ⟨gb216, 1, none⟩) (Kd.R_far (p := ⟨gb216, 0, none⟩) (Kd.R_mono HO_4.out (fun k_ hk => (⟨hk, hk.2⟩ : _ ∧ k_ ≠ gb216))) (fun _ hk => hk.2) (.int .i64 t212)) (fun _ hk => hk.2) (.int .i64 t213)) (fun _ hk => hk.2) (.int .i64 t214)) (fun _ hk => hk.2) (.int .i64 t215)) (fun _ h_ => h_.1))) hb); have n1_ := Aside0.mk (Kd.R_below (by (with_reducible repeat (first | apply Kd.R_alloc | apply Kd.R_drewN | apply Kd.R_drew)); exact (Kd.R_mono (Kd.R_far (p := ⟨gb216, 3, none⟩) (Kd.R_far (p := ⟨gb216, 2, none⟩) (Kd.R_far (p := ⟨gb216, 1, none⟩) (Kd.R_far (p := ⟨gb216, 0, none⟩) (Kd.R_types HO211.out BK216.out (by decide)) (fun _ hk => hk.2) (.int .i64 t212)) (fun _ hk => hk.2) (.int .i64 t213)) (fun _ hk => hk.2) (.int .i64 t214)) (fun _ hk => hk.2) (.int .i64 t215)) (fun _ h_ => h_.1))) hb); have n2_ := Aside0.mk (blk_below (g := gb216) (o := .cells #[.int .i64 t212, .int .i64 t213, .int .i64 t214, .int .i64 t215] 72 (0, 0)) (by (with_reducible repeat (first | refine blk_drewN ?_ _ | refine blk_drew ?_ | refine blk_alloc ?_ _)); refine blk_put (cs := #[.int .i64 t212, .int .i64 t213, .int .i64 t214, .int .i64 0]) ?_ 3 _ rfl; (with_reducible repeat (first | refine blk_drewN ?_ _ | refine blk_drew ?_ | refine blk_alloc ?_ _)); refine blk_put (cs := #[.int .i64 t212, .int .i64 t213, .int .i64 0, .int .i64 0]) ?_ 2 _ rfl; (with_reducible repeat (first | refine blk_drewN ?_ _ | refine blk_drew ?_ | refine blk_alloc ?_ _)); refine blk_put (cs := #[.int .i64 t212, .int .i64 0, .int .i64 0, .int .i64 0]) ?_ 1 _ rfl; (with_reducible repeat (first | refine blk_drewN ?_ _ | refine blk_drew ?_ | refine blk_alloc ?_ _)); refine blk_put (cs := #[.int .i64 0, .int .i64 0, .int .i64 0, .int .i64 0]) ?_ 0 _ rfl; (with_reducible repeat (first | refine blk_drewN ?_ _ | refine blk_drew ?_ | refine blk_alloc ?_ _)); exact BK216.out) hb); have n3_ := Aside0.mk (below_step (by repeat (first | (with_reducible first | exact HB.out | apply below_alloc | apply pw_below_drewN | apply below_drew1 | refine below_set ?_ GE216.out) | exact HB.out)) hb); clear HO_4; clear HO211; clear BK216; clear HB; have HO_4 := n0_; have HO211 := n1_; have BK216 := n2_; have HB := n3_; clear n0_ n1_ n2_ n3_; (try clear hb); (try clear hb2); (try clear hk); (try clear hi)))
        go_ret2
        exact ⟨_, by first | rfl | (simp [errW_none, errW_some] <;> rfl) | (simp [*, errW_none, errW_some] <;> rfl), by first | exact Kd.R_nil _ _ _ _ _ | exact Kd.N_nil _ _ _ _ _ | exact Kd.V_nil _ _ _ _ _ | exact Kd.Q_nil _ _ _ _ _ | exact Kd.S_nil _ _ _ _ _, by repeat (first | (with_reducible first | exact HB.out | apply below_alloc | apply pw_below_drewN | apply below_drew1 | refine below_set ?_ GE216.out) | exact HB.out)⟩
      ·rw [if_neg c9] at H
       have c9b0 : (t218 == 0) = false := beq_eq_false_iff_ne.mpr c9
       have c9b1 : (t218 != 0) = true := bne_iff_ne.mpr c9
       simp only [Option.some.injEq, Prod.mk.injEq] at H
       obtain ⟨rfl, rfl⟩ := H
       go_wp2_with (first | ((with_reducible refine gate_callee (f := 96) rfl ?_); refine goesL_ (some 18) rfl rfl Tryd.func96 (by kernel_rfl) rfl #[.string x0_1, .string (⟨#[10]⟩ : ByteArray)] rfl (by (try simp only [List.map_toArray, List.map_cons, List.map_nil]); first | done | rfl | (simp only [List.length_drop, List.length_take]; rfl)) ?_; (with_reducible refine (o_Cut.calls x0_1 (⟨#[10]⟩ : ByteArray) t206 t207 true _ A4.out ?side1).mono ?_); (case side1 => exact Gl.below HG.out (by repeat (first | (with_reducible first | exact HB.out | apply below_alloc | apply pw_below_drewN | apply below_drew1) | exact HB.out))); rintro e w28 ⟨rfl, hb⟩; refine ⟨_, rfl, ?_⟩; have n0_ := Aside0.mk (Kd.R_below (by (with_reducible repeat (first | apply Kd.R_alloc | apply Kd.R_drewN | apply Kd.R_drew)); exact HO_4.out) hb); have n1_ := Aside0.mk (below_step (by repeat (first | (with_reducible first | exact HB.out | apply below_alloc | apply pw_below_drewN | apply below_drew1) | exact HB.out)) hb); clear HO_4; clear HB; have HO_4 := n0_; have HB := n1_; clear n0_ n1_; (try clear hb); (try clear hb2); (try clear hk); (try clear hi)) | ((with_reducible refine gate_callee (f := 89) rfl ?_); refine goesL_ (some 23) rfl rfl Tryd.func89 (by kernel_rfl) rfl #[.string t206, .string (⟨#[32]⟩ : ByteArray)] rfl (by (try simp only [List.map_toArray, List.map_cons, List.map_nil]); first | done | rfl | (simp only [List.length_drop, List.length_take]; rfl)) ?_; (with_reducible refine (o_Split.calls t206 (⟨#[32]⟩ : ByteArray) t209 _ A5.out ?side1).mono ?_); (case side1 => exact Gl.below HG.out (by repeat (first | (with_reducible first | exact HB.out | apply below_alloc | apply pw_below_drewN | apply below_drew1) | exact HB.out))); rintro e w29 ⟨v210, rfl, ho0, hb⟩; refine ⟨_, rfl, ?_⟩; have n0_ := Aside0.mk (Kd.R_below (by (with_reducible repeat (first | apply Kd.R_alloc | apply Kd.R_drewN | apply Kd.R_drew)); exact HO_4.out) hb); have n1_ := Aside0.mk (Kd.R_lower ho0 (below_size (by repeat (first | (with_reducible first | exact HB.out | apply below_alloc | apply pw_below_drewN | apply below_drew1) | exact HB.out)))); have n2_ := Aside0.mk (below_step (by repeat (first | (with_reducible first | exact HB.out | apply below_alloc | apply pw_below_drewN | apply below_drew1) | exact HB.out)) hb); clear HO_4; clear HB; have HO_4 := n0_; have HO211 := n1_; have HB := n2_; clear n0_ n1_ n2_; (try clear hb); (try clear hb2); (try clear hk); (try clear hi); (try clear ho0); obtain ⟨Ao30, co30, eo30⟩ := Kd.R_slice HO211.out; subst eo30) | ((with_reducible refine gate_callee (f := 97) rfl ?_); refine goesL_ (some 24) rfl rfl Tryd.func97 (by kernel_rfl) rfl #[.slice Ao30 t209.length co30] rfl (by (try simp only [List.map_toArray, List.map_cons, List.map_nil]); first | done | rfl | (simp only [List.length_drop, List.length_take]; rfl)) ?_; (with_reducible refine (trace_guess.calls k1 _ _ t209 t212 t213 t214 t215 _ ?side1 ?side2 A6.out ?side3).mono ?_); (case side1 => repeat (first | exact (Kd.R_reads' HO211.out).2.2 | (with_reducible refine Kd.C_alloc ?_ _) | (with_reducible refine Kd.C_drewN ?_ _) | (with_reducible refine Kd.C_drew ?_))); (case side2 => exact (Kd.R_reads' HO211.out).2.1); (case side3 => exact Gl.below HG.out (by repeat (first | (with_reducible first | exact HB.out | apply below_alloc | apply pw_below_drewN | apply below_drew1) | exact HB.out))); rintro e w31 ⟨rfl, hb⟩; refine ⟨_, rfl, ?_⟩; have n0_ := Aside0.mk (Kd.R_below (by (with_reducible repeat (first | apply Kd.R_alloc | apply Kd.R_drewN | apply Kd.R_drew)); exact HO_4.out) hb); have n1_ := Aside0.mk (Kd.R_below (by (with_reducible repeat (first | apply Kd.R_alloc | apply Kd.R_drewN | apply Kd.R_drew)); exact HO211.out) hb); have n2_ := Aside0.mk (below_step (by repeat (first | (with_reducible first | exact HB.out | apply below_alloc | apply pw_below_drewN | apply below_drew1) | exact HB.out)) hb); clear HO_4; clear HO211; clear HB; have HO_4 := n0_; have HO211 := n1_; have HB := n2_; clear n0_ n1_ n2_; (try clear hb); (try clear hb2); (try clear hk); (try clear hi)) | ((with_reducible refine gate_dst (N := 8) rfl ?_); refine box_event ?hg (N := 8) ?hd (cs := #[.int .i64 0, .int .i64 0, .int .i64 0, .int .i64 0]) (t := 72) ?hr ?_; (case hd => rfl); (case hg => rfl); (case hr => first | (go_simp; done) | (go_simp; rfl)); intro gb216 hg w32 hbox hb; have n0_ := Aside0.mk (Kd.R_below (Kd.R_elderB (by (with_reducible repeat (first | apply Kd.R_alloc | apply Kd.R_drewN | apply Kd.R_drew)); exact HO_4.out) gb216 (Nat.le_of_eq hg.symm)) hb); have n1_ := Aside0.mk (Kd.R_below (by (with_reducible repeat (first | apply Kd.R_alloc | apply Kd.R_drewN | apply Kd.R_drew)); exact HO211.out) hb); have n2_ := Aside0.mk (below_step (by repeat (first | (with_reducible first | exact HB.out | apply below_alloc | apply pw_below_drewN | apply below_drew1) | exact HB.out)) hb); have n3_ := Aside0.mk (hbox); have n4_ := Aside0.mk ((by rw [hg]; exact (below_size (by repeat (first | (with_reducible first | exact HB.out | apply below_alloc | apply pw_below_drewN | apply below_drew1) | exact HB.out))) : w.heap.size ≤ gb216)); have n5_ := Aside0.mk ((by rw [hg]; exact (below_size (by repeat (first | (with_reducible first | exact HB.out | apply below_alloc | apply pw_below_drewN | apply below_drew1) | exact HB.out))) : w.heap.size ≤ gb216)); clear HO_4; clear HO211; clear HB; have HO_4 := n0_; have HO211 := n1_; have HB := n2_; have BK216 := n3_; have GW216 := n4_; have GE216 := n5_; clear n0_ n1_ n2_ n3_ n4_ n5_; clear hb hbox hg; have hcz33_0 : w32.cell? ⟨gb216, 0, none⟩ = some (.int .i64 0) := (blk_cell BK216.out 0).trans rfl; have hcz33_1 : w32.cell? ⟨gb216, 1, none⟩ = some (.int .i64 0) := (blk_cell BK216.out 1).trans rfl; have hcz33_2 : w32.cell? ⟨gb216, 2, none⟩ = some (.int .i64 0) := (blk_cell BK216.out 2).trans rfl; have hcz33_3 : w32.cell? ⟨gb216, 3, none⟩ = some (.int .i64 0) := (blk_cell BK216.out 3).trans rfl; have hfz33_0 := blk_frozen BK216.out 0; have hfz33_1 := blk_frozen BK216.out 1; have hfz33_2 := blk_frozen BK216.out 2; have hfz33_3 := blk_frozen BK216.out 3) | ((with_reducible refine gate_callee (f := 47) rfl ?_); refine goesL_ (some 27) rfl rfl Tryd.func47 (by kernel_rfl) rfl #[.agg #[.int .i64 t212, .int .i64 t213, .int .i64 t214, .int .i64 t215]] rfl (by (try simp only [List.map_toArray, List.map_cons, List.map_nil]); first | done | rfl | (simp only [List.length_drop, List.length_take]; rfl)) ?_; (with_reducible refine (trace_Line.calls k1 t212 t213 t214 t215 t217 t218 _ A7.out ?side1).mono ?_); (case side1 => exact Gl.below HG.out (by repeat (first | (with_reducible first | exact HB.out | apply below_alloc | apply pw_below_drewN | apply below_drew1 | refine below_set ?_ GE216.out) | exact HB.out))); rintro e w34 ⟨rfl, hb⟩; refine ⟨_, rfl, ?_⟩; have n0_ := Aside0.mk (Kd.R_below (by (with_reducible repeat (first | apply Kd.R_alloc | apply Kd.R_drewN | apply Kd.R_drew)); exact (Kd.R_mono (Kd.R_far (p := ⟨gb216, 3, none⟩) (Kd.R_far (p := ⟨gb216, 2, none⟩) (Kd.R_far (p := ⟨gb216, 1, none⟩) (Kd.R_far (p := ⟨gb216, 0, none⟩) (Kd.R_mono HO_4.out (fun k_ hk => (⟨hk, hk.2⟩ : _ ∧ k_ ≠ gb216))) (fun _ hk => hk.2) (.int .i64 t212)) (fun _ hk => hk.2) (.int .i64 t213)) (fun _ hk => hk.2) (.int .i64 t214)) (fun _ hk => hk.2) (.int .i64 t215)) (fun _ h_ => h_.1))) hb); have n1_ := Aside0.mk (Kd.R_below (by (with_reducible repeat (first | apply Kd.R_alloc | apply Kd.R_drewN | apply Kd.R_drew)); exact (Kd.R_mono (Kd.R_far (p := ⟨gb216, 3, none⟩) (Kd.R_far (p := ⟨gb216, 2, none⟩) (Kd.R_far (p := ⟨gb216, 1, none⟩) (Kd.R_far (p := ⟨gb216, 0, none⟩) (Kd.R_types HO211.out BK216.out (by decide)) (fun _ hk => hk.2) (.int .i64 t212)) (fun _ hk => hk.2) (.int .i64 t213)) (fun _ hk => hk.2) (.int .i64 t214)) (fun _ hk => hk.2) (.int .i64 t215)) (fun _ h_ => h_.1))) hb); have n2_ := Aside0.mk (blk_below (g := gb216) (o := .cells #[.int .i64 t212, .int .i64 t213, .int .i64 t214, .int .i64 t215] 72 (0, 0)) (by (with_reducible repeat (first | refine blk_drewN ?_ _ | refine blk_drew ?_ | refine blk_alloc ?_ _)); refine blk_put (cs := #[.int .i64 t212, .int .i64 t213, .int .i64 t214, .int .i64 0]) ?_ 3 _ rfl; (with_reducible repeat (first | refine blk_drewN ?_ _ | refine blk_drew ?_ | refine blk_alloc ?_ _)); refine blk_put (cs := #[.int .i64 t212, .int .i64 t213, .int .i64 0, .int .i64 0]) ?_ 2 _ rfl; (with_reducible repeat (first | refine blk_drewN ?_ _ | refine blk_drew ?_ | refine blk_alloc ?_ _)); refine blk_put (cs := #[.int .i64 t212, .int .i64 0, .int .i64 0, .int .i64 0]) ?_ 1 _ rfl; (with_reducible repeat (first | refine blk_drewN ?_ _ | refine blk_drew ?_ | refine blk_alloc ?_ _)); refine blk_put (cs := #[.int .i64 0, .int .i64 0, .int .i64 0, .int .i64 0]) ?_ 0 _ rfl; (with_reducible repeat (first | refine blk_drewN ?_ _ | refine blk_drew ?_ | refine blk_alloc ?_ _)); exact BK216.out) hb); have n3_ := Aside0.mk (below_step (by repeat (first | (with_reducible first | exact HB.out | apply below_alloc | apply pw_below_drewN | apply below_drew1 | refine below_set ?_ GE216.out) | exact HB.out)) hb); clear HO_4; clear HO211; clear BK216; clear HB; have HO_4 := n0_; have HO211 := n1_; have BK216 := n2_; have HB := n3_; clear n0_ n1_ n2_ n3_; (try clear hb); (try clear hb2); (try clear hk); (try clear hi)))
       go_ret2
       exact ⟨_, by first | rfl | (simp [errW_none, errW_some] <;> rfl) | (simp [*, errW_none, errW_some] <;> rfl), by first | exact Kd.R_nil _ _ _ _ _ | exact Kd.N_nil _ _ _ _ _ | exact Kd.V_nil _ _ _ _ _ | exact Kd.Q_nil _ _ _ _ _ | exact Kd.S_nil _ _ _ _ _, by repeat (first | (with_reducible first | exact HB.out | apply below_alloc | apply pw_below_drewN | apply below_drew1 | refine below_set ?_ GE216.out) | exact HB.out)⟩
     ·replace c8 := Bool.eq_false_iff.mpr c8
      subst c8
      have H1 : (some (([] : List (S72)), 2)) = some (r1, r2) := by rw [if_neg (show ¬ (false = true) by decide)] at H; exact H
      clear H
      have H := H1
      clear H1
      simp only [Option.some.injEq, Prod.mk.injEq] at H
      obtain ⟨rfl, rfl⟩ := H
      go_wp2_with (first | ((with_reducible refine gate_callee (f := 96) rfl ?_); refine goesL_ (some 18) rfl rfl Tryd.func96 (by kernel_rfl) rfl #[.string x0_1, .string (⟨#[10]⟩ : ByteArray)] rfl (by (try simp only [List.map_toArray, List.map_cons, List.map_nil]); first | done | rfl | (simp only [List.length_drop, List.length_take]; rfl)) ?_; (with_reducible refine (o_Cut.calls x0_1 (⟨#[10]⟩ : ByteArray) t206 t207 false _ A4.out ?side1).mono ?_); (case side1 => exact Gl.below HG.out (by repeat (first | (with_reducible first | exact HB.out | apply below_alloc | apply pw_below_drewN | apply below_drew1) | exact HB.out))); rintro e w35 ⟨rfl, hb⟩; refine ⟨_, rfl, ?_⟩; have n0_ := Aside0.mk (Kd.R_below (by (with_reducible repeat (first | apply Kd.R_alloc | apply Kd.R_drewN | apply Kd.R_drew)); exact HO_4.out) hb); have n1_ := Aside0.mk (below_step (by repeat (first | (with_reducible first | exact HB.out | apply below_alloc | apply pw_below_drewN | apply below_drew1) | exact HB.out)) hb); clear HO_4; clear HB; have HO_4 := n0_; have HB := n1_; clear n0_ n1_; (try clear hb); (try clear hb2); (try clear hk); (try clear hi)) | ((with_reducible refine gate_callee (f := 89) rfl ?_); refine goesL_ (some 23) rfl rfl Tryd.func89 (by kernel_rfl) rfl #[.string t206, .string (⟨#[32]⟩ : ByteArray)] rfl (by (try simp only [List.map_toArray, List.map_cons, List.map_nil]); first | done | rfl | (simp only [List.length_drop, List.length_take]; rfl)) ?_; (with_reducible refine (o_Split.calls t206 (⟨#[32]⟩ : ByteArray) t209 _ A5.out ?side1).mono ?_); (case side1 => exact Gl.below HG.out (by repeat (first | (with_reducible first | exact HB.out | apply below_alloc | apply pw_below_drewN | apply below_drew1) | exact HB.out))); rintro e w36 ⟨v210, rfl, ho0, hb⟩; refine ⟨_, rfl, ?_⟩; have n0_ := Aside0.mk (Kd.R_below (by (with_reducible repeat (first | apply Kd.R_alloc | apply Kd.R_drewN | apply Kd.R_drew)); exact HO_4.out) hb); have n1_ := Aside0.mk (Kd.R_lower ho0 (below_size (by repeat (first | (with_reducible first | exact HB.out | apply below_alloc | apply pw_below_drewN | apply below_drew1) | exact HB.out)))); have n2_ := Aside0.mk (below_step (by repeat (first | (with_reducible first | exact HB.out | apply below_alloc | apply pw_below_drewN | apply below_drew1) | exact HB.out)) hb); clear HO_4; clear HB; have HO_4 := n0_; have HO211 := n1_; have HB := n2_; clear n0_ n1_ n2_; (try clear hb); (try clear hb2); (try clear hk); (try clear hi); (try clear ho0); obtain ⟨Ao37, co37, eo37⟩ := Kd.R_slice HO211.out; subst eo37) | ((with_reducible refine gate_callee (f := 97) rfl ?_); refine goesL_ (some 24) rfl rfl Tryd.func97 (by kernel_rfl) rfl #[.slice Ao37 t209.length co37] rfl (by (try simp only [List.map_toArray, List.map_cons, List.map_nil]); first | done | rfl | (simp only [List.length_drop, List.length_take]; rfl)) ?_; (with_reducible refine (trace_guess.calls k1 _ _ t209 t212 t213 t214 t215 _ ?side1 ?side2 A6.out ?side3).mono ?_); (case side1 => repeat (first | exact (Kd.R_reads' HO211.out).2.2 | (with_reducible refine Kd.C_alloc ?_ _) | (with_reducible refine Kd.C_drewN ?_ _) | (with_reducible refine Kd.C_drew ?_))); (case side2 => exact (Kd.R_reads' HO211.out).2.1); (case side3 => exact Gl.below HG.out (by repeat (first | (with_reducible first | exact HB.out | apply below_alloc | apply pw_below_drewN | apply below_drew1) | exact HB.out))); rintro e w38 ⟨rfl, hb⟩; refine ⟨_, rfl, ?_⟩; have n0_ := Aside0.mk (Kd.R_below (by (with_reducible repeat (first | apply Kd.R_alloc | apply Kd.R_drewN | apply Kd.R_drew)); exact HO_4.out) hb); have n1_ := Aside0.mk (Kd.R_below (by (with_reducible repeat (first | apply Kd.R_alloc | apply Kd.R_drewN | apply Kd.R_drew)); exact HO211.out) hb); have n2_ := Aside0.mk (below_step (by repeat (first | (with_reducible first | exact HB.out | apply below_alloc | apply pw_below_drewN | apply below_drew1) | exact HB.out)) hb); clear HO_4; clear HO211; clear HB; have HO_4 := n0_; have HO211 := n1_; have HB := n2_; clear n0_ n1_ n2_; (try clear hb); (try clear hb2); (try clear hk); (try clear hi)) | ((with_reducible refine gate_dst (N := 8) rfl ?_); refine box_event ?hg (N := 8) ?hd (cs := #[.int .i64 0, .int .i64 0, .int .i64 0, .int .i64 0]) (t := 72) ?hr ?_; (case hd => rfl); (case hg => rfl); (case hr => first | (go_simp; done) | (go_simp; rfl)); intro gb216 hg w39 hbox hb; have n0_ := Aside0.mk (Kd.R_below (Kd.R_elderB (by (with_reducible repeat (first | apply Kd.R_alloc | apply Kd.R_drewN | apply Kd.R_drew)); exact HO_4.out) gb216 (Nat.le_of_eq hg.symm)) hb); have n1_ := Aside0.mk (Kd.R_below (by (with_reducible repeat (first | apply Kd.R_alloc | apply Kd.R_drewN | apply Kd.R_drew)); exact HO211.out) hb); have n2_ := Aside0.mk (below_step (by repeat (first | (with_reducible first | exact HB.out | apply below_alloc | apply pw_below_drewN | apply below_drew1) | exact HB.out)) hb); have n3_ := Aside0.mk (hbox); have n4_ := Aside0.mk ((by rw [hg]; exact (below_size (by repeat (first | (with_reducible first | exact HB.out | apply below_alloc | apply pw_below_drewN | apply below_drew1) | exact HB.out))) : w.heap.size ≤ gb216)); have n5_ := Aside0.mk ((by rw [hg]; exact (below_size (by repeat (first | (with_reducible first | exact HB.out | apply below_alloc | apply pw_below_drewN | apply below_drew1) | exact HB.out))) : w.heap.size ≤ gb216)); clear HO_4; clear HO211; clear HB; have HO_4 := n0_; have HO211 := n1_; have HB := n2_; have BK216 := n3_; have GW216 := n4_; have GE216 := n5_; clear n0_ n1_ n2_ n3_ n4_ n5_; clear hb hbox hg; have hcz40_0 : w39.cell? ⟨gb216, 0, none⟩ = some (.int .i64 0) := (blk_cell BK216.out 0).trans rfl; have hcz40_1 : w39.cell? ⟨gb216, 1, none⟩ = some (.int .i64 0) := (blk_cell BK216.out 1).trans rfl; have hcz40_2 : w39.cell? ⟨gb216, 2, none⟩ = some (.int .i64 0) := (blk_cell BK216.out 2).trans rfl; have hcz40_3 : w39.cell? ⟨gb216, 3, none⟩ = some (.int .i64 0) := (blk_cell BK216.out 3).trans rfl; have hfz40_0 := blk_frozen BK216.out 0; have hfz40_1 := blk_frozen BK216.out 1; have hfz40_2 := blk_frozen BK216.out 2; have hfz40_3 := blk_frozen BK216.out 3) | ((with_reducible refine gate_callee (f := 47) rfl ?_); refine goesL_ (some 27) rfl rfl Tryd.func47 (by kernel_rfl) rfl #[.agg #[.int .i64 t212, .int .i64 t213, .int .i64 t214, .int .i64 t215]] rfl (by (try simp only [List.map_toArray, List.map_cons, List.map_nil]); first | done | rfl | (simp only [List.length_drop, List.length_take]; rfl)) ?_; (with_reducible refine (trace_Line.calls k1 t212 t213 t214 t215 t217 t218 _ A7.out ?side1).mono ?_); (case side1 => exact Gl.below HG.out (by repeat (first | (with_reducible first | exact HB.out | apply below_alloc | apply pw_below_drewN | apply below_drew1 | refine below_set ?_ GE216.out) | exact HB.out))); rintro e w41 ⟨rfl, hb⟩; refine ⟨_, rfl, ?_⟩; have n0_ := Aside0.mk (Kd.R_below (by (with_reducible repeat (first | apply Kd.R_alloc | apply Kd.R_drewN | apply Kd.R_drew)); exact (Kd.R_mono (Kd.R_far (p := ⟨gb216, 3, none⟩) (Kd.R_far (p := ⟨gb216, 2, none⟩) (Kd.R_far (p := ⟨gb216, 1, none⟩) (Kd.R_far (p := ⟨gb216, 0, none⟩) (Kd.R_mono HO_4.out (fun k_ hk => (⟨hk, hk.2⟩ : _ ∧ k_ ≠ gb216))) (fun _ hk => hk.2) (.int .i64 t212)) (fun _ hk => hk.2) (.int .i64 t213)) (fun _ hk => hk.2) (.int .i64 t214)) (fun _ hk => hk.2) (.int .i64 t215)) (fun _ h_ => h_.1))) hb); have n1_ := Aside0.mk (Kd.R_below (by (with_reducible repeat (first | apply Kd.R_alloc | apply Kd.R_drewN | apply Kd.R_drew)); exact (Kd.R_mono (Kd.R_far (p := ⟨gb216, 3, none⟩) (Kd.R_far (p := ⟨gb216, 2, none⟩) (Kd.R_far (p := ⟨gb216, 1, none⟩) (Kd.R_far (p := ⟨gb216, 0, none⟩) (Kd.R_types HO211.out BK216.out (by decide)) (fun _ hk => hk.2) (.int .i64 t212)) (fun _ hk => hk.2) (.int .i64 t213)) (fun _ hk => hk.2) (.int .i64 t214)) (fun _ hk => hk.2) (.int .i64 t215)) (fun _ h_ => h_.1))) hb); have n2_ := Aside0.mk (blk_below (g := gb216) (o := .cells #[.int .i64 t212, .int .i64 t213, .int .i64 t214, .int .i64 t215] 72 (0, 0)) (by (with_reducible repeat (first | refine blk_drewN ?_ _ | refine blk_drew ?_ | refine blk_alloc ?_ _)); refine blk_put (cs := #[.int .i64 t212, .int .i64 t213, .int .i64 t214, .int .i64 0]) ?_ 3 _ rfl; (with_reducible repeat (first | refine blk_drewN ?_ _ | refine blk_drew ?_ | refine blk_alloc ?_ _)); refine blk_put (cs := #[.int .i64 t212, .int .i64 t213, .int .i64 0, .int .i64 0]) ?_ 2 _ rfl; (with_reducible repeat (first | refine blk_drewN ?_ _ | refine blk_drew ?_ | refine blk_alloc ?_ _)); refine blk_put (cs := #[.int .i64 t212, .int .i64 0, .int .i64 0, .int .i64 0]) ?_ 1 _ rfl; (with_reducible repeat (first | refine blk_drewN ?_ _ | refine blk_drew ?_ | refine blk_alloc ?_ _)); refine blk_put (cs := #[.int .i64 0, .int .i64 0, .int .i64 0, .int .i64 0]) ?_ 0 _ rfl; (with_reducible repeat (first | refine blk_drewN ?_ _ | refine blk_drew ?_ | refine blk_alloc ?_ _)); exact BK216.out) hb); have n3_ := Aside0.mk (below_step (by repeat (first | (with_reducible first | exact HB.out | apply below_alloc | apply pw_below_drewN | apply below_drew1 | refine below_set ?_ GE216.out) | exact HB.out)) hb); clear HO_4; clear HO211; clear BK216; clear HB; have HO_4 := n0_; have HO211 := n1_; have BK216 := n2_; have HB := n3_; clear n0_ n1_ n2_ n3_; (try clear hb); (try clear hb2); (try clear hk); (try clear hi)))
      go_ret2
      exact ⟨_, by first | rfl | (simp [errW_none, errW_some] <;> rfl) | (simp [*, errW_none, errW_some] <;> rfl), by first | exact Kd.R_nil _ _ _ _ _ | exact Kd.N_nil _ _ _ _ _ | exact Kd.V_nil _ _ _ _ _ | exact Kd.Q_nil _ _ _ _ _ | exact Kd.S_nil _ _ _ _ _, by repeat (first | (with_reducible first | exact HB.out | apply below_alloc | apply pw_below_drewN | apply below_drew1 | refine below_set ?_ GE216.out) | exact HB.out)⟩
def trace_Of.l0 : Nat → Int → List (S72) → List (S72) → Int → Int → Option ((List (S72)))
 | 0, _, _, _, _, _ => none
 | k + 1, x1, x5, x8, x9, x10 => if x10 < x9 then (if 0 ≤ x10 then (if x10 < (x8.length : Int) then (if ((rd_T72 x8 x10).f1) = x1 then (if x5.length < 4398046511104 then (trace_Of.l0 k x1 (x5 ++ [(⟨(rd_T72 x8 x10).f0, (rd_T72 x8 x10).f1, (rd_T72 x8 x10).f2, (rd_T72 x8 x10).f3⟩ : S72)]) x8 x9 (wrap64 (x10 + 1))) else (none)) else (trace_Of.l0 k x1 x5 x8 x9 (wrap64 (x10 + 1)))) else (none)) else (none)) else (some x5)
def trace_Of.f (k : Nat) (l0 : List (S72)) (a1 : Int) : Option ((List (S72))) := trace_Of.l0 k a1 ([] : List (S72)) l0 (l0.length : Int) 0
theorem trace_Of.mono_l : ∀ k, (∀ y0 y1 y2 y3 y4, LeO (trace_Of.l0 k y0 y1 y2 y3 y4) (trace_Of.l0 (k + 1) y0 y1 y2 y3 y4))
 | 0 => fun _ _ _ _ _ r h => by simp [trace_Of.l0] at h
 | k + 1 => by
  have ih0 := trace_Of.mono_l k
  ·intro y0 y1 y2 y3 y4
   unfold trace_Of.l0
   repeat' first
   | (with_reducible exact ih0 _ _ _ _ _)
   | (with_reducible exact LeO.refl _)
   | (with_reducible exact LeO.none _)
   | (with_reducible refine LeO.ite ?_ ?_)
   | (with_reducible refine LeO.bind ?_ (fun _ => ?_))
   | exact ih0 _ _ _ _ _
   | exact LeO.none _
   | refine LeO.ite ?_ ?_
   | refine LeO.bind ?_ (fun _ => ?_)
theorem trace_Of.mono : ∀ a0 a1 k, LeO (trace_Of.f k a0 a1) (trace_Of.f (k + 1) a0 a1) := by
 intro a0 a1 k
 have ih0 := trace_Of.mono_l k
 unfold trace_Of.f
 repeat' first
   | (with_reducible exact ih0 _ _ _ _ _)
   | (with_reducible exact LeO.refl _)
   | (with_reducible exact LeO.none _)
   | (with_reducible refine LeO.ite ?_ ?_)
   | (with_reducible refine LeO.bind ?_ (fun _ => ?_))
   | exact ih0 _ _ _ _ _
   | exact LeO.none _
   | refine LeO.ite ?_ ?_
   | refine LeO.bind ?_ (fun _ => ?_)
set_option maxHeartbeats 8000000 in
set_option maxRecDepth 100000 in
theorem trace_Of.calls (k : Nat) (A0 : Option Addr) (c0 : Nat) (l0 : List (S72)) (a1 : Int) (r : List (S72)) (w : World) (hr0 : Kd.C k72 w A0 l0.length l0) (hc0 : l0.length ≤ c0) (h : trace_Of.f k l0 a1 = some r) :
  Calls Tryd.prog 95 #[.slice A0 l0.length c0, .int .i64 a1] w fun e w' => ∃ v0_ : Value, e = .returned (v0_) ∧ Kd.R k72 72 w' w.heap.size (fun _ => True) v0_ r ∧ Below w.heap.size w w' := by
 have hu72 := Tryd.underlying72
 have HR0 := Aside0.mk hr0
 have HC0 := Aside0.mk hc0
 clear hr0 hc0
 have HB := Aside0.mk (Below.refl w.heap.size w)
 have H : (trace_Of.l0 k a1 ([] : List (S72)) l0 (l0.length : Int) 0) = some r := h
 clear h
 have H' := Aside0.mk H
 clear H
 go_enter Tryd.func95, Tryd.ntmps95
 go_wp2
 go_loopg [5, 10] k (fun kq v5 v10 w' => ∃ (x5_1 : List (S72)) (x10_1 : Int), v10 = .int .i64 x10_1 ∧ Aside0 (trace_Of.l0 kq a1 x5_1 l0 (l0.length : Int) x10_1 = some r) ∧ Aside0 (kq ≤ k) ∧ Aside0 (Kd.R k72 72 w' w.heap.size (fun _ => True) v5 x5_1) ∧ Aside0 (Below w.heap.size w w'))
 case atStart => exact ⟨(([] : List (S72))), (0), (by first | rfl | (simp; done) | (simp only [emptyNe_, emptyEq_]; done) | (simp [*]; done)), H', ⟨Nat.le_refl _⟩, ⟨by first | exact Kd.R_nil _ _ _ _ _ | exact Kd.N_nil _ _ _ _ _ | exact Kd.V_nil _ _ _ _ _ | exact Kd.Q_nil _ _ _ _ _ | exact Kd.S_nil _ _ _ _ _⟩, ⟨by repeat (first | (with_reducible first | exact HB.out | apply below_alloc | apply pw_below_drewN | apply below_drew1) | exact HB.out)⟩⟩
 case round =>
  clear H'; try clear p2
  obtain ⟨x5_1, x10_1, rfl, HA, HK1, HO_5, HB⟩ := hrel
  cases gk with
  | zero => exact absurd HA.out (by simp [trace_Of.l0])
  | succ k1 =>
   have H := HA.out
   clear HA
   simp only [trace_Of.l0] at H
   by_cases c3 : x10_1 < (l0.length : Int)
   ·rw [if_pos c3] at H
    have c3b0 : decide (x10_1 < (l0.length : Int)) = true := decide_eq_true c3
    clear c3
    by_cases c4 : 0 ≤ x10_1
    ·rw [if_pos c4] at H
     have c4b0 : decide (0 ≤ x10_1) = true := decide_eq_true c4
     clear c4
     by_cases c5 : x10_1 < (l0.length : Int)
     ·rw [if_pos c5] at H
      have c5b0 : decide (x10_1 < (l0.length : Int)) = true := decide_eq_true c5
      clear c5
      by_cases c6 : ((rd_T72 l0 x10_1).f1) = a1
      ·rw [if_pos c6] at H
       have c6b0 : (((rd_T72 l0 x10_1).f1) == a1) = true := beq_iff_eq.mpr c6
       have c6b1 : (((rd_T72 l0 x10_1).f1) != a1) = false := bne_eq_false_iff_eq.mpr c6
       clear c6
       by_cases c7 : x5_1.length < 4398046511104
       ·rw [if_pos c7] at H
        have LMc7 := Aside0.mk c7
        clear c7
        obtain ⟨y224, hy224⟩ : ∃ y_ : List (S72), y_ = (x5_1 ++ [(⟨(rd_T72 l0 x10_1).f0, (rd_T72 l0 x10_1).f1, (rd_T72 l0 x10_1).f2, (rd_T72 l0 x10_1).f3⟩ : S72)]) := ⟨_, rfl⟩
        replace H : (trace_Of.l0 k1 a1 y224 l0 (l0.length : Int) (wrap64 (x10_1 + 1))) = some r := by first | (rw [hy224]; with_reducible exact H) | (have H2_ := (Option.bind_some _ _).symm.trans H; rw [hy224]; with_reducible exact H2_) | (have H2_ := (Option.bind_some _ _).symm.trans H; with_reducible exact H2_) | with_reducible exact H | (rw [hy224]; exact H) | exact H
        have Ny224 := Aside0.mk hy224
        clear hy224
        have H' := Aside0.mk H
        clear H
        have p222 : 0 ≤ (x10_1 : Int) := of_decide_eq_true (by first | (with_reducible assumption) | assumption)
        have q222 : x10_1 < (l0.length : Int) := of_decide_eq_true (by first | (with_reducible assumption) | assumption)
        obtain ⟨ad222, e222, hx222_0, hx222_1, hx222_2, hx222_3⟩ := at_T72 HR0.out x10_1 p222 q222
        cases e222
        replace hx222_0 := (HB.out.cell (World.block_lt_of_cell? w _ hx222_0)).trans hx222_0
        replace hx222_1 := (HB.out.cell (World.block_lt_of_cell? w _ hx222_1)).trans hx222_1
        replace hx222_2 := (HB.out.cell (World.block_lt_of_cell? w _ hx222_2)).trans hx222_2
        replace hx222_3 := (HB.out.cell (World.block_lt_of_cell? w _ hx222_3)).trans hx222_3
        replace p222 := eq_true p222
        replace q222 := eq_true q222
        go_wp2_with (first | ((with_reducible refine gate_dst (N := 7) rfl ?_); refine box_event ?hg (N := 7) ?hd (cs := #[.int .i64 0, .int .i64 0, .int .i64 0, .int .i64 0]) (t := 72) ?hr ?_; (case hd => rfl); (case hg => rfl); (case hr => first | (go_simp; done) | (go_simp; rfl)); intro gb223 hg w8 hbox hb; have n0_ := Aside0.mk (Kd.R_below (Kd.R_elderB (by (with_reducible repeat (first | apply Kd.R_alloc | apply Kd.R_drewN | apply Kd.R_drew)); exact HO_5.out) gb223 (Nat.le_of_eq hg.symm)) hb); have n1_ := Aside0.mk (below_step (by repeat (first | (with_reducible first | exact HB.out | apply below_alloc | apply pw_below_drewN | apply below_drew1) | exact HB.out)) hb); have n2_ := Aside0.mk (hbox); have n3_ := Aside0.mk ((by rw [hg]; exact (below_size (by repeat (first | (with_reducible first | exact HB.out | apply below_alloc | apply pw_below_drewN | apply below_drew1) | exact HB.out))) : w.heap.size ≤ gb223)); have n4_ := Aside0.mk ((by rw [hg]; exact (below_size (by repeat (first | (with_reducible first | exact HB.out | apply below_alloc | apply pw_below_drewN | apply below_drew1) | exact HB.out))) : w.heap.size ≤ gb223)); clear HO_5; clear HB; have HO_5 := n0_; have HB := n1_; have BK223 := n2_; have GW223 := n3_; have GE223 := n4_; clear n0_ n1_ n2_ n3_ n4_; clear hb hbox hg; have hcz9_0 : w8.cell? ⟨gb223, 0, none⟩ = some (.int .i64 0) := (blk_cell BK223.out 0).trans rfl; have hcz9_1 : w8.cell? ⟨gb223, 1, none⟩ = some (.int .i64 0) := (blk_cell BK223.out 1).trans rfl; have hcz9_2 : w8.cell? ⟨gb223, 2, none⟩ = some (.int .i64 0) := (blk_cell BK223.out 2).trans rfl; have hcz9_3 : w8.cell? ⟨gb223, 3, none⟩ = some (.int .i64 0) := (blk_cell BK223.out 3).trans rfl; have hfz9_0 := blk_frozen BK223.out 0; have hfz9_1 := blk_frozen BK223.out 1; have hfz9_2 := blk_frozen BK223.out 2; have hfz9_3 := blk_frozen BK223.out 3) | ((with_reducible refine gate_builtin (b := .append) (xs := #[.tmp 18, .tmp 20]) rfl ?_); at_builtin; refine Kd.R_append k72 (w0 := w) w.heap.size rfl (.tmp 18) (.tmp 20) 73 72 (.agg #[(.int .i64 0), (.int .i64 0), (.int .i64 0), (.int .i64 0)]) 32 rfl Tryd.underlying73 info72 rfl (by decide) (by omega) u5 x5_1 (⟨(rd_T72 l0 x10_1).f0, (rd_T72 l0 x10_1).f1, (rd_T72 l0 x10_1).f2, (rd_T72 l0 x10_1).f3⟩ : S72) [.int .i64 ((rd_T72 l0 x10_1).f0), .int .i64 ((rd_T72 l0 x10_1).f1), .int .i64 ((rd_T72 l0 x10_1).f2), .int .i64 ((rd_T72 l0 x10_1).f3)] (fun k_ => k_ ≠ gb223) (fun _ => False) rfl (by first | (go_simp; done) | (go_simp; rfl)) ?aP (fun _ hk => hk.elim) ?aF ?aO ?aB ?aS ?aL ?_; (case aP => exact k72_mkM _ _ _ (⟨(rd_T72 l0 x10_1).f0, (rd_T72 l0 x10_1).f1, (rd_T72 l0 x10_1).f2, (rd_T72 l0 x10_1).f3⟩ : S72)); (case aB => exact (by repeat (first | (with_reducible first | exact HB.out | apply below_alloc | apply pw_below_drewN | apply below_drew1 | refine below_set ?_ GE223.out) | exact HB.out))); (case aF => exact (fun k_ hk => Kd.freshB (g := gb223) (o := .cells #[.int .i64 ((rd_T72 l0 x10_1).f0), .int .i64 ((rd_T72 l0 x10_1).f1), .int .i64 ((rd_T72 l0 x10_1).f2), .int .i64 ((rd_T72 l0 x10_1).f3)] 72 (0, 0)) (by (with_reducible repeat (first | refine blk_drewN ?_ _ | refine blk_drew ?_ | refine blk_alloc ?_ _)); refine blk_put (cs := #[.int .i64 ((rd_T72 l0 x10_1).f0), .int .i64 ((rd_T72 l0 x10_1).f1), .int .i64 ((rd_T72 l0 x10_1).f2), .int .i64 0]) ?_ 3 _ rfl; (with_reducible repeat (first | refine blk_drewN ?_ _ | refine blk_drew ?_ | refine blk_alloc ?_ _)); refine blk_put (cs := #[.int .i64 ((rd_T72 l0 x10_1).f0), .int .i64 ((rd_T72 l0 x10_1).f1), .int .i64 0, .int .i64 0]) ?_ 2 _ rfl; (with_reducible repeat (first | refine blk_drewN ?_ _ | refine blk_drew ?_ | refine blk_alloc ?_ _)); refine blk_put (cs := #[.int .i64 ((rd_T72 l0 x10_1).f0), .int .i64 0, .int .i64 0, .int .i64 0]) ?_ 1 _ rfl; (with_reducible repeat (first | refine blk_drewN ?_ _ | refine blk_drew ?_ | refine blk_alloc ?_ _)); refine blk_put (cs := #[.int .i64 0, .int .i64 0, .int .i64 0, .int .i64 0]) ?_ 0 _ rfl; (with_reducible repeat (first | refine blk_drewN ?_ _ | refine blk_drew ?_ | refine blk_alloc ?_ _)); exact BK223.out) k_ hk)); (case aO => exact (by (with_reducible repeat (first | apply Kd.R_alloc | apply Kd.R_drewN | apply Kd.R_drew)); exact Kd.R_mono (Kd.R_far (p := ⟨gb223, 3, none⟩) (Kd.R_far (p := ⟨gb223, 2, none⟩) (Kd.R_far (p := ⟨gb223, 1, none⟩) (Kd.R_far (p := ⟨gb223, 0, none⟩) (Kd.R_mono HO_5.out (fun k_ hk => (⟨hk, hk.2⟩ : _ ∧ k_ ≠ gb223))) (fun _ hk => hk.2) (.int .i64 ((rd_T72 l0 x10_1).f0))) (fun _ hk => hk.2) (.int .i64 ((rd_T72 l0 x10_1).f1))) (fun _ hk => hk.2) (.int .i64 ((rd_T72 l0 x10_1).f2))) (fun _ hk => hk.2) (.int .i64 ((rd_T72 l0 x10_1).f3))) (fun _ hk => hk.1.2))); (case aS => exact (below_size (by repeat (first | (with_reducible first | exact HB.out | apply below_alloc | apply pw_below_drewN | apply below_drew1 | refine below_set ?_ GE223.out) | exact HB.out)))); (case aL => have := LMc7.out; omega); intro v225 w10 ho hb hg hat; rw [← Ny224.out] at ho; have n0_ := Aside0.mk (blk_grown (g := gb223) (o := .cells #[.int .i64 ((rd_T72 l0 x10_1).f0), .int .i64 ((rd_T72 l0 x10_1).f1), .int .i64 ((rd_T72 l0 x10_1).f2), .int .i64 ((rd_T72 l0 x10_1).f3)] 72 (0, 0)) (by (with_reducible repeat (first | refine blk_drewN ?_ _ | refine blk_drew ?_ | refine blk_alloc ?_ _)); refine blk_put (cs := #[.int .i64 ((rd_T72 l0 x10_1).f0), .int .i64 ((rd_T72 l0 x10_1).f1), .int .i64 ((rd_T72 l0 x10_1).f2), .int .i64 0]) ?_ 3 _ rfl; (with_reducible repeat (first | refine blk_drewN ?_ _ | refine blk_drew ?_ | refine blk_alloc ?_ _)); refine blk_put (cs := #[.int .i64 ((rd_T72 l0 x10_1).f0), .int .i64 ((rd_T72 l0 x10_1).f1), .int .i64 0, .int .i64 0]) ?_ 2 _ rfl; (with_reducible repeat (first | refine blk_drewN ?_ _ | refine blk_drew ?_ | refine blk_alloc ?_ _)); refine blk_put (cs := #[.int .i64 ((rd_T72 l0 x10_1).f0), .int .i64 0, .int .i64 0, .int .i64 0]) ?_ 1 _ rfl; (with_reducible repeat (first | refine blk_drewN ?_ _ | refine blk_drew ?_ | refine blk_alloc ?_ _)); refine blk_put (cs := #[.int .i64 0, .int .i64 0, .int .i64 0, .int .i64 0]) ?_ 0 _ rfl; (with_reducible repeat (first | refine blk_drewN ?_ _ | refine blk_drew ?_ | refine blk_alloc ?_ _)); exact BK223.out) hg (Kd.R_away HO_5.out (fun _ hk => hk.2))); have n1_ := Aside0.mk (hb); have n2_ := Aside0.mk (ho); clear BK223; clear HB; clear HO_5; have BK223 := n0_; have HB := n1_; have HO226 := n2_; clear n0_ n1_ n2_; clear ho hb hg hat))
        go_roundg k1
        case measure => have := HK1.out; omega
        case rel => exact ⟨(y224), (wrap64 (x10_1 + 1)), (by first | rfl | (simp; done) | (simp only [emptyNe_, emptyEq_]; done) | (simp [*]; done)), H', ⟨by have := HK1.out; omega⟩, ⟨by (with_reducible repeat (first | apply Kd.R_alloc | apply Kd.R_drewN | apply Kd.R_drew)); exact Kd.R_mono HO226.out (fun _ hk => trivial)⟩, ⟨by repeat (first | (with_reducible first | exact HB.out | apply below_alloc | apply pw_below_drewN | apply below_drew1 | refine below_set ?_ GE223.out) | exact HB.out)⟩⟩
       ·rw [if_neg c7] at H
        exact absurd H (by simp)
      ·rw [if_neg c6] at H
       have c6b0 : (((rd_T72 l0 x10_1).f1) == a1) = false := beq_eq_false_iff_ne.mpr c6
       have c6b1 : (((rd_T72 l0 x10_1).f1) != a1) = true := bne_iff_ne.mpr c6
       have H' := Aside0.mk H
       clear H
       have p222 : 0 ≤ (x10_1 : Int) := of_decide_eq_true (by first | (with_reducible assumption) | assumption)
       have q222 : x10_1 < (l0.length : Int) := of_decide_eq_true (by first | (with_reducible assumption) | assumption)
       obtain ⟨ad222, e222, hx222_0, hx222_1, hx222_2, hx222_3⟩ := at_T72 HR0.out x10_1 p222 q222
       cases e222
       replace hx222_0 := (HB.out.cell (World.block_lt_of_cell? w _ hx222_0)).trans hx222_0
       replace hx222_1 := (HB.out.cell (World.block_lt_of_cell? w _ hx222_1)).trans hx222_1
       replace hx222_2 := (HB.out.cell (World.block_lt_of_cell? w _ hx222_2)).trans hx222_2
       replace hx222_3 := (HB.out.cell (World.block_lt_of_cell? w _ hx222_3)).trans hx222_3
       replace p222 := eq_true p222
       replace q222 := eq_true q222
       go_wp2_with (first | ((with_reducible refine gate_dst (N := 7) rfl ?_); refine box_event ?hg (N := 7) ?hd (cs := #[.int .i64 0, .int .i64 0, .int .i64 0, .int .i64 0]) (t := 72) ?hr ?_; (case hd => rfl); (case hg => rfl); (case hr => first | (go_simp; done) | (go_simp; rfl)); intro gb223 hg w11 hbox hb; have n0_ := Aside0.mk (Kd.R_below (Kd.R_elderB (by (with_reducible repeat (first | apply Kd.R_alloc | apply Kd.R_drewN | apply Kd.R_drew)); exact HO_5.out) gb223 (Nat.le_of_eq hg.symm)) hb); have n1_ := Aside0.mk (below_step (by repeat (first | (with_reducible first | exact HB.out | apply below_alloc | apply pw_below_drewN | apply below_drew1) | exact HB.out)) hb); have n2_ := Aside0.mk (hbox); have n3_ := Aside0.mk ((by rw [hg]; exact (below_size (by repeat (first | (with_reducible first | exact HB.out | apply below_alloc | apply pw_below_drewN | apply below_drew1) | exact HB.out))) : w.heap.size ≤ gb223)); have n4_ := Aside0.mk ((by rw [hg]; exact (below_size (by repeat (first | (with_reducible first | exact HB.out | apply below_alloc | apply pw_below_drewN | apply below_drew1) | exact HB.out))) : w.heap.size ≤ gb223)); clear HO_5; clear HB; have HO_5 := n0_; have HB := n1_; have BK223 := n2_; have GW223 := n3_; have GE223 := n4_; clear n0_ n1_ n2_ n3_ n4_; clear hb hbox hg; have hcz12_0 : w11.cell? ⟨gb223, 0, none⟩ = some (.int .i64 0) := (blk_cell BK223.out 0).trans rfl; have hcz12_1 : w11.cell? ⟨gb223, 1, none⟩ = some (.int .i64 0) := (blk_cell BK223.out 1).trans rfl; have hcz12_2 : w11.cell? ⟨gb223, 2, none⟩ = some (.int .i64 0) := (blk_cell BK223.out 2).trans rfl; have hcz12_3 : w11.cell? ⟨gb223, 3, none⟩ = some (.int .i64 0) := (blk_cell BK223.out 3).trans rfl; have hfz12_0 := blk_frozen BK223.out 0; have hfz12_1 := blk_frozen BK223.out 1; have hfz12_2 := blk_frozen BK223.out 2; have hfz12_3 := blk_frozen BK223.out 3))
       go_roundg k1
       case measure => have := HK1.out; omega
       case rel => exact ⟨(x5_1), (wrap64 (x10_1 + 1)), (by first | rfl | (simp; done) | (simp only [emptyNe_, emptyEq_]; done) | (simp [*]; done)), H', ⟨by have := HK1.out; omega⟩, ⟨by (with_reducible repeat (first | apply Kd.R_alloc | apply Kd.R_drewN | apply Kd.R_drew)); exact Kd.R_mono (Kd.R_far (p := ⟨gb223, 3, none⟩) (Kd.R_far (p := ⟨gb223, 2, none⟩) (Kd.R_far (p := ⟨gb223, 1, none⟩) (Kd.R_far (p := ⟨gb223, 0, none⟩) (Kd.R_mono HO_5.out (fun k_ hk => (⟨hk, hk.2⟩ : _ ∧ k_ ≠ gb223))) (fun _ hk => hk.2) (.int .i64 ((rd_T72 l0 x10_1).f0))) (fun _ hk => hk.2) (.int .i64 ((rd_T72 l0 x10_1).f1))) (fun _ hk => hk.2) (.int .i64 ((rd_T72 l0 x10_1).f2))) (fun _ hk => hk.2) (.int .i64 ((rd_T72 l0 x10_1).f3))) (fun _ hk => trivial)⟩, ⟨by repeat (first | (with_reducible first | exact HB.out | apply below_alloc | apply pw_below_drewN | apply below_drew1 | refine below_set ?_ GE223.out) | exact HB.out)⟩⟩
     ·rw [if_neg c5] at H
      exact absurd H (by simp)
    ·rw [if_neg c4] at H
     exact absurd H (by simp)
   ·rw [if_neg c3] at H
    have c3b0 : decide (x10_1 < (l0.length : Int)) = false := decide_eq_false c3
    clear c3
    obtain rfl := Option.some.inj H
    go_wp2
    go_ret
    exact ⟨_, by first | rfl | (simp [errW_none, errW_some] <;> rfl) | (simp [*, errW_none, errW_some] <;> rfl), by (with_reducible repeat (first | apply Kd.R_alloc | apply Kd.R_drewN | apply Kd.R_drew)); exact HO_5.out, by repeat (first | (with_reducible first | exact HB.out | apply below_alloc | apply pw_below_drewN | apply below_drew1) | exact HB.out)⟩
def logjamlaw41_lives.f (k : Nat)  : Option (Bool) := (trace_Parse.f k (⟨#[48, 32, 111, 112, 32, 111, 117, 116, 32, 48, 10, 48, 32, 111, 117, 116, 32, 50, 10, 116, 105, 99, 107, 32, 53, 10, 48, 32, 98, 108, 111, 99, 107, 32, 119, 97, 105, 116, 10, 48, 32, 101, 110, 100, 32, 102, 97, 117, 108, 116, 101, 100, 32, 50, 10]⟩ : ByteArray)).bind fun bt227 => ((o_Text.f bt227.1).bind fun bt231 => (if bt227.2 = 0 then (if bt231.2 = 0 then (if ([48, 32, 111, 112, 32, 111, 117, 116, 32, 48, 10, 48, 32, 111, 117, 116, 32, 50, 10, 116, 105, 99, 107, 32, 53, 10, 48, 32, 98, 108, 111, 99, 107, 32, 119, 97, 105, 116, 10, 48, 32, 101, 110, 100, 32, 102, 97, 117, 108, 116, 101, 100, 32, 50, 10] : List UInt8) = bt231.1.toList then (if (bt227.1.length : Int) = 5 then (if 1 < (bt227.1.length : Int) then (if (((rd_T72 bt227.1 1).f0) == 2 && (((rd_T72 bt227.1 1).f1) == 0 && (((rd_T72 bt227.1 1).f2) == 2 && (((rd_T72 bt227.1 1).f3) == 0)))) = true then ((trace_Check.f k 0 0 0 0).bind fun t234 => (if t234 = 6 then ((trace_Of.f k bt227.1 0).bind fun t235 => (some ((t235.length : Int) == 4))) else (some false))) else (some false)) else (none)) else (some false)) else (some false)) else (some false)) else (some false)))
set_option maxHeartbeats 8000000 in
set_option maxRecDepth 100000 in
theorem logjamlaw41_lives.calls (k : Nat)  (r : Bool) (w : World) (h : logjamlaw41_lives.f k  = some r) (hG : Gl w) :
  Calls Tryd.prog 51 #[] w fun e w' => e = .returned (.bool r) ∧ Below w.heap.size w w' := by
 have HG := Aside0.mk hG
 clear hG
 have hu72 := Tryd.underlying72
 have HB := Aside0.mk (Below.refl w.heap.size w)
 have H : ((trace_Parse.f k (⟨#[48, 32, 111, 112, 32, 111, 117, 116, 32, 48, 10, 48, 32, 111, 117, 116, 32, 50, 10, 116, 105, 99, 107, 32, 53, 10, 48, 32, 98, 108, 111, 99, 107, 32, 119, 97, 105, 116, 10, 48, 32, 101, 110, 100, 32, 102, 97, 117, 108, 116, 101, 100, 32, 50, 10]⟩ : ByteArray)).bind fun bt227 => ((o_Text.f bt227.1).bind fun bt231 => (if bt227.2 = 0 then (if bt231.2 = 0 then (if ([48, 32, 111, 112, 32, 111, 117, 116, 32, 48, 10, 48, 32, 111, 117, 116, 32, 50, 10, 116, 105, 99, 107, 32, 53, 10, 48, 32, 98, 108, 111, 99, 107, 32, 119, 97, 105, 116, 10, 48, 32, 101, 110, 100, 32, 102, 97, 117, 108, 116, 101, 100, 32, 50, 10] : List UInt8) = bt231.1.toList then (if (bt227.1.length : Int) = 5 then (if 1 < (bt227.1.length : Int) then (if (((rd_T72 bt227.1 1).f0) == 2 && (((rd_T72 bt227.1 1).f1) == 0 && (((rd_T72 bt227.1 1).f2) == 2 && (((rd_T72 bt227.1 1).f3) == 0)))) = true then ((trace_Check.f k 0 0 0 0).bind fun t234 => (if t234 = 6 then ((trace_Of.f k bt227.1 0).bind fun t235 => (some ((t235.length : Int) == 4))) else (some false))) else (some false)) else (none)) else (some false)) else (some false)) else (some false)) else (some false)))) = some r := h
 clear h
 replace H := Option.bind_eq_some_iff.mp H
 obtain ⟨⟨t227, t228⟩, A10, H⟩ := H
 replace H : ((o_Text.f t227).bind fun bt231 => (if t228 = 0 then (if bt231.2 = 0 then (if ([48, 32, 111, 112, 32, 111, 117, 116, 32, 48, 10, 48, 32, 111, 117, 116, 32, 50, 10, 116, 105, 99, 107, 32, 53, 10, 48, 32, 98, 108, 111, 99, 107, 32, 119, 97, 105, 116, 10, 48, 32, 101, 110, 100, 32, 102, 97, 117, 108, 116, 101, 100, 32, 50, 10] : List UInt8) = bt231.1.toList then (if (t227.length : Int) = 5 then (if 1 < (t227.length : Int) then (if (((rd_T72 t227 1).f0) == 2 && (((rd_T72 t227 1).f1) == 0 && (((rd_T72 t227 1).f2) == 2 && (((rd_T72 t227 1).f3) == 0)))) = true then ((trace_Check.f k 0 0 0 0).bind fun t234 => (if t234 = 6 then ((trace_Of.f k t227 0).bind fun t235 => (some ((t235.length : Int) == 4))) else (some false))) else (some false)) else (none)) else (some false)) else (some false)) else (some false)) else (some false))) = some r := H
 have A1 := Aside0.mk A10
 clear A10
 replace H := Option.bind_eq_some_iff.mp H
 obtain ⟨⟨t231, t232⟩, A20, H⟩ := H
 replace H : (if t228 = 0 then (if t232 = 0 then (if ([48, 32, 111, 112, 32, 111, 117, 116, 32, 48, 10, 48, 32, 111, 117, 116, 32, 50, 10, 116, 105, 99, 107, 32, 53, 10, 48, 32, 98, 108, 111, 99, 107, 32, 119, 97, 105, 116, 10, 48, 32, 101, 110, 100, 32, 102, 97, 117, 108, 116, 101, 100, 32, 50, 10] : List UInt8) = t231.toList then (if (t227.length : Int) = 5 then (if 1 < (t227.length : Int) then (if (((rd_T72 t227 1).f0) == 2 && (((rd_T72 t227 1).f1) == 0 && (((rd_T72 t227 1).f2) == 2 && (((rd_T72 t227 1).f3) == 0)))) = true then ((trace_Check.f k 0 0 0 0).bind fun t234 => (if t234 = 6 then ((trace_Of.f k t227 0).bind fun t235 => (some ((t235.length : Int) == 4))) else (some false))) else (some false)) else (none)) else (some false)) else (some false)) else (some false)) else (some false)) = some r := H
 have A2 := Aside0.mk A20
 clear A20
 by_cases c3 : t228 = 0
 ·rw [if_pos c3] at H
  have c3b0 : (t228 == 0) = true := beq_iff_eq.mpr c3
  have c3b1 : (t228 != 0) = false := bne_eq_false_iff_eq.mpr c3
  clear c3
  by_cases c4 : t232 = 0
  ·rw [if_pos c4] at H
   have c4b0 : (t232 == 0) = true := beq_iff_eq.mpr c4
   have c4b1 : (t232 != 0) = false := bne_eq_false_iff_eq.mpr c4
   clear c4
   by_cases c5 : ([48, 32, 111, 112, 32, 111, 117, 116, 32, 48, 10, 48, 32, 111, 117, 116, 32, 50, 10, 116, 105, 99, 107, 32, 53, 10, 48, 32, 98, 108, 111, 99, 107, 32, 119, 97, 105, 116, 10, 48, 32, 101, 110, 100, 32, 102, 97, 117, 108, 116, 101, 100, 32, 50, 10] : List UInt8) = t231.toList
   ·rw [if_pos c5] at H
    have c5b0 : (([48, 32, 111, 112, 32, 111, 117, 116, 32, 48, 10, 48, 32, 111, 117, 116, 32, 50, 10, 116, 105, 99, 107, 32, 53, 10, 48, 32, 98, 108, 111, 99, 107, 32, 119, 97, 105, 116, 10, 48, 32, 101, 110, 100, 32, 102, 97, 117, 108, 116, 101, 100, 32, 50, 10] : List UInt8) == t231.toList) = true := beq_iff_eq.mpr c5
    have c5b1 : (([48, 32, 111, 112, 32, 111, 117, 116, 32, 48, 10, 48, 32, 111, 117, 116, 32, 50, 10, 116, 105, 99, 107, 32, 53, 10, 48, 32, 98, 108, 111, 99, 107, 32, 119, 97, 105, 116, 10, 48, 32, 101, 110, 100, 32, 102, 97, 117, 108, 116, 101, 100, 32, 50, 10] : List UInt8) != t231.toList) = false := bne_eq_false_iff_eq.mpr c5
    clear c5
    by_cases c6 : (t227.length : Int) = 5
    ·rw [if_pos c6] at H
     have c6b0 : ((t227.length : Int) == 5) = true := beq_iff_eq.mpr c6
     have c6b1 : ((t227.length : Int) != 5) = false := bne_eq_false_iff_eq.mpr c6
     clear c6
     by_cases c7 : 1 < (t227.length : Int)
     ·rw [if_pos c7] at H
      have c7b0 : decide (1 < (t227.length : Int)) = true := decide_eq_true c7
      have c7b1 : decide (1 < t227.length) = true := decide_eq_true (by omega)
      clear c7
      by_cases c8 : (((rd_T72 t227 1).f0) == 2 && (((rd_T72 t227 1).f1) == 0 && (((rd_T72 t227 1).f2) == 2 && (((rd_T72 t227 1).f3) == 0)))) = true
      ·rw [if_pos c8] at H
       have c8b0 : (((rd_T72 t227 1).f0) == 2 && (((rd_T72 t227 1).f1) == 0 && (((rd_T72 t227 1).f2) == 2 && (((rd_T72 t227 1).f3) == 0)))) = true := c8
       (try (have c8b1 : decide (((rd_T72 t227 1).f0) = 2 && (((rd_T72 t227 1).f1) == 0 && (((rd_T72 t227 1).f2) == 2 && (((rd_T72 t227 1).f3) == 0)))) = true := by simpa using c8))
       (try (have c8b2 : (((rd_T72 t227 1).f0) == 2 && (((rd_T72 t227 1).f1) == 0 && (((rd_T72 t227 1).f2) == 2 && (((rd_T72 t227 1).f3) == 0)))) = true := by simpa using c8))
       clear c8
       replace H := Option.bind_eq_some_iff.mp H
       obtain ⟨t234, A90, H⟩ := H
       replace H : (if t234 = 6 then ((trace_Of.f k t227 0).bind fun t235 => (some ((t235.length : Int) == 4))) else (some false)) = some r := H
       have A9 := Aside0.mk A90
       clear A90
       by_cases c10 : t234 = 6
       ·rw [if_pos c10] at H
        have c10b0 : (t234 == 6) = true := beq_iff_eq.mpr c10
        have c10b1 : (t234 != 6) = false := bne_eq_false_iff_eq.mpr c10
        clear c10
        replace H := Option.bind_eq_some_iff.mp H
        obtain ⟨t235, A110, H⟩ := H
        replace H : (some ((t235.length : Int) == 4)) = some r := H
        have A11 := Aside0.mk A110
        clear A110
        obtain rfl := Option.some.inj H
        go_enter Tryd.func51, Tryd.ntmps51
        go_wp2_with (first | ((with_reducible refine gate_callee (f := 52) rfl ?_); refine goesL_ (some 8) rfl rfl Tryd.func52 (by kernel_rfl) rfl #[.string (⟨#[48, 32, 111, 112, 32, 111, 117, 116, 32, 48, 10, 48, 32, 111, 117, 116, 32, 50, 10, 116, 105, 99, 107, 32, 53, 10, 48, 32, 98, 108, 111, 99, 107, 32, 119, 97, 105, 116, 10, 48, 32, 101, 110, 100, 32, 102, 97, 117, 108, 116, 101, 100, 32, 50, 10]⟩ : ByteArray)] rfl (by (try simp only [List.map_toArray, List.map_cons, List.map_nil]); first | done | rfl | (simp only [List.length_drop, List.length_take]; rfl)) ?_; (with_reducible refine (trace_Parse.calls k (⟨#[48, 32, 111, 112, 32, 111, 117, 116, 32, 48, 10, 48, 32, 111, 117, 116, 32, 50, 10, 116, 105, 99, 107, 32, 53, 10, 48, 32, 98, 108, 111, 99, 107, 32, 119, 97, 105, 116, 10, 48, 32, 101, 110, 100, 32, 102, 97, 117, 108, 116, 101, 100, 32, 50, 10]⟩ : ByteArray) t227 t228 _ A1.out ?side1).mono ?_); (case side1 => exact Gl.below HG.out (by repeat (first | (with_reducible first | exact HB.out | apply below_alloc | apply pw_below_drewN | apply below_drew1) | exact HB.out))); rintro e w12 ⟨v229, rfl, ho0, hb⟩; refine ⟨_, rfl, ?_⟩; have n0_ := Aside0.mk (Kd.R_lower ho0 (below_size (by repeat (first | (with_reducible first | exact HB.out | apply below_alloc | apply pw_below_drewN | apply below_drew1) | exact HB.out)))); have n1_ := Aside0.mk (below_step (by repeat (first | (with_reducible first | exact HB.out | apply below_alloc | apply pw_below_drewN | apply below_drew1) | exact HB.out)) hb); clear HB; have HO230 := n0_; have HB := n1_; clear n0_ n1_; (try clear hb); (try clear hb2); (try clear hk); (try clear hi); (try clear ho0); obtain ⟨Ao13, co13, eo13⟩ := Kd.R_slice HO230.out; subst eo13) | ((with_reducible refine gate_callee (f := 48) rfl ?_); refine goesL_ (some 13) rfl rfl Tryd.func48 (by kernel_rfl) rfl #[.slice Ao13 t227.length co13] rfl (by (try simp only [List.map_toArray, List.map_cons, List.map_nil]); first | done | rfl | (simp only [List.length_drop, List.length_take]; rfl)) ?_; (with_reducible refine (o_Text.calls _ _ t227 t231 t232 _ ?side1 ?side2 A2.out ?side3).mono ?_); (case side1 => repeat (first | exact (Kd.R_reads' HO230.out).2.2 | (with_reducible refine Kd.C_alloc ?_ _) | (with_reducible refine Kd.C_drewN ?_ _) | (with_reducible refine Kd.C_drew ?_))); (case side2 => exact (Kd.R_reads' HO230.out).2.1); (case side3 => exact Gl.below HG.out (by repeat (first | (with_reducible first | exact HB.out | apply below_alloc | apply pw_below_drewN | apply below_drew1) | exact HB.out))); rintro e w14 ⟨rfl, hb⟩; refine ⟨_, rfl, ?_⟩; have n0_ := Aside0.mk (Kd.R_below (by (with_reducible repeat (first | apply Kd.R_alloc | apply Kd.R_drewN | apply Kd.R_drew)); exact HO230.out) hb); have n1_ := Aside0.mk (below_step (by repeat (first | (with_reducible first | exact HB.out | apply below_alloc | apply pw_below_drewN | apply below_drew1) | exact HB.out)) hb); clear HO230; clear HB; have HO230 := n0_; have HB := n1_; clear n0_ n1_; (try clear hb); (try clear hb2); (try clear hk); (try clear hi); have p233 : 0 ≤ (1 : Int) := (by omega); have q233 : 1 < (t227.length : Int) := of_decide_eq_true (by first | (with_reducible assumption) | assumption); obtain ⟨ad233, e233, hx233_0, hx233_1, hx233_2, hx233_3⟩ := at_T72 (Kd.R_reads' HO230.out).2.2 1 p233 q233; cases e233; (try simp only [show (1 : Int).toNat = 1 from rfl, Nat.reduceMul, Nat.reduceEqDiff, Go.Addr.add, ↓reduceIte] at hx233_0); (try simp only [show (1 : Int).toNat = 1 from rfl, Nat.reduceMul, Nat.reduceEqDiff, Go.Addr.add, ↓reduceIte] at hx233_1); (try simp only [show (1 : Int).toNat = 1 from rfl, Nat.reduceMul, Nat.reduceEqDiff, Go.Addr.add, ↓reduceIte] at hx233_2); (try simp only [show (1 : Int).toNat = 1 from rfl, Nat.reduceMul, Nat.reduceEqDiff, Go.Addr.add, ↓reduceIte] at hx233_3); have qi233 : (1 < t227.length) = True := eq_true (by omega); (try rw [show ((1 : Int)).toNat = 1 from rfl] at hx233_0); (try rw [show 1 * 4 = 4 from rfl] at hx233_0); (try rw [show ((1 : Int)).toNat = 1 from rfl] at hx233_1); (try rw [show 1 * 4 = 4 from rfl] at hx233_1); (try rw [show ((1 : Int)).toNat = 1 from rfl] at hx233_2); (try rw [show 1 * 4 = 4 from rfl] at hx233_2); (try rw [show ((1 : Int)).toNat = 1 from rfl] at hx233_3); (try rw [show 1 * 4 = 4 from rfl] at hx233_3); replace p233 := eq_true p233; replace q233 := eq_true q233) | (go_at_call 50; (with_reducible refine (trace_Check.calls k 0 0 0 0 t234 _ A9.out ?side1).mono ?_); (case side1 => exact Gl.below HG.out (by repeat (first | (with_reducible first | exact HB.out | apply below_alloc | apply pw_below_drewN | apply below_drew1) | exact HB.out))); rintro e w15 ⟨rfl, hb⟩; have n0_ := Aside0.mk (Kd.R_below (by (with_reducible repeat (first | apply Kd.R_alloc | apply Kd.R_drewN | apply Kd.R_drew)); exact HO230.out) hb); have n1_ := Aside0.mk (below_step (by repeat (first | (with_reducible first | exact HB.out | apply below_alloc | apply pw_below_drewN | apply below_drew1) | exact HB.out)) hb); clear HO230; clear HB; have HO230 := n0_; have HB := n1_; clear n0_ n1_; (try clear hb); (try clear hb2); (try clear hk); (try clear hi)) | (go_at_call 95; (with_reducible refine (trace_Of.calls k _ _ t227 0 t235 _ ?side1 ?side2 A11.out).mono ?_); (case side1 => repeat (first | exact (Kd.R_reads' HO230.out).2.2 | (with_reducible refine Kd.C_alloc ?_ _) | (with_reducible refine Kd.C_drewN ?_ _) | (with_reducible refine Kd.C_drew ?_))); (case side2 => exact (Kd.R_reads' HO230.out).2.1); rintro e w16 ⟨v236, rfl, ho0, hb⟩; have n0_ := Aside0.mk (Kd.R_elder' (by (with_reducible repeat (first | apply Kd.R_alloc | apply Kd.R_drewN | apply Kd.R_drew)); exact HO230.out) (Kd.R_base ho0) hb); have n1_ := Aside0.mk (Kd.R_lower (Kd.R_new' ho0 (Kd.R_lt (by (with_reducible repeat (first | apply Kd.R_alloc | apply Kd.R_drewN | apply Kd.R_drew)); exact HO230.out))) (below_size (by repeat (first | (with_reducible first | exact HB.out | apply below_alloc | apply pw_below_drewN | apply below_drew1) | exact HB.out)))); have n2_ := Aside0.mk (below_step (by repeat (first | (with_reducible first | exact HB.out | apply below_alloc | apply pw_below_drewN | apply below_drew1) | exact HB.out)) hb); clear HO230; clear HB; have HO230 := n0_; have HO237 := n1_; have HB := n2_; clear n0_ n1_ n2_; (try clear hb); (try clear hb2); (try clear hk); (try clear hi); (try clear ho0); obtain ⟨Ao17, co17, eo17⟩ := Kd.R_slice HO237.out; subst eo17))
        go_ret
        exact ⟨by first | rfl | (simp [errW_none, errW_some] <;> rfl) | (simp [*, errW_none, errW_some] <;> rfl), by repeat (first | (with_reducible first | exact HB.out | apply below_alloc | apply pw_below_drewN | apply below_drew1) | exact HB.out)⟩
       ·rw [if_neg c10] at H
        have c10b0 : (t234 == 6) = false := beq_eq_false_iff_ne.mpr c10
        have c10b1 : (t234 != 6) = true := bne_iff_ne.mpr c10
        obtain rfl := Option.some.inj H
        go_enter Tryd.func51, Tryd.ntmps51
        go_wp2_with (first | ((with_reducible refine gate_callee (f := 52) rfl ?_); refine goesL_ (some 8) rfl rfl Tryd.func52 (by kernel_rfl) rfl #[.string (⟨#[48, 32, 111, 112, 32, 111, 117, 116, 32, 48, 10, 48, 32, 111, 117, 116, 32, 50, 10, 116, 105, 99, 107, 32, 53, 10, 48, 32, 98, 108, 111, 99, 107, 32, 119, 97, 105, 116, 10, 48, 32, 101, 110, 100, 32, 102, 97, 117, 108, 116, 101, 100, 32, 50, 10]⟩ : ByteArray)] rfl (by (try simp only [List.map_toArray, List.map_cons, List.map_nil]); first | done | rfl | (simp only [List.length_drop, List.length_take]; rfl)) ?_; (with_reducible refine (trace_Parse.calls k (⟨#[48, 32, 111, 112, 32, 111, 117, 116, 32, 48, 10, 48, 32, 111, 117, 116, 32, 50, 10, 116, 105, 99, 107, 32, 53, 10, 48, 32, 98, 108, 111, 99, 107, 32, 119, 97, 105, 116, 10, 48, 32, 101, 110, 100, 32, 102, 97, 117, 108, 116, 101, 100, 32, 50, 10]⟩ : ByteArray) t227 t228 _ A1.out ?side1).mono ?_); (case side1 => exact Gl.below HG.out (by repeat (first | (with_reducible first | exact HB.out | apply below_alloc | apply pw_below_drewN | apply below_drew1) | exact HB.out))); rintro e w18 ⟨v229, rfl, ho0, hb⟩; refine ⟨_, rfl, ?_⟩; have n0_ := Aside0.mk (Kd.R_lower ho0 (below_size (by repeat (first | (with_reducible first | exact HB.out | apply below_alloc | apply pw_below_drewN | apply below_drew1) | exact HB.out)))); have n1_ := Aside0.mk (below_step (by repeat (first | (with_reducible first | exact HB.out | apply below_alloc | apply pw_below_drewN | apply below_drew1) | exact HB.out)) hb); clear HB; have HO230 := n0_; have HB := n1_; clear n0_ n1_; (try clear hb); (try clear hb2); (try clear hk); (try clear hi); (try clear ho0); obtain ⟨Ao19, co19, eo19⟩ := Kd.R_slice HO230.out; subst eo19) | ((with_reducible refine gate_callee (f := 48) rfl ?_); refine goesL_ (some 13) rfl rfl Tryd.func48 (by kernel_rfl) rfl #[.slice Ao19 t227.length co19] rfl (by (try simp only [List.map_toArray, List.map_cons, List.map_nil]); first | done | rfl | (simp only [List.length_drop, List.length_take]; rfl)) ?_; (with_reducible refine (o_Text.calls _ _ t227 t231 t232 _ ?side1 ?side2 A2.out ?side3).mono ?_); (case side1 => repeat (first | exact (Kd.R_reads' HO230.out).2.2 | (with_reducible refine Kd.C_alloc ?_ _) | (with_reducible refine Kd.C_drewN ?_ _) | (with_reducible refine Kd.C_drew ?_))); (case side2 => exact (Kd.R_reads' HO230.out).2.1); (case side3 => exact Gl.below HG.out (by repeat (first | (with_reducible first | exact HB.out | apply below_alloc | apply pw_below_drewN | apply below_drew1) | exact HB.out))); rintro e w20 ⟨rfl, hb⟩; refine ⟨_, rfl, ?_⟩; have n0_ := Aside0.mk (Kd.R_below (by (with_reducible repeat (first | apply Kd.R_alloc | apply Kd.R_drewN | apply Kd.R_drew)); exact HO230.out) hb); have n1_ := Aside0.mk (below_step (by repeat (first | (with_reducible first | exact HB.out | apply below_alloc | apply pw_below_drewN | apply below_drew1) | exact HB.out)) hb); clear HO230; clear HB; have HO230 := n0_; have HB := n1_; clear n0_ n1_; (try clear hb); (try clear hb2); (try clear hk); (try clear hi); have p233 : 0 ≤ (1 : Int) := (by omega); have q233 : 1 < (t227.length : Int) := of_decide_eq_true (by first | (with_reducible assumption) | assumption); obtain ⟨ad233, e233, hx233_0, hx233_1, hx233_2, hx233_3⟩ := at_T72 (Kd.R_reads' HO230.out).2.2 1 p233 q233; cases e233; (try simp only [show (1 : Int).toNat = 1 from rfl, Nat.reduceMul, Nat.reduceEqDiff, Go.Addr.add, ↓reduceIte] at hx233_0); (try simp only [show (1 : Int).toNat = 1 from rfl, Nat.reduceMul, Nat.reduceEqDiff, Go.Addr.add, ↓reduceIte] at hx233_1); (try simp only [show (1 : Int).toNat = 1 from rfl, Nat.reduceMul, Nat.reduceEqDiff, Go.Addr.add, ↓reduceIte] at hx233_2); (try simp only [show (1 : Int).toNat = 1 from rfl, Nat.reduceMul, Nat.reduceEqDiff, Go.Addr.add, ↓reduceIte] at hx233_3); have qi233 : (1 < t227.length) = True := eq_true (by omega); (try rw [show ((1 : Int)).toNat = 1 from rfl] at hx233_0); (try rw [show 1 * 4 = 4 from rfl] at hx233_0); (try rw [show ((1 : Int)).toNat = 1 from rfl] at hx233_1); (try rw [show 1 * 4 = 4 from rfl] at hx233_1); (try rw [show ((1 : Int)).toNat = 1 from rfl] at hx233_2); (try rw [show 1 * 4 = 4 from rfl] at hx233_2); (try rw [show ((1 : Int)).toNat = 1 from rfl] at hx233_3); (try rw [show 1 * 4 = 4 from rfl] at hx233_3); replace p233 := eq_true p233; replace q233 := eq_true q233) | (go_at_call 50; (with_reducible refine (trace_Check.calls k 0 0 0 0 t234 _ A9.out ?side1).mono ?_); (case side1 => exact Gl.below HG.out (by repeat (first | (with_reducible first | exact HB.out | apply below_alloc | apply pw_below_drewN | apply below_drew1) | exact HB.out))); rintro e w21 ⟨rfl, hb⟩; have n0_ := Aside0.mk (Kd.R_below (by (with_reducible repeat (first | apply Kd.R_alloc | apply Kd.R_drewN | apply Kd.R_drew)); exact HO230.out) hb); have n1_ := Aside0.mk (below_step (by repeat (first | (with_reducible first | exact HB.out | apply below_alloc | apply pw_below_drewN | apply below_drew1) | exact HB.out)) hb); clear HO230; clear HB; have HO230 := n0_; have HB := n1_; clear n0_ n1_; (try clear hb); (try clear hb2); (try clear hk); (try clear hi)))
        go_ret
        exact ⟨by first | rfl | (simp [errW_none, errW_some] <;> rfl) | (simp [*, errW_none, errW_some] <;> rfl), by repeat (first | (with_reducible first | exact HB.out | apply below_alloc | apply pw_below_drewN | apply below_drew1) | exact HB.out)⟩
      ·rw [if_neg c8] at H
       have c8b0 : (((rd_T72 t227 1).f0) == 2 && (((rd_T72 t227 1).f1) == 0 && (((rd_T72 t227 1).f2) == 2 && (((rd_T72 t227 1).f3) == 0)))) = false := by simpa using c8
       (try (have c8b1 : decide (((rd_T72 t227 1).f0) = 2 && (((rd_T72 t227 1).f1) == 0 && (((rd_T72 t227 1).f2) == 2 && (((rd_T72 t227 1).f3) == 0)))) = false := by simpa using c8))
       (try (have c8b2 : (((rd_T72 t227 1).f0) == 2 && (((rd_T72 t227 1).f1) == 0 && (((rd_T72 t227 1).f2) == 2 && (((rd_T72 t227 1).f3) == 0)))) = false := by simpa using c8))
       (try (have c8b3 : ¬ (((rd_T72 t227 1).f0) = 2 && (((rd_T72 t227 1).f1) == 0 && (((rd_T72 t227 1).f2) == 2 && (((rd_T72 t227 1).f3) == 0)))) := by simpa using c8))
       clear c8
       obtain rfl := Option.some.inj H
       go_enter Tryd.func51, Tryd.ntmps51
       go_wp2_with (first | ((with_reducible refine gate_callee (f := 52) rfl ?_); refine goesL_ (some 8) rfl rfl Tryd.func52 (by kernel_rfl) rfl #[.string (⟨#[48, 32, 111, 112, 32, 111, 117, 116, 32, 48, 10, 48, 32, 111, 117, 116, 32, 50, 10, 116, 105, 99, 107, 32, 53, 10, 48, 32, 98, 108, 111, 99, 107, 32, 119, 97, 105, 116, 10, 48, 32, 101, 110, 100, 32, 102, 97, 117, 108, 116, 101, 100, 32, 50, 10]⟩ : ByteArray)] rfl (by (try simp only [List.map_toArray, List.map_cons, List.map_nil]); first | done | rfl | (simp only [List.length_drop, List.length_take]; rfl)) ?_; (with_reducible refine (trace_Parse.calls k (⟨#[48, 32, 111, 112, 32, 111, 117, 116, 32, 48, 10, 48, 32, 111, 117, 116, 32, 50, 10, 116, 105, 99, 107, 32, 53, 10, 48, 32, 98, 108, 111, 99, 107, 32, 119, 97, 105, 116, 10, 48, 32, 101, 110, 100, 32, 102, 97, 117, 108, 116, 101, 100, 32, 50, 10]⟩ : ByteArray) t227 t228 _ A1.out ?side1).mono ?_); (case side1 => exact Gl.below HG.out (by repeat (first | (with_reducible first | exact HB.out | apply below_alloc | apply pw_below_drewN | apply below_drew1) | exact HB.out))); rintro e w22 ⟨v229, rfl, ho0, hb⟩; refine ⟨_, rfl, ?_⟩; have n0_ := Aside0.mk (Kd.R_lower ho0 (below_size (by repeat (first | (with_reducible first | exact HB.out | apply below_alloc | apply pw_below_drewN | apply below_drew1) | exact HB.out)))); have n1_ := Aside0.mk (below_step (by repeat (first | (with_reducible first | exact HB.out | apply below_alloc | apply pw_below_drewN | apply below_drew1) | exact HB.out)) hb); clear HB; have HO230 := n0_; have HB := n1_; clear n0_ n1_; (try clear hb); (try clear hb2); (try clear hk); (try clear hi); (try clear ho0); obtain ⟨Ao23, co23, eo23⟩ := Kd.R_slice HO230.out; subst eo23) | ((with_reducible refine gate_callee (f := 48) rfl ?_); refine goesL_ (some 13) rfl rfl Tryd.func48 (by kernel_rfl) rfl #[.slice Ao23 t227.length co23] rfl (by (try simp only [List.map_toArray, List.map_cons, List.map_nil]); first | done | rfl | (simp only [List.length_drop, List.length_take]; rfl)) ?_; (with_reducible refine (o_Text.calls _ _ t227 t231 t232 _ ?side1 ?side2 A2.out ?side3).mono ?_); (case side1 => repeat (first | exact (Kd.R_reads' HO230.out).2.2 | (with_reducible refine Kd.C_alloc ?_ _) | (with_reducible refine Kd.C_drewN ?_ _) | (with_reducible refine Kd.C_drew ?_))); (case side2 => exact (Kd.R_reads' HO230.out).2.1); (case side3 => exact Gl.below HG.out (by repeat (first | (with_reducible first | exact HB.out | apply below_alloc | apply pw_below_drewN | apply below_drew1) | exact HB.out))); rintro e w24 ⟨rfl, hb⟩; refine ⟨_, rfl, ?_⟩; have n0_ := Aside0.mk (Kd.R_below (by (with_reducible repeat (first | apply Kd.R_alloc | apply Kd.R_drewN | apply Kd.R_drew)); exact HO230.out) hb); have n1_ := Aside0.mk (below_step (by repeat (first | (with_reducible first | exact HB.out | apply below_alloc | apply pw_below_drewN | apply below_drew1) | exact HB.out)) hb); clear HO230; clear HB; have HO230 := n0_; have HB := n1_; clear n0_ n1_; (try clear hb); (try clear hb2); (try clear hk); (try clear hi); have p233 : 0 ≤ (1 : Int) := (by omega); have q233 : 1 < (t227.length : Int) := of_decide_eq_true (by first | (with_reducible assumption) | assumption); obtain ⟨ad233, e233, hx233_0, hx233_1, hx233_2, hx233_3⟩ := at_T72 (Kd.R_reads' HO230.out).2.2 1 p233 q233; cases e233; (try simp only [show (1 : Int).toNat = 1 from rfl, Nat.reduceMul, Nat.reduceEqDiff, Go.Addr.add, ↓reduceIte] at hx233_0); (try simp only [show (1 : Int).toNat = 1 from rfl, Nat.reduceMul, Nat.reduceEqDiff, Go.Addr.add, ↓reduceIte] at hx233_1); (try simp only [show (1 : Int).toNat = 1 from rfl, Nat.reduceMul, Nat.reduceEqDiff, Go.Addr.add, ↓reduceIte] at hx233_2); (try simp only [show (1 : Int).toNat = 1 from rfl, Nat.reduceMul, Nat.reduceEqDiff, Go.Addr.add, ↓reduceIte] at hx233_3); have qi233 : (1 < t227.length) = True := eq_true (by omega); (try rw [show ((1 : Int)).toNat = 1 from rfl] at hx233_0); (try rw [show 1 * 4 = 4 from rfl] at hx233_0); (try rw [show ((1 : Int)).toNat = 1 from rfl] at hx233_1); (try rw [show 1 * 4 = 4 from rfl] at hx233_1); (try rw [show ((1 : Int)).toNat = 1 from rfl] at hx233_2); (try rw [show 1 * 4 = 4 from rfl] at hx233_2); (try rw [show ((1 : Int)).toNat = 1 from rfl] at hx233_3); (try rw [show 1 * 4 = 4 from rfl] at hx233_3); replace p233 := eq_true p233; replace q233 := eq_true q233))
       go_ret
       exact ⟨by first | rfl | (simp [errW_none, errW_some] <;> rfl) | (simp [*, errW_none, errW_some] <;> rfl), by repeat (first | (with_reducible first | exact HB.out | apply below_alloc | apply pw_below_drewN | apply below_drew1) | exact HB.out)⟩
     ·rw [if_neg c7] at H
      exact absurd H (by simp)
    ·rw [if_neg c6] at H
     have c6b0 : ((t227.length : Int) == 5) = false := beq_eq_false_iff_ne.mpr c6
     have c6b1 : ((t227.length : Int) != 5) = true := bne_iff_ne.mpr c6
     obtain rfl := Option.some.inj H
     go_enter Tryd.func51, Tryd.ntmps51
     go_wp2_with (first | ((with_reducible refine gate_callee (f := 52) rfl ?_); refine goesL_ (some 8) rfl rfl Tryd.func52 (by kernel_rfl) rfl #[.string (⟨#[48, 32, 111, 112, 32, 111, 117, 116, 32, 48, 10, 48, 32, 111, 117, 116, 32, 50, 10, 116, 105, 99, 107, 32, 53, 10, 48, 32, 98, 108, 111, 99, 107, 32, 119, 97, 105, 116, 10, 48, 32, 101, 110, 100, 32, 102, 97, 117, 108, 116, 101, 100, 32, 50, 10]⟩ : ByteArray)] rfl (by (try simp only [List.map_toArray, List.map_cons, List.map_nil]); first | done | rfl | (simp only [List.length_drop, List.length_take]; rfl)) ?_; (with_reducible refine (trace_Parse.calls k (⟨#[48, 32, 111, 112, 32, 111, 117, 116, 32, 48, 10, 48, 32, 111, 117, 116, 32, 50, 10, 116, 105, 99, 107, 32, 53, 10, 48, 32, 98, 108, 111, 99, 107, 32, 119, 97, 105, 116, 10, 48, 32, 101, 110, 100, 32, 102, 97, 117, 108, 116, 101, 100, 32, 50, 10]⟩ : ByteArray) t227 t228 _ A1.out ?side1).mono ?_); (case side1 => exact Gl.below HG.out (by repeat (first | (with_reducible first | exact HB.out | apply below_alloc | apply pw_below_drewN | apply below_drew1) | exact HB.out))); rintro e w25 ⟨v229, rfl, ho0, hb⟩; refine ⟨_, rfl, ?_⟩; have n0_ := Aside0.mk (Kd.R_lower ho0 (below_size (by repeat (first | (with_reducible first | exact HB.out | apply below_alloc | apply pw_below_drewN | apply below_drew1) | exact HB.out)))); have n1_ := Aside0.mk (below_step (by repeat (first | (with_reducible first | exact HB.out | apply below_alloc | apply pw_below_drewN | apply below_drew1) | exact HB.out)) hb); clear HB; have HO230 := n0_; have HB := n1_; clear n0_ n1_; (try clear hb); (try clear hb2); (try clear hk); (try clear hi); (try clear ho0); obtain ⟨Ao26, co26, eo26⟩ := Kd.R_slice HO230.out; subst eo26) | ((with_reducible refine gate_callee (f := 48) rfl ?_); refine goesL_ (some 13) rfl rfl Tryd.func48 (by kernel_rfl) rfl #[.slice Ao26 t227.length co26] rfl (by (try simp only [List.map_toArray, List.map_cons, List.map_nil]); first | done | rfl | (simp only [List.length_drop, List.length_take]; rfl)) ?_; (with_reducible refine (o_Text.calls _ _ t227 t231 t232 _ ?side1 ?side2 A2.out ?side3).mono ?_); (case side1 => repeat (first | exact (Kd.R_reads' HO230.out).2.2 | (with_reducible refine Kd.C_alloc ?_ _) | (with_reducible refine Kd.C_drewN ?_ _) | (with_reducible refine Kd.C_drew ?_))); (case side2 => exact (Kd.R_reads' HO230.out).2.1); (case side3 => exact Gl.below HG.out (by repeat (first | (with_reducible first | exact HB.out | apply below_alloc | apply pw_below_drewN | apply below_drew1) | exact HB.out))); rintro e w27 ⟨rfl, hb⟩; refine ⟨_, rfl, ?_⟩; have n0_ := Aside0.mk (Kd.R_below (by (with_reducible repeat (first | apply Kd.R_alloc | apply Kd.R_drewN | apply Kd.R_drew)); exact HO230.out) hb); have n1_ := Aside0.mk (below_step (by repeat (first | (with_reducible first | exact HB.out | apply below_alloc | apply pw_below_drewN | apply below_drew1) | exact HB.out)) hb); clear HO230; clear HB; have HO230 := n0_; have HB := n1_; clear n0_ n1_; (try clear hb); (try clear hb2); (try clear hk); (try clear hi)))
     go_ret
     exact ⟨by first | rfl | (simp [errW_none, errW_some] <;> rfl) | (simp [*, errW_none, errW_some] <;> rfl), by repeat (first | (with_reducible first | exact HB.out | apply below_alloc | apply pw_below_drewN | apply below_drew1) | exact HB.out)⟩
   ·rw [if_neg c5] at H
    have c5b0 : (([48, 32, 111, 112, 32, 111, 117, 116, 32, 48, 10, 48, 32, 111, 117, 116, 32, 50, 10, 116, 105, 99, 107, 32, 53, 10, 48, 32, 98, 108, 111, 99, 107, 32, 119, 97, 105, 116, 10, 48, 32, 101, 110, 100, 32, 102, 97, 117, 108, 116, 101, 100, 32, 50, 10] : List UInt8) == t231.toList) = false := beq_eq_false_iff_ne.mpr c5
    have c5b1 : (([48, 32, 111, 112, 32, 111, 117, 116, 32, 48, 10, 48, 32, 111, 117, 116, 32, 50, 10, 116, 105, 99, 107, 32, 53, 10, 48, 32, 98, 108, 111, 99, 107, 32, 119, 97, 105, 116, 10, 48, 32, 101, 110, 100, 32, 102, 97, 117, 108, 116, 101, 100, 32, 50, 10] : List UInt8) != t231.toList) = true := bne_iff_ne.mpr c5
    obtain rfl := Option.some.inj H
    go_enter Tryd.func51, Tryd.ntmps51
    go_wp2_with (first | ((with_reducible refine gate_callee (f := 52) rfl ?_); refine goesL_ (some 8) rfl rfl Tryd.func52 (by kernel_rfl) rfl #[.string (⟨#[48, 32, 111, 112, 32, 111, 117, 116, 32, 48, 10, 48, 32, 111, 117, 116, 32, 50, 10, 116, 105, 99, 107, 32, 53, 10, 48, 32, 98, 108, 111, 99, 107, 32, 119, 97, 105, 116, 10, 48, 32, 101, 110, 100, 32, 102, 97, 117, 108, 116, 101, 100, 32, 50, 10]⟩ : ByteArray)] rfl (by (try simp only [List.map_toArray, List.map_cons, List.map_nil]); first | done | rfl | (simp only [List.length_drop, List.length_take]; rfl)) ?_; (with_reducible refine (trace_Parse.calls k (⟨#[48, 32, 111, 112, 32, 111, 117, 116, 32, 48, 10, 48, 32, 111, 117, 116, 32, 50, 10, 116, 105, 99, 107, 32, 53, 10, 48, 32, 98, 108, 111, 99, 107, 32, 119, 97, 105, 116, 10, 48, 32, 101, 110, 100, 32, 102, 97, 117, 108, 116, 101, 100, 32, 50, 10]⟩ : ByteArray) t227 t228 _ A1.out ?side1).mono ?_); (case side1 => exact Gl.below HG.out (by repeat (first | (with_reducible first | exact HB.out | apply below_alloc | apply pw_below_drewN | apply below_drew1) | exact HB.out))); rintro e w28 ⟨v229, rfl, ho0, hb⟩; refine ⟨_, rfl, ?_⟩; have n0_ := Aside0.mk (Kd.R_lower ho0 (below_size (by repeat (first | (with_reducible first | exact HB.out | apply below_alloc | apply pw_below_drewN | apply below_drew1) | exact HB.out)))); have n1_ := Aside0.mk (below_step (by repeat (first | (with_reducible first | exact HB.out | apply below_alloc | apply pw_below_drewN | apply below_drew1) | exact HB.out)) hb); clear HB; have HO230 := n0_; have HB := n1_; clear n0_ n1_; (try clear hb); (try clear hb2); (try clear hk); (try clear hi); (try clear ho0); obtain ⟨Ao29, co29, eo29⟩ := Kd.R_slice HO230.out; subst eo29) | ((with_reducible refine gate_callee (f := 48) rfl ?_); refine goesL_ (some 13) rfl rfl Tryd.func48 (by kernel_rfl) rfl #[.slice Ao29 t227.length co29] rfl (by (try simp only [List.map_toArray, List.map_cons, List.map_nil]); first | done | rfl | (simp only [List.length_drop, List.length_take]; rfl)) ?_; (with_reducible refine (o_Text.calls _ _ t227 t231 t232 _ ?side1 ?side2 A2.out ?side3).mono ?_); (case side1 => repeat (first | exact (Kd.R_reads' HO230.out).2.2 | (with_reducible refine Kd.C_alloc ?_ _) | (with_reducible refine Kd.C_drewN ?_ _) | (with_reducible refine Kd.C_drew ?_))); (case side2 => exact (Kd.R_reads' HO230.out).2.1); (case side3 => exact Gl.below HG.out (by repeat (first | (with_reducible first | exact HB.out | apply below_alloc | apply pw_below_drewN | apply below_drew1) | exact HB.out))); rintro e w30 ⟨rfl, hb⟩; refine ⟨_, rfl, ?_⟩; have n0_ := Aside0.mk (Kd.R_below (by (with_reducible repeat (first | apply Kd.R_alloc | apply Kd.R_drewN | apply Kd.R_drew)); exact HO230.out) hb); have n1_ := Aside0.mk (below_step (by repeat (first | (with_reducible first | exact HB.out | apply below_alloc | apply pw_below_drewN | apply below_drew1) | exact HB.out)) hb); clear HO230; clear HB; have HO230 := n0_; have HB := n1_; clear n0_ n1_; (try clear hb); (try clear hb2); (try clear hk); (try clear hi)))
    go_ret
    exact ⟨by first | rfl | (simp [errW_none, errW_some] <;> rfl) | (simp [*, errW_none, errW_some] <;> rfl), by repeat (first | (with_reducible first | exact HB.out | apply below_alloc | apply pw_below_drewN | apply below_drew1) | exact HB.out)⟩
  ·rw [if_neg c4] at H
   have c4b0 : (t232 == 0) = false := beq_eq_false_iff_ne.mpr c4
   have c4b1 : (t232 != 0) = true := bne_iff_ne.mpr c4
   obtain rfl := Option.some.inj H
   go_enter Tryd.func51, Tryd.ntmps51
   go_wp2_with (first | ((with_reducible refine gate_callee (f := 52) rfl ?_); refine goesL_ (some 8) rfl rfl Tryd.func52 (by kernel_rfl) rfl #[.string (⟨#[48, 32, 111, 112, 32, 111, 117, 116, 32, 48, 10, 48, 32, 111, 117, 116, 32, 50, 10, 116, 105, 99, 107, 32, 53, 10, 48, 32, 98, 108, 111, 99, 107, 32, 119, 97, 105, 116, 10, 48, 32, 101, 110, 100, 32, 102, 97, 117, 108, 116, 101, 100, 32, 50, 10]⟩ : ByteArray)] rfl (by (try simp only [List.map_toArray, List.map_cons, List.map_nil]); first | done | rfl | (simp only [List.length_drop, List.length_take]; rfl)) ?_; (with_reducible refine (trace_Parse.calls k (⟨#[48, 32, 111, 112, 32, 111, 117, 116, 32, 48, 10, 48, 32, 111, 117, 116, 32, 50, 10, 116, 105, 99, 107, 32, 53, 10, 48, 32, 98, 108, 111, 99, 107, 32, 119, 97, 105, 116, 10, 48, 32, 101, 110, 100, 32, 102, 97, 117, 108, 116, 101, 100, 32, 50, 10]⟩ : ByteArray) t227 t228 _ A1.out ?side1).mono ?_); (case side1 => exact Gl.below HG.out (by repeat (first | (with_reducible first | exact HB.out | apply below_alloc | apply pw_below_drewN | apply below_drew1) | exact HB.out))); rintro e w31 ⟨v229, rfl, ho0, hb⟩; refine ⟨_, rfl, ?_⟩; have n0_ := Aside0.mk (Kd.R_lower ho0 (below_size (by repeat (first | (with_reducible first | exact HB.out | apply below_alloc | apply pw_below_drewN | apply below_drew1) | exact HB.out)))); have n1_ := Aside0.mk (below_step (by repeat (first | (with_reducible first | exact HB.out | apply below_alloc | apply pw_below_drewN | apply below_drew1) | exact HB.out)) hb); clear HB; have HO230 := n0_; have HB := n1_; clear n0_ n1_; (try clear hb); (try clear hb2); (try clear hk); (try clear hi); (try clear ho0); obtain ⟨Ao32, co32, eo32⟩ := Kd.R_slice HO230.out; subst eo32) | ((with_reducible refine gate_callee (f := 48) rfl ?_); refine goesL_ (some 13) rfl rfl Tryd.func48 (by kernel_rfl) rfl #[.slice Ao32 t227.length co32] rfl (by (try simp only [List.map_toArray, List.map_cons, List.map_nil]); first | done | rfl | (simp only [List.length_drop, List.length_take]; rfl)) ?_; (with_reducible refine (o_Text.calls _ _ t227 t231 t232 _ ?side1 ?side2 A2.out ?side3).mono ?_); (case side1 => repeat (first | exact (Kd.R_reads' HO230.out).2.2 | (with_reducible refine Kd.C_alloc ?_ _) | (with_reducible refine Kd.C_drewN ?_ _) | (with_reducible refine Kd.C_drew ?_))); (case side2 => exact (Kd.R_reads' HO230.out).2.1); (case side3 => exact Gl.below HG.out (by repeat (first | (with_reducible first | exact HB.out | apply below_alloc | apply pw_below_drewN | apply below_drew1) | exact HB.out))); rintro e w33 ⟨rfl, hb⟩; refine ⟨_, rfl, ?_⟩; have n0_ := Aside0.mk (Kd.R_below (by (with_reducible repeat (first | apply Kd.R_alloc | apply Kd.R_drewN | apply Kd.R_drew)); exact HO230.out) hb); have n1_ := Aside0.mk (below_step (by repeat (first | (with_reducible first | exact HB.out | apply below_alloc | apply pw_below_drewN | apply below_drew1) | exact HB.out)) hb); clear HO230; clear HB; have HO230 := n0_; have HB := n1_; clear n0_ n1_; (try clear hb); (try clear hb2); (try clear hk); (try clear hi)))
   go_ret
   exact ⟨by first | rfl | (simp [errW_none, errW_some] <;> rfl) | (simp [*, errW_none, errW_some] <;> rfl), by repeat (first | (with_reducible first | exact HB.out | apply below_alloc | apply pw_below_drewN | apply below_drew1) | exact HB.out)⟩
 ·rw [if_neg c3] at H
  have c3b0 : (t228 == 0) = false := beq_eq_false_iff_ne.mpr c3
  have c3b1 : (t228 != 0) = true := bne_iff_ne.mpr c3
  obtain rfl := Option.some.inj H
  go_enter Tryd.func51, Tryd.ntmps51
  go_wp2_with (first | ((with_reducible refine gate_callee (f := 52) rfl ?_); refine goesL_ (some 8) rfl rfl Tryd.func52 (by kernel_rfl) rfl #[.string (⟨#[48, 32, 111, 112, 32, 111, 117, 116, 32, 48, 10, 48, 32, 111, 117, 116, 32, 50, 10, 116, 105, 99, 107, 32, 53, 10, 48, 32, 98, 108, 111, 99, 107, 32, 119, 97, 105, 116, 10, 48, 32, 101, 110, 100, 32, 102, 97, 117, 108, 116, 101, 100, 32, 50, 10]⟩ : ByteArray)] rfl (by (try simp only [List.map_toArray, List.map_cons, List.map_nil]); first | done | rfl | (simp only [List.length_drop, List.length_take]; rfl)) ?_; (with_reducible refine (trace_Parse.calls k (⟨#[48, 32, 111, 112, 32, 111, 117, 116, 32, 48, 10, 48, 32, 111, 117, 116, 32, 50, 10, 116, 105, 99, 107, 32, 53, 10, 48, 32, 98, 108, 111, 99, 107, 32, 119, 97, 105, 116, 10, 48, 32, 101, 110, 100, 32, 102, 97, 117, 108, 116, 101, 100, 32, 50, 10]⟩ : ByteArray) t227 t228 _ A1.out ?side1).mono ?_); (case side1 => exact Gl.below HG.out (by repeat (first | (with_reducible first | exact HB.out | apply below_alloc | apply pw_below_drewN | apply below_drew1) | exact HB.out))); rintro e w34 ⟨v229, rfl, ho0, hb⟩; refine ⟨_, rfl, ?_⟩; have n0_ := Aside0.mk (Kd.R_lower ho0 (below_size (by repeat (first | (with_reducible first | exact HB.out | apply below_alloc | apply pw_below_drewN | apply below_drew1) | exact HB.out)))); have n1_ := Aside0.mk (below_step (by repeat (first | (with_reducible first | exact HB.out | apply below_alloc | apply pw_below_drewN | apply below_drew1) | exact HB.out)) hb); clear HB; have HO230 := n0_; have HB := n1_; clear n0_ n1_; (try clear hb); (try clear hb2); (try clear hk); (try clear hi); (try clear ho0); obtain ⟨Ao35, co35, eo35⟩ := Kd.R_slice HO230.out; subst eo35) | ((with_reducible refine gate_callee (f := 48) rfl ?_); refine goesL_ (some 13) rfl rfl Tryd.func48 (by kernel_rfl) rfl #[.slice Ao35 t227.length co35] rfl (by (try simp only [List.map_toArray, List.map_cons, List.map_nil]); first | done | rfl | (simp only [List.length_drop, List.length_take]; rfl)) ?_; (with_reducible refine (o_Text.calls _ _ t227 t231 t232 _ ?side1 ?side2 A2.out ?side3).mono ?_); (case side1 => repeat (first | exact (Kd.R_reads' HO230.out).2.2 | (with_reducible refine Kd.C_alloc ?_ _) | (with_reducible refine Kd.C_drewN ?_ _) | (with_reducible refine Kd.C_drew ?_))); (case side2 => exact (Kd.R_reads' HO230.out).2.1); (case side3 => exact Gl.below HG.out (by repeat (first | (with_reducible first | exact HB.out | apply below_alloc | apply pw_below_drewN | apply below_drew1) | exact HB.out))); rintro e w36 ⟨rfl, hb⟩; refine ⟨_, rfl, ?_⟩; have n0_ := Aside0.mk (Kd.R_below (by (with_reducible repeat (first | apply Kd.R_alloc | apply Kd.R_drewN | apply Kd.R_drew)); exact HO230.out) hb); have n1_ := Aside0.mk (below_step (by repeat (first | (with_reducible first | exact HB.out | apply below_alloc | apply pw_below_drewN | apply below_drew1) | exact HB.out)) hb); clear HO230; clear HB; have HO230 := n0_; have HB := n1_; clear n0_ n1_; (try clear hb); (try clear hb2); (try clear hk); (try clear hi)))
  go_ret
  exact ⟨by first | rfl | (simp [errW_none, errW_some] <;> rfl) | (simp [*, errW_none, errW_some] <;> rfl), by repeat (first | (with_reducible first | exact HB.out | apply below_alloc | apply pw_below_drewN | apply below_drew1) | exact HB.out)⟩
end Go.Proofs.YtadepdeckapgcaaDoor.PTr
end

section
namespace Go.Proofs.YtadepdeckapgcaaDoor.Tr
open Go.RowKit Go.Proofs.YtadepdeckapgcaaDoorW.PrintWords Go.Proofs.YtadepdeckapgcaaDoor.PTr Go.Proofs.YtadepdeckapgcaaDoor.Orc
set_option linter.unusedVariables false
set_option linter.unusedSimpArgs false
theorem no_itoa (c : UInt8) (hc : ¬ (48 ≤ c.toNat ∧ c.toNat ≤ 57)) (h45 : c ≠ 45) (n : Int) : ∀ b ∈ Lib.itoa n, b ≠ c := by
  intro b hb e
  subst e
  rcases itoa_mem n b hb with h | h
  · exact hc h
  · exact h45 h
theorem nm_free : ∀ i : Fin 52, ∀ b ∈ (rdOf ByteArray.empty NM (i.val : Int)).data.toList, b ≠ 32 ∧ b ≠ 10 := by decide +kernel
theorem ed_free : ∀ i : Fin 3, ∀ b ∈ (rdOf ByteArray.empty ED (i.val : Int)).data.toList, b ≠ 32 ∧ b ≠ 10 := by decide +kernel
theorem nm_no (A : Int) (h0 : 0 ≤ A) (h1 : A < 52) : ∀ b ∈ (nmB A).data.toList, b ≠ 32 ∧ b ≠ 10 := by
  have := nm_free ⟨A.toNat, by omega⟩
  simp only at this
  rw [show ((A.toNat : Nat) : Int) = A by omega] at this
  exact this
theorem ed_no (A : Int) (h0 : 0 ≤ A) (h1 : A < 3) : ∀ b ∈ (edB A).data.toList, b ≠ 32 ∧ b ≠ 10 := by
  have := ed_free ⟨A.toNat, by omega⟩
  simp only at this
  rw [show ((A.toNat : Nat) : Int) = A by omega] at this
  exact this
theorem nm_of : ∀ i : Fin 52, (ofGo (rdOf ByteArray.empty NM (i.val : Int)) NM 0).1 = (i.val : Int) := by decide +kernel
theorem ed_ix : ∀ i : Fin 3, ixGo (rdOf ByteArray.empty ED (i.val : Int)) ED 0 = (i.val : Int) := by decide +kernel
theorem nm_back (A : Int) (h0 : 0 ≤ A) (h1 : A < 52) : (ofGo (nmB A) NM 0).1 = A := by
  have := nm_of ⟨A.toNat, by omega⟩
  simp only at this
  rw [show ((A.toNat : Nat) : Int) = A by omega] at this
  exact this
theorem ed_back (A : Int) (h0 : 0 ≤ A) (h1 : A < 3) : ixGo (edB A) ED 0 = A := by
  have := ed_ix ⟨A.toNat, by omega⟩
  simp only at this
  rw [show ((A.toNat : Nat) : Int) = A by omega] at this
  exact this
def wordsL (K T A B : Int) : List (List UInt8) :=
  if K = 6 then [tickW, Lib.itoa A]
  else if K = 1 then [Lib.itoa T, opW, (nmB A).data.toList, Lib.itoa B]
  else if K = 2 then [Lib.itoa T, outW, Lib.itoa A]
  else if K = 3 then [Lib.itoa T, blockW, (nmB A).data.toList]
  else if K = 4 then [Lib.itoa T, wakeW, Lib.itoa A]
  else if K = 5 then [Lib.itoa T, endW, (edB A).data.toList, Lib.itoa B]
  else [Lib.itoa T, abortW, Lib.itoa A]
theorem line_glue (K T A B : Int) (h : chk K T A B = 0) : (lineB K T A B).data.toList = glue 32 (wordsL K T A B) := by
  obtain ⟨k1, k7, _⟩ := chk_zero h
  have hK : K = 1 ∨ K = 2 ∨ K = 3 ∨ K = 4 ∨ K = 5 ∨ K = 6 ∨ K = 7 := by omega
  unfold lineB wordsB wordsL
  rcases hK with rfl | rfl | rfl | rfl | rfl | rfl | rfl <;> simp [glue, itB_data, spB, opW, outW, blockW, wakeW, endW, abortW, tickW]
theorem words_free (c : UInt8) (hc : c = 32 ∨ c = 10) (K T A B : Int) (h : chk K T A B = 0) : ∀ p ∈ wordsL K T A B, ∀ b ∈ p, b ≠ c := by
  obtain ⟨k1, k7, _, _, hn, he, _⟩ := chk_zero h
  have hd : ∀ n, ∀ b ∈ Lib.itoa n, b ≠ c := fun n => no_itoa c (by rcases hc with rfl | rfl <;> decide) (by rcases hc with rfl | rfl <;> decide) n
  have hK : K = 1 ∨ K = 2 ∨ K = 3 ∨ K = 4 ∨ K = 5 ∨ K = 6 ∨ K = 7 := by omega
  have w : ∀ p ∈ [opW, outW, blockW, wakeW, endW, abortW, tickW], ∀ b ∈ p, b ≠ c := by rcases hc with rfl | rfl <;> decide
  unfold wordsL
  intro p hp
  rcases hK with rfl | rfl | rfl | rfl | rfl | rfl | rfl
  · have := nm_no A (hn (.inl rfl)).1 (hn (.inl rfl)).2
    simp at hp
    rcases hp with rfl | rfl | rfl | rfl
    · exact hd _
    · exact w _ (by simp)
    · intro b hb; rcases hc with rfl | rfl; exact (this b hb).1; exact (this b hb).2
    · exact hd _
  · simp at hp
    rcases hp with rfl | rfl | rfl
    · exact hd _
    · exact w _ (by simp)
    · exact hd _
  · have := nm_no A (hn (.inr rfl)).1 (hn (.inr rfl)).2
    simp at hp
    rcases hp with rfl | rfl | rfl
    · exact hd _
    · exact w _ (by simp)
    · intro b hb; rcases hc with rfl | rfl; exact (this b hb).1; exact (this b hb).2
  · simp at hp
    rcases hp with rfl | rfl | rfl
    · exact hd _
    · exact w _ (by simp)
    · exact hd _
  · have := ed_no A (he rfl).1 (he rfl).2
    simp at hp
    rcases hp with rfl | rfl | rfl | rfl
    · exact hd _
    · exact w _ (by simp)
    · intro b hb; rcases hc with rfl | rfl; exact (this b hb).1; exact (this b hb).2
    · exact hd _
  · simp at hp
    rcases hp with rfl | rfl
    · exact w _ (by simp)
    · exact hd _
  · simp at hp
    rcases hp with rfl | rfl | rfl
    · exact hd _
    · exact w _ (by simp)
    · exact hd _
theorem words_ne (K T A B : Int) : wordsL K T A B ≠ [] := by
  unfold wordsL; repeat' split
  all_goals simp
theorem itoa_tick (n : Int) : Lib.itoa n ≠ tickW := by
  intro e
  have := itoa_mem n 116 (by rw [e]; decide)
  rcases this with h | h
  · revert h; unfold isDig; decide
  · revert h; decide
theorem gs_words (e : S72) (he : inE e) (h : chkE e = 0) : gsE ((wordsL e.f0 e.f1 e.f2 e.f3).map mkB) = e := by
  obtain ⟨K, T, A, B⟩ := e
  obtain ⟨hK0, hT, hA, hB⟩ := he
  obtain ⟨k1, k7, h6, _, hn, hed, hB0⟩ := chk_zero (show chk K T A B = 0 from h)
  have hK : K = 1 ∨ K = 2 ∨ K = 3 ∨ K = 4 ∨ K = 5 ∨ K = 6 ∨ K = 7 := by omega
  dsimp only at hK0 hT hA hB
  have ht := itoa_tick T
  unfold wordsL gsE
  rcases hK with rfl | rfl | rfl | rfl | rfl | rfl | rfl
  · have := nm_back A (hn (.inl rfl)).1 (hn (.inl rfl)).2
    simp [rdOf, mkB_list, ht, atoiN_itoa, hT, hA, hB, mkB_of, this]
  · obtain rfl := hB0 (by decide) (by decide)
    simp [rdOf, mkB_list, ht, atoiN_itoa, hT, hA, opW, outW]
  · obtain rfl := hB0 (by decide) (by decide)
    have := nm_back A (hn (.inr rfl)).1 (hn (.inr rfl)).2
    simp [rdOf, mkB_list, ht, atoiN_itoa, hT, mkB_of, this, opW, outW, blockW]
  · obtain rfl := hB0 (by decide) (by decide)
    simp [rdOf, mkB_list, ht, atoiN_itoa, hT, hA, opW, outW, blockW, wakeW]
  · have := ed_back A (hed rfl).1 (hed rfl).2
    simp [rdOf, mkB_list, ht, atoiN_itoa, hT, hB, mkB_of, this, opW, outW, blockW, wakeW, endW]
  · obtain rfl := hB0 (by decide) (by decide)
    obtain rfl := h6 rfl
    simp [rdOf, mkB_list, atoiN_itoa, hA]
  · obtain rfl := hB0 (by decide) (by decide)
    simp [rdOf, mkB_list, ht, atoiN_itoa, hT, hA, opW, outW, blockW, wakeW, endW, abortW]
end Go.Proofs.YtadepdeckapgcaaDoor.Tr
end

section
namespace Go.Proofs.YtadepdeckapgcaaDoor.Tr
open Go.RowKit Go.Proofs.YtadepdeckapgcaaDoorW.PrintWords Go.Proofs.YtadepdeckapgcaaDoor.PTr Go.Proofs.YtadepdeckapgcaaDoor.Orc
set_option linter.unusedVariables false
set_option linter.unusedSimpArgs false
theorem first_eq {c : UInt8} {p r p' r' : List UInt8} (h : p ++ c :: r = p' ++ c :: r') (hp : ∀ b ∈ p, b ≠ c) (hp' : ∀ b ∈ p', b ≠ c) : p = p' ∧ r = r' := by
  have a := cut_one c p r hp
  have b := cut_one c p' r' hp'
  rw [h, b] at a
  injection a with a1 a2; injection a2 with a2 _
  exact ⟨a1.symm, a2.symm⟩
theorem glue_mem (c : UInt8) : ∀ (ps : List (List UInt8)) (b : UInt8), b ∈ glue c ps → b = c ∨ ∃ p ∈ ps, b ∈ p
  | [], b, h => by simp [glue] at h
  | [p], b, h => .inr ⟨p, by simp, h⟩
  | p :: q :: ps, b, h => by
    simp only [glue, List.mem_append, List.mem_cons] at h
    rcases h with h | h | h
    · exact .inr ⟨p, by simp, h⟩
    · exact .inl h
    · rcases glue_mem c (q :: ps) b h with h | ⟨x, hx, hb⟩
      · exact .inl h
      · exact .inr ⟨x, List.mem_cons_of_mem _ hx, hb⟩
def okE (e : S72) : Prop := inE e ∧ chkE e = 0
def bytesE (e : S72) : List UInt8 := (lineB e.f0 e.f1 e.f2 e.f3).data.toList
theorem line_no10 (e : S72) (h : okE e) : ∀ b ∈ bytesE e, b ≠ 10 := by
  intro b hb
  unfold bytesE at hb
  rw [line_glue _ _ _ _ h.2] at hb
  rcases glue_mem 32 _ b hb with h1 | ⟨p, hp, hb⟩
  · rw [h1]; decide
  · exact words_free 10 (.inr rfl) _ _ _ _ h.2 p hp b hb
def flat : List S72 → List UInt8
  | [] => []
  | e :: l => bytesE e ++ 10 :: flat l
theorem textOf_flat : ∀ (l : List S72) (L : List UInt8), (∀ e ∈ l, okE e) → textOf l L = (mkB (L ++ flat l), 0)
  | [], L, _ => by simp [textOf, flat, mkB]
  | e :: l, L, h => by
    have he := h e (by simp)
    simp only [textOf]
    rw [if_pos he.2, textOf_flat l _ (fun x hx => h x (by simp [hx]))]
    simp [flat, lnE, bytesE]
theorem pieces_line (e : S72) (h : okE e) : pieces 32 (bytesE e) = wordsL e.f0 e.f1 e.f2 e.f3 := by
  unfold bytesE
  rw [line_glue _ _ _ _ h.2]
  exact pieces_glue 32 _ (words_ne _ _ _ _) (words_free 32 (.inl rfl) _ _ _ _ h.2)
theorem back_line (e : S72) (h : okE e) : gsE ((pieces 32 (bytesE e)).map mkB) = e := by rw [pieces_line e h]; exact gs_words e h.1 h.2
theorem flat_inj : ∀ (l l' : List S72), (∀ e ∈ l, okE e) → (∀ e ∈ l', okE e) → flat l = flat l' → l = l'
  | [], [], _, _, _ => rfl
  | [], e :: l, _, _, h => by simp [flat] at h
  | e :: l, [], _, _, h => by simp [flat] at h
  | e :: l, e' :: l', h1, h2, h => by
    have a := h1 e (by simp)
    have b := h2 e' (by simp)
    obtain ⟨x, y⟩ := first_eq h (line_no10 e a) (line_no10 e' b)
    have q := back_line e a
    rw [x, back_line e' b] at q
    rw [← q, flat_inj l l' (fun x hx => h1 x (by simp [hx])) (fun x hx => h2 x (by simp [hx])) y]
theorem map_mk (l : List ByteArray) : (l.map (·.data.toList)).map mkB = l := by
  rw [List.map_map]; conv => rhs; rw [← List.map_id l]
  exact List.map_congr_left (fun x _ => mkB_of x)
theorem split_some (s : List UInt8) (hs : s.length ≤ 60000) : o_Split.f (mkB s) (⟨#[32]⟩ : ByteArray) = some ((pieces 32 s).map mkB) := by
  unfold o_Split.f
  rw [if_pos ⟨by rw [mkB_size]; omega, by decide⟩]
  have h := Lib.splitB_data (⟨#[32]⟩ : ByteArray) 0 (Lib.countB (mkB s) (⟨#[32]⟩ : ByteArray)) (mkB s)
  rw [mkB_data] at h
  have hc : Lib.countB (mkB s) (⟨#[32]⟩ : ByteArray) = s.count 32 := by
    unfold Lib.countB; rw [mkB_data]; exact Lib.count_one 32 s
  rw [hc] at h ⊢
  have e : (⟨#[32]⟩ : ByteArray).data.toList = [32] := rfl
  rw [e, splitK_pieces 32 s.length s (Nat.le_refl _)] at h
  rw [← h, map_mk]
theorem pieces_len (c : UInt8) : ∀ l : List UInt8, (pieces c l).length ≤ l.length + 1 ∧ ∀ p ∈ pieces c l, p.length ≤ l.length
  | [] => by simp [pieces]
  | b :: l => by
    obtain ⟨i1, i2⟩ := pieces_len c l
    unfold pieces
    split
    · refine ⟨by simp; omega, fun p hp => ?_⟩
      rcases List.mem_cons.1 hp with rfl | hp
      · simp
      · have := i2 p hp; simp; omega
    · cases e : pieces c l with
      | nil => exact absurd e (pieces_ne _ _)
      | cons q ps =>
        rw [e] at i1 i2
        refine ⟨by simp at i1 ⊢; omega, fun p hp => ?_⟩
        simp only [List.mem_cons] at hp
        rcases hp with rfl | hp
        · have := i2 q (by simp); simp; omega
        · have := i2 p (by simp [hp]); simp; omega
theorem guess_line (s : List UInt8) (hs : s.length ≤ 60000) : Ev (fun k => trace_guess.f k ((pieces 32 s).map mkB)) ((gsE ((pieces 32 s).map mkB)).f0, (gsE ((pieces 32 s).map mkB)).f1, (gsE ((pieces 32 s).map mkB)).f2, (gsE ((pieces 32 s).map mkB)).f3) := by
  obtain ⟨h1, h2⟩ := pieces_len 32 s
  refine guess_ev _ (fun w hw => ?_) (by rw [List.length_map]; omega)
  obtain ⟨p, hp, rfl⟩ := List.mem_map.1 hw
  rw [mkB_size]; have := h2 p hp; omega
theorem cutB_yes (p r : List UInt8) (hp : ∀ b ∈ p, b ≠ 10) (hs : (p ++ 10 :: r).length ≤ 60000) : o_Cut.f (mkB (p ++ 10 :: r)) (⟨#[10]⟩ : ByteArray) = some (mkB p, mkB r, true) := by
  unfold o_Cut.f
  rw [if_pos (by rw [mkB_size]; omega), mkB_data]
  have e : (⟨#[10]⟩ : ByteArray).data.toList = [10] := rfl
  rw [e, cut_one 10 p r hp]
  rfl
theorem cutB_no (p : List UInt8) (hp : ∀ b ∈ p, b ≠ 10) (hs : p.length ≤ 60000) : o_Cut.f (mkB p) (⟨#[10]⟩ : ByteArray) = some (mkB p, mkB [], false) := by
  unfold o_Cut.f
  rw [if_pos (by rw [mkB_size]; omega), mkB_data]
  have e : (⟨#[10]⟩ : ByteArray).data.toList = [10] := rfl
  rw [e, cut_no 10 p hp]
  rfl
theorem parse_any : ∀ (n : Nat) (s : List UInt8) (acc : List S72), s.length ≤ n → s.length ≤ 60000 → acc.length + n ≤ 1000000 →
    (∃ l, (∀ e ∈ l, okE e) ∧ s = flat l ∧ Ev (fun k => trace_Parse.l0 k (mkB s) acc) (acc ++ l, 0)) ∨
    ((¬ ∃ l, (∀ e ∈ l, okE e) ∧ s = flat l) ∧ Ev (fun k => trace_Parse.l0 k (mkB s) acc) (([] : List S72), 2)) := by
  intro n
  induction n with
  | zero =>
    intro s acc hn hs ha
    obtain rfl : s = [] := List.eq_nil_of_length_eq_zero (by omega)
    refine .inl ⟨[], by simp, rfl, Ev.step1 (fun k => ?_)⟩
    simp only [trace_Parse.l0]
    rw [if_pos (by rw [mkB_list])]
    simp
  | succ n ih =>
    intro s acc hn hs ha
    by_cases h0 : s = []
    · subst h0
      refine .inl ⟨[], by simp, rfl, Ev.step1 (fun k => ?_)⟩
      simp only [trace_Parse.l0]
      rw [if_pos (by rw [mkB_list])]
      simp
    have step : ∀ (p : List UInt8) (t : ByteArray) (b : Bool) (R : List S72 × Int), o_Cut.f (mkB s) (⟨#[10]⟩ : ByteArray) = some (mkB p, t, b) → p.length ≤ 60000 →
        Ev (fun k => if b = true then (if (lineR (gsE ((pieces 32 p).map mkB)).f0 (gsE ((pieces 32 p).map mkB)).f1 (gsE ((pieces 32 p).map mkB)).f2 (gsE ((pieces 32 p).map mkB)).f3).2 = 0 then (if (lineR (gsE ((pieces 32 p).map mkB)).f0 (gsE ((pieces 32 p).map mkB)).f1 (gsE ((pieces 32 p).map mkB)).f2 (gsE ((pieces 32 p).map mkB)).f3).1.toList = (mkB p).toList then (if acc.length < 4398046511104 then (trace_Parse.l0 k t (acc ++ [gsE ((pieces 32 p).map mkB)])) else (none)) else (some (([] : List S72), 2))) else (some (([] : List S72), 2))) else (some (([] : List S72), 2))) R →
        Ev (fun k => trace_Parse.l0 k (mkB s) acc) R := by
      intro p t b R hc hp hR
      refine Ev.step (f := _) (fun k => by simp only [trace_Parse.l0]; rw [if_neg (by rw [mkB_list]; exact h0)]) ?_
      refine Ev.bind (Ev.const fun k => hc) ?_
      refine Ev.bind (Ev.const fun k => split_some p hp) ?_
      refine Ev.bind (guess_line p hp) ?_
      have hi := gsE_in ((pieces 32 p).map mkB)
      exact Ev.bind (pline _ _ _ _ hi.2.1 hi.2.2.1 hi.2.2.2) hR
    rcases cut_cases 10 s with hno | ⟨p, r, rfl, hp⟩
    · refine .inr ⟨?_, step s (mkB []) false _ (cutB_no s hno hs) hs (Ev.const fun k => rfl)⟩
      rintro ⟨l, hl, rfl⟩
      cases l with
      | nil => exact h0 rfl
      | cons e l => exact hno 10 (by simp [flat]) rfl
    · have hlen : p.length + r.length + 1 ≤ 60000 ∧ p.length + r.length + 1 ≤ n + 1 := by simp at hs hn; omega
      have hi := gsE_in ((pieces 32 p).map mkB)
      by_cases hg : chkE (gsE ((pieces 32 p).map mkB)) = 0 ∧ bytesE (gsE ((pieces 32 p).map mkB)) = p
      · obtain ⟨hg1, hg2⟩ := hg
        have hR : ∀ R, Ev (fun k => trace_Parse.l0 k (mkB r) (acc ++ [gsE ((pieces 32 p).map mkB)])) R → Ev (fun k => trace_Parse.l0 k (mkB (p ++ 10 :: r)) acc) R := by
          intro R hR
          refine step p (mkB r) true R (cutB_yes p r hp hs) (by omega) ?_
          refine Ev.congr (fun k => ?_) hR
          rw [if_pos rfl]
          unfold lineR
          rw [if_pos (show chk _ _ _ _ = 0 from hg1), if_pos rfl, if_pos (by rw [mkB_list, Lib.toList_data]; exact hg2), if_pos (by omega)]
        rcases ih r (acc ++ [gsE ((pieces 32 p).map mkB)]) (by omega) (by omega) (by simp; omega) with ⟨l, hl, rfl, hE⟩ | ⟨hnone, hE⟩
        · refine .inl ⟨gsE ((pieces 32 p).map mkB) :: l, ?_, ?_, ?_⟩
          · intro e he
            rcases List.mem_cons.1 he with rfl | he
            · exact ⟨hi, hg1⟩
            · exact hl e he
          · simp only [flat]; rw [hg2]
          · have q := hR _ hE
            simpa using q
        · refine .inr ⟨?_, hR _ hE⟩
          rintro ⟨l, hl, hf⟩
          cases l with
          | nil => simp [flat] at hf
          | cons e l =>
            obtain ⟨x, y⟩ := first_eq hf hp (line_no10 e (hl e (by simp)))
            exact hnone ⟨l, fun x hx => hl x (by simp [hx]), y⟩
      · refine .inr ⟨?_, step p (mkB r) true _ (cutB_yes p r hp hs) (by omega) (Ev.const fun k => ?_)⟩
        · rintro ⟨l, hl, hf⟩
          cases l with
          | nil => simp [flat] at hf
          | cons e l =>
            have he := hl e (by simp)
            obtain ⟨x, y⟩ := first_eq hf hp (line_no10 e he)
            apply hg
            rw [x, back_line e he]
            exact ⟨he.2, rfl⟩
        · rw [if_pos rfl]
          unfold lineR
          by_cases hc : chkE (gsE ((pieces 32 p).map mkB)) = 0
          · rw [if_pos (show chk _ _ _ _ = 0 from hc), if_pos rfl, if_neg (by rw [mkB_list, Lib.toList_data]; exact fun e => hg ⟨hc, e⟩)]
          · rw [if_neg (show ¬ chk _ _ _ _ = 0 from hc)]
            dsimp only
            rw [if_neg (show ¬ chk _ _ _ _ = 0 from hc)]
theorem parse_text (l : List S72) (h : ∀ e ∈ l, okE e) (hs : (flat l).length ≤ 60000) : Ev (fun k => trace_Parse.f k (mkB (flat l))) (l, 0) := by
  unfold trace_Parse.f
  refine Ev.congr (fun k => by rw [if_neg (by rw [mkB_size]; omega)]) ?_
  rcases parse_any 60000 (flat l) [] hs hs (by simp) with ⟨l', hl', hf, hE⟩ | ⟨hno, _⟩
  · rw [flat_inj l l' h hl' hf]
    rw [flat_inj l l' h hl' hf] at hE
    simpa using hE
  · exact absurd ⟨l, h, rfl⟩ hno
theorem parse_long (s : ByteArray) (h : 60000 < s.size) : Ev (fun k => trace_Parse.f k s) (([] : List S72), 4) := by
  unfold trace_Parse.f
  exact Ev.const fun k => by rw [if_pos (by omega)]
end Go.Proofs.YtadepdeckapgcaaDoor.Tr
end

section
namespace Go.Proofs.YtadepdeckapgcaaDoor.PTr
open Go.RowKit Go.Proofs.YtadepdeckapgcaaDoor.Orc Go.Proofs.YtadepdeckapgcaaDoorW.PrintWords Go.Proofs.YtadepdeckapgcaaDoorW.PrintLast Go.Proofs.YtadepdeckapgcaaDoorW.PrintMore
attribute [local go_sem] max2_int min2_int max_two min_two max_three min_three max_four min_four
set_option linter.unusedVariables false
set_option linter.unusedSimpArgs false
attribute [local go_sem high] eqA72
def logjamlaw41_same.l0 : Nat → List (S72) → List (S72) → Int → Option (Bool)
 | 0, _, _, _ => none
 | k + 1, x0, x1, x5 => if x5 < (x0.length : Int) then (if 0 ≤ x5 then (if x5 < (x1.length : Int) then (if (!(((rd_T72 x0 x5).f0) == ((rd_T72 x1 x5).f0)) || (!(((rd_T72 x0 x5).f1) == ((rd_T72 x1 x5).f1)) || (!(((rd_T72 x0 x5).f2) == ((rd_T72 x1 x5).f2)) || (!(((rd_T72 x0 x5).f3) == ((rd_T72 x1 x5).f3)))))) = true then (some false) else (logjamlaw41_same.l0 k x0 x1 (wrap64 (x5 + 1)))) else (none)) else (none)) else (some true)
def logjamlaw41_same.f (k : Nat) (l0 : List (S72)) (l1 : List (S72)) : Option (Bool) := if (l0.length : Int) = (l1.length : Int) then (logjamlaw41_same.l0 k l0 l1 0) else (some false)
set_option maxHeartbeats 8000000 in
set_option maxRecDepth 100000 in
theorem logjamlaw41_same.calls (k : Nat) (A0 : Option Addr) (c0 : Nat) (l0 : List (S72)) (A1 : Option Addr) (c1 : Nat) (l1 : List (S72)) (r : Bool) (w : World) (hr0 : Kd.C k72 w A0 l0.length l0) (hc0 : l0.length ≤ c0) (hr1 : Kd.C k72 w A1 l1.length l1) (hc1 : l1.length ≤ c1) (h : logjamlaw41_same.f k l0 l1 = some r) :
  Calls Tryd.prog 54 #[.slice A0 l0.length c0, .slice A1 l1.length c1] w fun e w' => e = .returned (.bool r) ∧ Drawn0 w w' := by
 have hu72 := Tryd.underlying72
 have HR0 := Aside0.mk hr0
 have HC0 := Aside0.mk hc0
 clear hr0 hc0
 have HR1 := Aside0.mk hr1
 have HC1 := Aside0.mk hc1
 clear hr1 hc1
 have H : (if (l0.length : Int) = (l1.length : Int) then (logjamlaw41_same.l0 k l0 l1 0) else (some false)) = some r := h
 clear h
 by_cases c3 : (l0.length : Int) = (l1.length : Int)
 ·rw [if_pos c3] at H
  have c3b0 : ((l0.length : Int) == (l1.length : Int)) = true := beq_iff_eq.mpr c3
  have c3b1 : ((l0.length : Int) != (l1.length : Int)) = false := bne_eq_false_iff_eq.mpr c3
  have c3b2 : (l0.length == l1.length) = true := by first | simpa using c3 | (simp at c3 ⊢; omega)
  clear c3
  have H' := Aside0.mk H
  clear H
  go_enter Tryd.func54, Tryd.ntmps54
  go_wp2
  repeat (go_quiet (fail); try go_wp2)
  go_loopg [5] k (fun kq v5 w' => ∃ (x5_1 : Int), v5 = .int .i64 x5_1 ∧ Aside0 (logjamlaw41_same.l0 kq l0 l1 x5_1 = some r) ∧ Aside0 (kq ≤ k) ∧ Drawn0 w w')
  case atStart => exact ⟨(0), (by first | rfl | (simp; done) | (simp only [emptyNe_, emptyEq_]; done) | (simp [*]; done)), H', ⟨Nat.le_refl _⟩, by repeat (first | exact Drawn0.refl _ | apply Drawn0.step)⟩
  case round =>
   clear H'; try clear c1; try clear p2; try clear c3; try clear c3b0; try clear c3b1; try clear c3b2
   obtain ⟨x5_1, rfl, HA, HK1, ⟨m1, rfl⟩⟩ := hrel
   cases gk with
   | zero => exact absurd HA.out (by simp [logjamlaw41_same.l0])
   | succ k1 =>
    have H := HA.out
    clear HA
    simp only [logjamlaw41_same.l0] at H
    by_cases c4 : x5_1 < (l0.length : Int)
    ·rw [if_pos c4] at H
     have c4b0 : decide (x5_1 < (l0.length : Int)) = true := decide_eq_true c4
     clear c4
     by_cases c5 : 0 ≤ x5_1
     ·rw [if_pos c5] at H
      have c5b0 : decide (0 ≤ x5_1) = true := decide_eq_true c5
      clear c5
      by_cases c6 : x5_1 < (l1.length : Int)
      ·rw [if_pos c6] at H
       have c6b0 : decide (x5_1 < (l1.length : Int)) = true := decide_eq_true c6
       clear c6
       by_cases c7 : (!(((rd_T72 l0 x5_1).f0) == ((rd_T72 l1 x5_1).f0)) || (!(((rd_T72 l0 x5_1).f1) == ((rd_T72 l1 x5_1).f1)) || (!(((rd_T72 l0 x5_1).f2) == ((rd_T72 l1 x5_1).f2)) || (!(((rd_T72 l0 x5_1).f3) == ((rd_T72 l1 x5_1).f3)))))) = true
       ·rw [if_pos c7] at H
        have c7b0 : (!(((rd_T72 l0 x5_1).f0) == ((rd_T72 l1 x5_1).f0)) || (!(((rd_T72 l0 x5_1).f1) == ((rd_T72 l1 x5_1).f1)) || (!(((rd_T72 l0 x5_1).f2) == ((rd_T72 l1 x5_1).f2)) || (!(((rd_T72 l0 x5_1).f3) == ((rd_T72 l1 x5_1).f3)))))) = true := c7
        clear c7
        obtain rfl := Option.some.inj H
        have p255 : 0 ≤ (x5_1 : Int) := of_decide_eq_true (by first | (with_reducible assumption) | assumption)
        have q255 : x5_1 < (l0.length : Int) := of_decide_eq_true (by first | (with_reducible assumption) | assumption)
        obtain ⟨ad255, e255, hx255_0, hx255_1, hx255_2, hx255_3⟩ := at_T72 HR0.out x5_1 p255 q255
        cases e255
        replace p255 := eq_true p255
        replace q255 := eq_true q255
        have p256 : 0 ≤ (x5_1 : Int) := of_decide_eq_true (by first | (with_reducible assumption) | assumption)
        have q256 : x5_1 < (l1.length : Int) := of_decide_eq_true (by first | (with_reducible assumption) | assumption)
        obtain ⟨ad256, e256, hx256_0, hx256_1, hx256_2, hx256_3⟩ := at_T72 HR1.out x5_1 p256 q256
        cases e256
        replace p256 := eq_true p256
        replace q256 := eq_true q256
        go_wp2
        repeat (go_quiet (fail); try go_wp2)
        go_ret
        exact ⟨by first | rfl | (simp; done) | (simp only [emptyNe_, emptyEq_]; done) | (simp [*]; done), by repeat (first | exact Drawn0.refl _ | apply Drawn0.step)⟩
       ·rw [if_neg c7] at H
        have c7b0 : (!(((rd_T72 l0 x5_1).f0) == ((rd_T72 l1 x5_1).f0)) || (!(((rd_T72 l0 x5_1).f1) == ((rd_T72 l1 x5_1).f1)) || (!(((rd_T72 l0 x5_1).f2) == ((rd_T72 l1 x5_1).f2)) || (!(((rd_T72 l0 x5_1).f3) == ((rd_T72 l1 x5_1).f3)))))) = false := by simpa using c7
        clear c7
        have H' := Aside0.mk H
        clear H
        have p255 : 0 ≤ (x5_1 : Int) := of_decide_eq_true (by first | (with_reducible assumption) | assumption)
        have q255 : x5_1 < (l0.length : Int) := of_decide_eq_true (by first | (with_reducible assumption) | assumption)
        obtain ⟨ad255, e255, hx255_0, hx255_1, hx255_2, hx255_3⟩ := at_T72 HR0.out x5_1 p255 q255
        cases e255
        replace p255 := eq_true p255
        replace q255 := eq_true q255
        have p256 : 0 ≤ (x5_1 : Int) := of_decide_eq_true (by first | (with_reducible assumption) | assumption)
        have q256 : x5_1 < (l1.length : Int) := of_decide_eq_true (by first | (with_reducible assumption) | assumption)
        obtain ⟨ad256, e256, hx256_0, hx256_1, hx256_2, hx256_3⟩ := at_T72 HR1.out x5_1 p256 q256
        cases e256
        replace p256 := eq_true p256
        replace q256 := eq_true q256
        go_wp2
        repeat (go_quiet (fail); try go_wp2)
        go_roundg k1
        case measure => have := HK1.out; omega
        case rel => exact ⟨(wrap64 (x5_1 + 1)), (by first | rfl | (simp; done) | (simp only [emptyNe_, emptyEq_]; done) | (simp [*]; done)), H', ⟨by have := HK1.out; omega⟩, by repeat (first | exact Drawn0.refl _ | apply Drawn0.step)⟩
      ·rw [if_neg c6] at H
       exact absurd H (by simp)
     ·rw [if_neg c5] at H
      exact absurd H (by simp)
    ·rw [if_neg c4] at H
     have c4b0 : decide (x5_1 < (l0.length : Int)) = false := decide_eq_false c4
     clear c4
     obtain rfl := Option.some.inj H
     go_wp2
     repeat (go_quiet (fail); try go_wp2)
     go_ret
     exact ⟨by first | rfl | (simp; done) | (simp only [emptyNe_, emptyEq_]; done) | (simp [*]; done), by repeat (first | exact Drawn0.refl _ | apply Drawn0.step)⟩
 ·rw [if_neg c3] at H
  have c3b0 : ((l0.length : Int) == (l1.length : Int)) = false := beq_eq_false_iff_ne.mpr c3
  have c3b1 : ((l0.length : Int) != (l1.length : Int)) = true := bne_iff_ne.mpr c3
  have c3b2 : (l0.length == l1.length) = false := by first | simpa using c3 | (simp at c3 ⊢; omega)
  obtain rfl := Option.some.inj H
  go_enter Tryd.func54, Tryd.ntmps54
  go_wp2
  repeat (go_quiet (fail); try go_wp2)
  go_ret
  exact ⟨by first | rfl | (simp; done) | (simp only [emptyNe_, emptyEq_]; done) | (simp [*]; done), by repeat (first | exact Drawn0.refl _ | apply Drawn0.step)⟩
def logjamref41_split.l0 : Nat → ByteArray → List ByteArray → Int → Int → Option (List ByteArray)
 | 0, _, _, _, _ => none
 | k + 1, x0, x3, x4, x5 => if x5 < (x0.size : Int) then (if 0 ≤ x5 then (if (bt x0 x5) = 32 then (if 0 ≤ x4 then (if x4 ≤ x5 then (if x5 ≤ (x0.size : Int) then (if x3.length < 8796093022208 then (logjamref41_split.l0 k x0 (x3 ++ [x0.extract (x4 : Int).toNat (x5 : Int).toNat]) (wrap64 (x5 + 1)) (wrap64 (x5 + 1))) else (none)) else (none)) else (none)) else (none)) else (logjamref41_split.l0 k x0 x3 x4 (wrap64 (x5 + 1)))) else (none)) else (if 0 ≤ x4 then (if x4 ≤ (x0.size : Int) then (if x3.length < 8796093022208 then (some (x3 ++ [x0.extract (x4 : Int).toNat x0.size])) else (none)) else (none)) else (none))
def logjamref41_split.f (k : Nat) (a0 : ByteArray) : Option (List ByteArray) := logjamref41_split.l0 k a0 (([] : List ByteArray)) 0 0
set_option maxHeartbeats 8000000 in
set_option maxRecDepth 100000 in
theorem logjamref41_split.calls (k : Nat) (a0 : ByteArray) (r : List ByteArray) (w : World) (h : logjamref41_split.f k a0 = some r) :
  Calls Tryd.prog 136 #[.string a0] w fun e w' => ∃ v0_ : Value, e = .returned (v0_) ∧ Kd.R Kd.string 9 w' w.heap.size (fun _ => True) v0_ r ∧ Below w.heap.size w w' := by
 have HB := Aside0.mk (Below.refl w.heap.size w)
 have H : (logjamref41_split.l0 k a0 (([] : List ByteArray)) 0 0) = some r := h
 clear h
 obtain ⟨y279, hy279⟩ : ∃ y_ : List ByteArray, y_ = (([] : List ByteArray)) := ⟨_, rfl⟩
 replace H : (logjamref41_split.l0 k a0 y279 0 0) = some r := by first | (rw [hy279]; with_reducible exact H) | (have H2_ := (Option.bind_some _ _).symm.trans H; rw [hy279]; with_reducible exact H2_) | (have H2_ := (Option.bind_some _ _).symm.trans H; with_reducible exact H2_) | with_reducible exact H | (rw [hy279]; exact H) | exact H
 have Ny279 := Aside0.mk hy279
 clear hy279
 have H' := Aside0.mk H
 clear H
 go_enter Tryd.func136, Tryd.ntmps136
 go_wp2_with (first | ((with_reducible refine gate_dst (N := 6) rfl ?_); refine Kd.R_lit Kd.string _ 9 ?hg (N := 6) ?hd (xs := ([] : List ByteArray)) (inner := []) (ok := fun _ => True) (okp := fun _ => True) ?hr ?hp (fun _ hk => hk) trivial (Below.refl _ _) (Nat.le_refl _) (by simp) ?_; (case hd => rfl); (case hg => rfl); (case hr => first | (go_simp; done) | (go_simp; rfl)); (case hp => exact (Reps.none _ _)); intro v280 w2 ho3 hb hg_ hnew_; clear hg_ hnew_; (first | rw [← Ny279.out] at ho3 | (simp only [Int.reduceToNat] at ho3; rw [← Ny279.out] at ho3)); have n0_ := Aside0.mk (Kd.R_lower ho3 (below_size (by repeat (first | (with_reducible first | exact HB.out | apply below_alloc | apply pw_below_drewN | apply below_drew1) | exact HB.out)))); have n1_ := Aside0.mk (below_step (by repeat (first | (with_reducible first | exact HB.out | apply below_alloc | apply pw_below_drewN | apply below_drew1) | exact HB.out)) hb); clear HB; have HO281 := n0_; have HB := n1_; clear n0_ n1_; clear hb ho3))
 go_loopg [3, 4, 5] k (fun kq v3 v4 v5 w' => ∃ (x3_1 : List ByteArray) (x4_1 : Int) (x5_1 : Int), v4 = .int .i64 x4_1 ∧ v5 = .int .i64 x5_1 ∧ Aside0 (logjamref41_split.l0 kq a0 x3_1 x4_1 x5_1 = some r) ∧ Aside0 (kq ≤ k) ∧ Aside0 (Kd.R Kd.string 9 w' w.heap.size (fun _ => True) v3 x3_1) ∧ Aside0 (Below w.heap.size w w'))
 case atStart => exact ⟨(y279), (0), (0), (by first | rfl | (simp; done) | (simp only [emptyNe_, emptyEq_]; done) | (simp [*]; done)), (by first | rfl | (simp; done) | (simp only [emptyNe_, emptyEq_]; done) | (simp [*]; done)), H', ⟨Nat.le_refl _⟩, ⟨by (with_reducible repeat (first | apply Kd.R_alloc | apply Kd.R_drewN | apply Kd.R_drew)); exact HO281.out⟩, ⟨by repeat (first | (with_reducible first | exact HB.out | apply below_alloc | apply pw_below_drewN | apply below_drew1) | exact HB.out)⟩⟩
 case round =>
  clear H'; try clear c1; try clear p2
  obtain ⟨x3_1, x4_1, x5_1, rfl, rfl, HA, HK1, HO_3, HB⟩ := hrel
  cases gk with
  | zero => exact absurd HA.out (by simp [logjamref41_split.l0])
  | succ k1 =>
   have H := HA.out
   clear HA
   simp only [logjamref41_split.l0] at H
   by_cases c4 : x5_1 < (a0.size : Int)
   ·rw [if_pos c4] at H
    have c4b0 : decide (x5_1 < (a0.size : Int)) = true := decide_eq_true c4
    clear c4
    by_cases c5 : 0 ≤ x5_1
    ·rw [if_pos c5] at H
     have c5b0 : decide (0 ≤ x5_1) = true := decide_eq_true c5
     clear c5
     by_cases c7 : (bt a0 x5_1) = 32
     ·rw [if_pos c7] at H
      have c7b0 : ((bt a0 x5_1) == 32) = true := beq_iff_eq.mpr c7
      have c7b1 : ((bt a0 x5_1) != 32) = false := bne_eq_false_iff_eq.mpr c7
      clear c7
      by_cases c8 : 0 ≤ x4_1
      ·rw [if_pos c8] at H
       have c8b0 := eq_true c8
       have c8b1 : decide (0 ≤ x4_1) = true := decide_eq_true c8
       clear c8
       by_cases c9 : x4_1 ≤ x5_1
       ·rw [if_pos c9] at H
        have c9b0 := eq_true c9
        have c9b1 : decide (x4_1 ≤ x5_1) = true := decide_eq_true c9
        clear c9
        by_cases c10 : x5_1 ≤ (a0.size : Int)
        ·rw [if_pos c10] at H
         have c10b0 := eq_true c10
         have c10b1 : decide (x5_1 ≤ (a0.size : Int)) = true := decide_eq_true c10
         clear c10
         by_cases c11 : x3_1.length < 8796093022208
         ·rw [if_pos c11] at H
          have LMc11 := Aside0.mk c11
          clear c11
          obtain ⟨y282, hy282⟩ : ∃ y_ : List ByteArray, y_ = (x3_1 ++ [a0.extract (x4_1 : Int).toNat (x5_1 : Int).toNat]) := ⟨_, rfl⟩
          replace H : (logjamref41_split.l0 k1 a0 y282 (wrap64 (x5_1 + 1)) (wrap64 (x5_1 + 1))) = some r := by first | (rw [hy282]; with_reducible exact H) | (have H2_ := (Option.bind_some _ _).symm.trans H; rw [hy282]; with_reducible exact H2_) | (have H2_ := (Option.bind_some _ _).symm.trans H; with_reducible exact H2_) | with_reducible exact H | (rw [hy282]; exact H) | exact H
          have Ny282 := Aside0.mk hy282
          clear hy282
          have H' := Aside0.mk H
          clear H
          have p6 : 0 ≤ (x5_1 : Int) := of_decide_eq_true (by first | (with_reducible assumption) | assumption)
          have q6 : x5_1 < (a0.size : Int) := of_decide_eq_true (by first | (with_reducible assumption) | assumption)
          have hx6 := bt_at a0 x5_1
          replace p6 := eq_true p6
          replace q6 := eq_true q6
          go_wp2_with (first | ((with_reducible refine gate_builtin (b := .append) (xs := #[.tmp 17, .tmp 22]) rfl ?_); at_builtin; refine Kd.R_append Kd.string (w0 := w) w.heap.size rfl (.tmp 17) (.tmp 22) 137 9 (.string ⟨#[]⟩) 16 rfl Tryd.underlying137 info9 rfl (by decide) (by omega) u3 x3_1 (a0.extract (x4_1 : Int).toNat (x5_1 : Int).toNat) [.string (a0.extract (x4_1 : Int).toNat (x5_1 : Int).toNat)] (fun _ => True) (fun _ => False) rfl rfl ?aP (fun _ hk => hk.elim) ?aF ?aO ?aB ?aS ?aL ?_; (case aP => exact rfl); (case aB => exact (by repeat (first | (with_reducible first | exact HB.out | apply below_alloc | apply pw_below_drewN | apply below_drew1) | exact HB.out))); (case aF => exact (fun _ _ => trivial)); (case aO => exact (by (with_reducible repeat (first | apply Kd.R_alloc | apply Kd.R_drewN | apply Kd.R_drew)); exact HO_3.out)); (case aS => exact (below_size (by repeat (first | (with_reducible first | exact HB.out | apply below_alloc | apply pw_below_drewN | apply below_drew1) | exact HB.out)))); (case aL => have := LMc11.out; omega); intro v283 w12 ho hb hg hat; rw [← Ny282.out] at ho; have n0_ := Aside0.mk (hb); have n1_ := Aside0.mk (ho); clear HB; clear HO_3; have HB := n0_; have HO284 := n1_; clear n0_ n1_; clear ho hb hg hat))
          go_roundg k1
          case measure => have := HK1.out; omega
          case rel => exact ⟨(y282), (wrap64 (x5_1 + 1)), (wrap64 (x5_1 + 1)), (by first | rfl | (simp; done) | (simp only [emptyNe_, emptyEq_]; done) | (simp [*]; done)), (by first | rfl | (simp; done) | (simp only [emptyNe_, emptyEq_]; done) | (simp [*]; done)), H', ⟨by have := HK1.out; omega⟩, ⟨by (with_reducible repeat (first | apply Kd.R_alloc | apply Kd.R_drewN | apply Kd.R_drew)); exact HO284.out⟩, ⟨by repeat (first | (with_reducible first | exact HB.out | apply below_alloc | apply pw_below_drewN | apply below_drew1) | exact HB.out)⟩⟩
         ·rw [if_neg c11] at H
          exact absurd H (by simp)
        ·rw [if_neg c10] at H
         exact absurd H (by simp)
       ·rw [if_neg c9] at H
        exact absurd H (by simp)
      ·rw [if_neg c8] at H
       exact absurd H (by simp)
     ·rw [if_neg c7] at H
      have c7b0 : ((bt a0 x5_1) == 32) = false := beq_eq_false_iff_ne.mpr c7
      have c7b1 : ((bt a0 x5_1) != 32) = true := bne_iff_ne.mpr c7
      have H' := Aside0.mk H
      clear H
      have p6 : 0 ≤ (x5_1 : Int) := of_decide_eq_true (by first | (with_reducible assumption) | assumption)
      have q6 : x5_1 < (a0.size : Int) := of_decide_eq_true (by first | (with_reducible assumption) | assumption)
      have hx6 := bt_at a0 x5_1
      replace p6 := eq_true p6
      replace q6 := eq_true q6
      go_wp2
      go_roundg k1
      case measure => have := HK1.out; omega
      case rel => exact ⟨(x3_1), (x4_1), (wrap64 (x5_1 + 1)), (by first | rfl | (simp; done) | (simp only [emptyNe_, emptyEq_]; done) | (simp [*]; done)), (by first | rfl | (simp; done) | (simp only [emptyNe_, emptyEq_]; done) | (simp [*]; done)), H', ⟨by have := HK1.out; omega⟩, ⟨by (with_reducible repeat (first | apply Kd.R_alloc | apply Kd.R_drewN | apply Kd.R_drew)); exact HO_3.out⟩, ⟨by repeat (first | (with_reducible first | exact HB.out | apply below_alloc | apply pw_below_drewN | apply below_drew1) | exact HB.out)⟩⟩
    ·rw [if_neg c5] at H
     exact absurd H (by simp)
   ·rw [if_neg c4] at H
    have c4b0 : decide (x5_1 < (a0.size : Int)) = false := decide_eq_false c4
    clear c4
    by_cases c13 : 0 ≤ x4_1
    ·rw [if_pos c13] at H
     have c13b0 := eq_true c13
     have c13b1 : decide (0 ≤ x4_1) = true := decide_eq_true c13
     clear c13
     by_cases c14 : x4_1 ≤ (a0.size : Int)
     ·rw [if_pos c14] at H
      have c14b0 := eq_true c14
      have c14b1 : decide (x4_1 ≤ (a0.size : Int)) = true := decide_eq_true c14
      clear c14
      by_cases c15 : x3_1.length < 8796093022208
      ·rw [if_pos c15] at H
       have LMc15 := Aside0.mk c15
       clear c15
       obtain ⟨y285, hy285⟩ : ∃ y_ : List ByteArray, y_ = (x3_1 ++ [a0.extract (x4_1 : Int).toNat a0.size]) := ⟨_, rfl⟩
       replace H : (some y285) = some r := by first | (rw [hy285]; with_reducible exact H) | (have H2_ := (Option.bind_some _ _).symm.trans H; rw [hy285]; with_reducible exact H2_) | (have H2_ := (Option.bind_some _ _).symm.trans H; with_reducible exact H2_) | with_reducible exact H | (rw [hy285]; exact H) | exact H
       have Ny285 := Aside0.mk hy285
       clear hy285
       obtain rfl := Option.some.inj H
       go_wp2_with (first | ((with_reducible refine gate_builtin (b := .append) (xs := #[.tmp 26, .tmp 30]) rfl ?_); at_builtin; refine Kd.R_append Kd.string (w0 := w) w.heap.size rfl (.tmp 26) (.tmp 30) 137 9 (.string ⟨#[]⟩) 16 rfl Tryd.underlying137 info9 rfl (by decide) (by omega) u3 x3_1 (a0.extract (x4_1 : Int).toNat a0.size) [.string (a0.extract (x4_1 : Int).toNat a0.size)] (fun _ => True) (fun _ => False) rfl rfl ?aP (fun _ hk => hk.elim) ?aF ?aO ?aB ?aS ?aL ?_; (case aP => exact rfl); (case aB => exact (by repeat (first | (with_reducible first | exact HB.out | apply below_alloc | apply pw_below_drewN | apply below_drew1) | exact HB.out))); (case aF => exact (fun _ _ => trivial)); (case aO => exact (by (with_reducible repeat (first | apply Kd.R_alloc | apply Kd.R_drewN | apply Kd.R_drew)); exact HO_3.out)); (case aS => exact (below_size (by repeat (first | (with_reducible first | exact HB.out | apply below_alloc | apply pw_below_drewN | apply below_drew1) | exact HB.out)))); (case aL => have := LMc15.out; omega); intro v286 w16 ho hb hg hat; rw [← Ny285.out] at ho; have n0_ := Aside0.mk (hb); have n1_ := Aside0.mk (ho); clear HB; clear HO_3; have HB := n0_; have HO287 := n1_; clear n0_ n1_; clear ho hb hg hat))
       go_ret
       exact ⟨_, by first | rfl | (simp [errW_none, errW_some] <;> rfl) | (simp [*, errW_none, errW_some] <;> rfl), by (with_reducible repeat (first | apply Kd.R_alloc | apply Kd.R_drewN | apply Kd.R_drew)); exact HO287.out, by repeat (first | (with_reducible first | exact HB.out | apply below_alloc | apply pw_below_drewN | apply below_drew1) | exact HB.out)⟩
      ·rw [if_neg c15] at H
       exact absurd H (by simp)
     ·rw [if_neg c14] at H
      exact absurd H (by simp)
    ·rw [if_neg c13] at H
     exact absurd H (by simp)
end Go.Proofs.YtadepdeckapgcaaDoor.PTr
end

section
namespace Go.Proofs.YtadepdeckapgcaaDoor.PTr
open Go.RowKit Go.Proofs.YtadepdeckapgcaaDoor.Orc Go.Proofs.YtadepdeckapgcaaDoorW.PrintWords Go.Proofs.YtadepdeckapgcaaDoorW.PrintLast Go.Proofs.YtadepdeckapgcaaDoorW.PrintMore
attribute [local go_sem] max2_int min2_int max_two min_two max_three min_three max_four min_four
set_option linter.unusedVariables false
set_option linter.unusedSimpArgs false
mutual
def logjamref41_number.j0 : Nat → ByteArray → Int → Int → Bool → Option (Int × Bool)
 | 0, _, _, _, _ => none
 | k + 1, x0, x4, x5, x17 => if x17 = true then (logjamref41_number.j1 k x0 x4 1) else (logjamref41_number.j1 k x0 x4 x5)
def logjamref41_number.j1 : Nat → ByteArray → Int → Int → Option (Int × Bool)
 | 0, _, _, _ => none
 | k + 1, x0, x4, x5 => if (wrap64 ((x0.size : Int) - x5)) < 1 then (logjamref41_number.j2 k x0 x4 x5 true) else (logjamref41_number.j2 k x0 x4 x5 (decide ((wrap64 ((x0.size : Int) - x5)) > 19)))
def logjamref41_number.j2 : Nat → ByteArray → Int → Int → Bool → Option (Int × Bool)
 | 0, _, _, _, _ => none
 | k + 1, x0, x4, x5, x29 => if x29 = true then (some (0, false)) else (logjamref41_number.l0 k x0 x4 x5 x5)
def logjamref41_number.l0 : Nat → ByteArray → Int → Int → Int → Option (Int × Bool)
 | 0, _, _, _, _ => none
 | k + 1, x0, x4, x5, x6 => if x6 < (x0.size : Int) then (if 0 ≤ x6 then (if (wrap64 ((wrap64 (bt x0 x6)) - 48)) < 0 then (some (0, false)) else (if (wrap64 ((wrap64 (bt x0 x6)) - 48)) > 9 then (some (0, false)) else (if x4 > (wrap64 (Int.tdiv (wrap64 (9223372036854775807 - (wrap64 ((wrap64 (bt x0 x6)) - 48)))) 10)) then (some (0, false)) else (logjamref41_number.l0 k x0 (wrap64 ((wrap64 (10 * x4)) + (wrap64 ((wrap64 (bt x0 x6)) - 48)))) x5 (wrap64 (x6 + 1)))))) else (none)) else (if x5 = 1 then ((logjamref09_Int.f k (wrap64 (-x4))).bind fun t288 => (some (wrap64 (-x4), (t288.toList == x0.toList)))) else ((logjamref09_Int.f k x4).bind fun t289 => (some (x4, (t289.toList == x0.toList)))))
end
def logjamref41_number.f (k : Nat) (a0 : ByteArray) : Option (Int × Bool) := if a0.toList = ([45, 57, 50, 50, 51, 51, 55, 50, 48, 51, 54, 56, 53, 52, 55, 55, 53, 56, 48, 56] : List UInt8) then (some ((-9223372036854775808), true)) else (if (a0.size : Int) > 0 then (if 0 < (a0.size : Int) then (logjamref41_number.j0 k a0 0 0 ((bt a0 0) == 45)) else (none)) else (logjamref41_number.j0 k a0 0 0 false))
set_option maxHeartbeats 8000000 in
set_option maxRecDepth 100000 in
theorem logjamref41_number.calls (k : Nat) (a0 : ByteArray) (r1 : Int) (r2 : Bool) (w : World) (h : logjamref41_number.f k a0 = some (r1, r2)) :
  Calls Tryd.prog 137 #[.string a0] w fun e w' => e = .returned (.tuple #[.int .i64 r1, .bool r2]) ∧ Below w.heap.size w w' := by
 have HB := Aside0.mk (Below.refl w.heap.size w)
 have H : (if a0.toList = ([45, 57, 50, 50, 51, 51, 55, 50, 48, 51, 54, 56, 53, 52, 55, 55, 53, 56, 48, 56] : List UInt8) then (some ((-9223372036854775808), true)) else (if (a0.size : Int) > 0 then (if 0 < (a0.size : Int) then (logjamref41_number.j0 k a0 0 0 ((bt a0 0) == 45)) else (none)) else (logjamref41_number.j0 k a0 0 0 false))) = some (r1, r2) := h
 clear h
 by_cases c2 : a0.toList = ([45, 57, 50, 50, 51, 51, 55, 50, 48, 51, 54, 56, 53, 52, 55, 55, 53, 56, 48, 56] : List UInt8)
 ·rw [if_pos c2] at H
  have c2b0 : (a0.toList == ([45, 57, 50, 50, 51, 51, 55, 50, 48, 51, 54, 56, 53, 52, 55, 55, 53, 56, 48, 56] : List UInt8)) = true := beq_iff_eq.mpr c2
  have c2b1 : (a0.toList != ([45, 57, 50, 50, 51, 51, 55, 50, 48, 51, 54, 56, 53, 52, 55, 55, 53, 56, 48, 56] : List UInt8)) = false := bne_eq_false_iff_eq.mpr c2
  clear c2
  simp only [Option.some.injEq, Prod.mk.injEq] at H
  obtain ⟨rfl, rfl⟩ := H
  go_enter Tryd.func137, Tryd.ntmps137
  go_wp2
  go_ret2
  exact ⟨by first | rfl | (simp [errW_none, errW_some] <;> rfl) | (simp [*, errW_none, errW_some] <;> rfl), by repeat (first | (with_reducible first | exact HB.out | apply below_alloc | apply pw_below_drewN | apply below_drew1) | exact HB.out)⟩
 ·rw [if_neg c2] at H
  have c2b0 : (a0.toList == ([45, 57, 50, 50, 51, 51, 55, 50, 48, 51, 54, 56, 53, 52, 55, 55, 53, 56, 48, 56] : List UInt8)) = false := beq_eq_false_iff_ne.mpr c2
  have c2b1 : (a0.toList != ([45, 57, 50, 50, 51, 51, 55, 50, 48, 51, 54, 56, 53, 52, 55, 55, 53, 56, 48, 56] : List UInt8)) = true := bne_iff_ne.mpr c2
  have HC3 := Aside0.mk H
  clear H
  go_enter Tryd.func137, Tryd.ntmps137
  go_upto_region 4 with (fail)
  go_cut [17] (fun v17 wc => ∃ (kq : Nat) (x17_2 : Bool), v17 = .bool x17_2 ∧ Aside0 (logjamref41_number.j0 kq a0 0 0 x17_2 = some (r1, r2)) ∧ Aside0 (kq ≤ k) ∧ Aside0 (Below w.heap.size w wc))
  case first =>
   have H := HC3.out
   clear HC3
   by_cases c4 : (a0.size : Int) > 0
   ·rw [if_pos c4] at H
    have c4b0 : decide (0 < (a0.size : Int)) = true := decide_eq_true c4
    have c4b1 : decide (0 < a0.size) = true := decide_eq_true (by omega)
    clear c4
    (first | rw [c4b0] | (simp only [i64_w, i32_w]; rw [c4b0]) | skip)
    by_cases c5 : 0 < (a0.size : Int)
    ·rw [if_pos c5] at H
     have c5b0 : decide (0 < (a0.size : Int)) = true := decide_eq_true c5
     have c5b1 : decide (0 < a0.size) = true := decide_eq_true (by omega)
     clear c5
     have H' := Aside0.mk H
     clear H
     have p6 : 0 ≤ (0 : Int) := (by omega)
     have q6 : 0 < a0.size := (by have : (0 : Int) < (a0.size : Int) := of_decide_eq_true (by first | (with_reducible assumption) | assumption); omega)
     have hx6 : ∀ h : 0 < a0.size, ((a0[0]'h).toNat : Int) = bt a0 0 := bt_at a0 0
     clear p6
     have qi6 : (0 < (a0.size : Int)) = True := eq_true (of_decide_eq_true (by first | (with_reducible assumption) | assumption))
     replace q6 := eq_true q6
     go_wp2
     go_meet
     case rel => exact ⟨_, (((bt a0 0) == 45)), (by first | rfl | (simp; done) | (simp only [emptyNe_, emptyEq_]; done) | (simp [*]; done)), H', ⟨by first | omega | exact Nat.le_refl _⟩, ⟨by repeat (first | (with_reducible first | exact HB.out | apply below_alloc | apply pw_below_drewN | apply below_drew1) | exact HB.out)⟩⟩
    ·rw [if_neg c5] at H
     exact absurd H (by simp)
   ·rw [if_neg c4] at H
    have c4b0 : decide (0 < (a0.size : Int)) = false := decide_eq_false c4
    have c4b1 : decide (0 < a0.size) = false := decide_eq_false (by omega)
    clear c4
    (first | rw [c4b0] | (simp only [i64_w, i32_w]; rw [c4b0]) | skip)
    have H' := Aside0.mk H
    clear H
    go_wp2
    go_meet
    case rel => exact ⟨_, (false), (by first | rfl | (simp; done) | (simp only [emptyNe_, emptyEq_]; done) | (simp [*]; done)), H', ⟨by first | omega | exact Nat.le_refl _⟩, ⟨by repeat (first | (with_reducible first | exact HB.out | apply below_alloc | apply pw_below_drewN | apply below_drew1) | exact HB.out)⟩⟩
  case rest =>
   clear HC3; try clear c1; try clear c2; try clear c2b0; try clear c2b1; try clear p2; try clear c4; try clear c4b0; try clear c4b1; try clear c5; try clear c5b0; try clear c5b1; try clear p6; try clear q6; try clear hx6; try clear qi6; try clear p6; try clear q6
   obtain ⟨kq, x17_2, rfl, HA, HJ2, HB⟩ := hcut
   cases kq with
   | zero => exact absurd HA.out (by simp [logjamref41_number.j0])
   | succ kj2 =>
    have H := HA.out
    clear HA
    simp only [logjamref41_number.j0] at H
    have HC7 := Aside0.mk H
    clear H
    go_upto_if 17 with (fail)
    go_cut [5] (fun v5 wc => ∃ (kq : Nat) (x5_6 : Int), v5 = .int .i64 x5_6 ∧ Aside0 (logjamref41_number.j1 kq a0 0 x5_6 = some (r1, r2)) ∧ Aside0 (kq ≤ kj2) ∧ Aside0 (Below w.heap.size w wc))
    case first =>
     have H := HC7.out
     clear HC7
     by_cases c8 : x17_2 = true
     ·subst c8
      have H1 : (logjamref41_number.j1 kj2 a0 0 1) = some (r1, r2) := by rw [if_pos rfl] at H; exact H
      clear H
      have H := H1
      clear H1
      have H' := Aside0.mk H
      clear H
      go_wp2
      go_meet
      case rel => exact ⟨_, (1), (by first | rfl | (simp; done) | (simp only [emptyNe_, emptyEq_]; done) | (simp [*]; done)), H', ⟨by have := HJ2.out; first | omega | exact Nat.le_refl _⟩, ⟨by repeat (first | (with_reducible first | exact HB.out | apply below_alloc | apply pw_below_drewN | apply below_drew1) | exact HB.out)⟩⟩
     ·replace c8 := Bool.eq_false_iff.mpr c8
      subst c8
      have H1 : (logjamref41_number.j1 kj2 a0 0 0) = some (r1, r2) := by rw [if_neg (show ¬ (false = true) by decide)] at H; exact H
      clear H
      have H := H1
      clear H1
      have H' := Aside0.mk H
      clear H
      go_wp2
      go_meet
      case rel => exact ⟨_, (0), (by first | rfl | (simp; done) | (simp only [emptyNe_, emptyEq_]; done) | (simp [*]; done)), H', ⟨by have := HJ2.out; first | omega | exact Nat.le_refl _⟩, ⟨by repeat (first | (with_reducible first | exact HB.out | apply below_alloc | apply pw_below_drewN | apply below_drew1) | exact HB.out)⟩⟩
    case rest =>
     clear HC7; try clear c1; try clear c2; try clear c2b0; try clear c2b1; try clear p2; try clear c4; try clear c4b0; try clear c4b1; try clear c5; try clear c5b0; try clear c5b1; try clear p6; try clear q6; try clear hx6; try clear qi6; try clear c8; try clear p2; try clear p6; try clear q6
     obtain ⟨kq, x5_6, rfl, HA, HJ6, HB⟩ := hcut
     cases kq with
     | zero => exact absurd HA.out (by simp [logjamref41_number.j1])
     | succ kj6 =>
      have H := HA.out
      clear HA
      simp only [logjamref41_number.j1] at H
      have HC9 := Aside0.mk H
      clear H
      go_upto_region 6 with (fail)
      go_cut [29] (fun v29 wc => ∃ (kq : Nat) (x29_8 : Bool), v29 = .bool x29_8 ∧ Aside0 (logjamref41_number.j2 kq a0 0 x5_6 x29_8 = some (r1, r2)) ∧ Aside0 (kq ≤ kj6) ∧ Aside0 (Below w.heap.size w wc))
      case first =>
       have H := HC9.out
       clear HC9
       by_cases c10 : (wrap64 ((a0.size : Int) - x5_6)) < 1
       ·rw [if_pos c10] at H
        have c10b0 : decide ((wrap64 ((a0.size : Int) - x5_6)) < 1) = true := decide_eq_true c10
        clear c10
        (first | rw [c10b0] | (simp only [i64_w, i32_w]; rw [c10b0]) | skip)
        have H' := Aside0.mk H
        clear H
        go_wp2
        go_meet
        case rel => exact ⟨_, (true), (by first | rfl | (simp; done) | (simp only [emptyNe_, emptyEq_]; done) | (simp [*]; done)), H', ⟨by have := HJ2.out; have := HJ6.out; first | omega | exact Nat.le_refl _⟩, ⟨by repeat (first | (with_reducible first | exact HB.out | apply below_alloc | apply pw_below_drewN | apply below_drew1) | exact HB.out)⟩⟩
       ·rw [if_neg c10] at H
        have c10b0 : decide ((wrap64 ((a0.size : Int) - x5_6)) < 1) = false := decide_eq_false c10
        clear c10
        (first | rw [c10b0] | (simp only [i64_w, i32_w]; rw [c10b0]) | skip)
        have H' := Aside0.mk H
        clear H
        go_wp2
        go_meet
        case rel => exact ⟨_, (decide ((wrap64 ((a0.size : Int) - x5_6)) > 19)), (by first | rfl | (simp; done) | (simp only [emptyNe_, emptyEq_]; done) | (simp [*]; done)), H', ⟨by have := HJ2.out; have := HJ6.out; first | omega | exact Nat.le_refl _⟩, ⟨by repeat (first | (with_reducible first | exact HB.out | apply below_alloc | apply pw_below_drewN | apply below_drew1) | exact HB.out)⟩⟩
      case rest =>
       clear HC9; try clear c1; try clear c2; try clear c2b0; try clear c2b1; try clear p2; try clear c4; try clear c4b0; try clear c4b1; try clear c5; try clear c5b0; try clear c5b1; try clear p6; try clear q6; try clear hx6; try clear qi6; try clear c8; try clear c10; try clear c10b0; try clear p2; try clear p6; try clear q6
       obtain ⟨kq, x29_8, rfl, HA, HJ8, HB⟩ := hcut
       cases kq with
       | zero => exact absurd HA.out (by simp [logjamref41_number.j2])
       | succ kj8 =>
        have H := HA.out
        clear HA
        simp only [logjamref41_number.j2] at H
        by_cases c11 : x29_8 = true
        ·subst c11
         have H1 : (some (0, false)) = some (r1, r2) := by rw [if_pos rfl] at H; exact H
         clear H
         have H := H1
         clear H1
         simp only [Option.some.injEq, Prod.mk.injEq] at H
         obtain ⟨rfl, rfl⟩ := H
         go_wp2
         go_ret2
         exact ⟨by first | rfl | (simp [errW_none, errW_some] <;> rfl) | (simp [*, errW_none, errW_some] <;> rfl), by repeat (first | (with_reducible first | exact HB.out | apply below_alloc | apply pw_below_drewN | apply below_drew1) | exact HB.out)⟩
        ·replace c11 := Bool.eq_false_iff.mpr c11
         subst c11
         have H1 : (logjamref41_number.l0 kj8 a0 0 x5_6 x5_6) = some (r1, r2) := by rw [if_neg (show ¬ (false = true) by decide)] at H; exact H
         clear H
         have H := H1
         clear H1
         have H' := Aside0.mk H
         clear H
         go_wp2
         go_loopg [4, 6] kj8 (fun kq v4 v6 w' => ∃ (x4_4 : Int) (x6_4 : Int), v4 = .int .i64 x4_4 ∧ v6 = .int .i64 x6_4 ∧ Aside0 (logjamref41_number.l0 kq a0 x4_4 x5_6 x6_4 = some (r1, r2)) ∧ Aside0 (kq ≤ kj8) ∧ Aside0 (Below w.heap.size w w'))
         case atStart => exact ⟨(0), (x5_6), (by first | rfl | (simp; done) | (simp only [emptyNe_, emptyEq_]; done) | (simp [*]; done)), (by first | rfl | (simp; done) | (simp only [emptyNe_, emptyEq_]; done) | (simp [*]; done)), H', ⟨Nat.le_refl _⟩, ⟨by repeat (first | (with_reducible first | exact HB.out | apply below_alloc | apply pw_below_drewN | apply below_drew1) | exact HB.out)⟩⟩
         case round =>
          clear H'; try clear c1; try clear c2; try clear c2b0; try clear c2b1; try clear p2; try clear c4; try clear c4b0; try clear c4b1; try clear c5; try clear c5b0; try clear c5b1; try clear p6; try clear q6; try clear hx6; try clear qi6; try clear c8; try clear c10; try clear c10b0; try clear c11; try clear p2; try clear p6; try clear q6
          obtain ⟨x4_4, x6_4, rfl, rfl, HA, HK4, HB⟩ := hrel
          cases gk with
          | zero => exact absurd HA.out (by simp [logjamref41_number.l0])
          | succ k4 =>
           have H := HA.out
           clear HA
           simp only [logjamref41_number.l0] at H
           by_cases c12 : x6_4 < (a0.size : Int)
           ·rw [if_pos c12] at H
            have c12b0 : decide (x6_4 < (a0.size : Int)) = true := decide_eq_true c12
            clear c12
            by_cases c13 : 0 ≤ x6_4
            ·rw [if_pos c13] at H
             have c13b0 : decide (0 ≤ x6_4) = true := decide_eq_true c13
             clear c13
             by_cases c15 : (wrap64 ((wrap64 (bt a0 x6_4)) - 48)) < 0
             ·rw [if_pos c15] at H
              have c15b0 : decide ((wrap64 ((wrap64 (bt a0 x6_4)) - 48)) < 0) = true := decide_eq_true c15
              clear c15
              simp only [Option.some.injEq, Prod.mk.injEq] at H
              obtain ⟨rfl, rfl⟩ := H
              have p14 : 0 ≤ (x6_4 : Int) := of_decide_eq_true (by first | (with_reducible assumption) | assumption)
              have q14 : x6_4 < (a0.size : Int) := of_decide_eq_true (by first | (with_reducible assumption) | assumption)
              have hx14 := bt_at a0 x6_4
              replace p14 := eq_true p14
              replace q14 := eq_true q14
              go_wp2
              go_ret2
              exact ⟨by first | rfl | (simp [errW_none, errW_some] <;> rfl) | (simp [*, errW_none, errW_some] <;> rfl), by repeat (first | (with_reducible first | exact HB.out | apply below_alloc | apply pw_below_drewN | apply below_drew1) | exact HB.out)⟩
             ·rw [if_neg c15] at H
              have c15b0 : decide ((wrap64 ((wrap64 (bt a0 x6_4)) - 48)) < 0) = false := decide_eq_false c15
              clear c15
              by_cases c16 : (wrap64 ((wrap64 (bt a0 x6_4)) - 48)) > 9
              ·rw [if_pos c16] at H
               have c16b0 : decide (9 < (wrap64 ((wrap64 (bt a0 x6_4)) - 48))) = true := decide_eq_true c16
               clear c16
               simp only [Option.some.injEq, Prod.mk.injEq] at H
               obtain ⟨rfl, rfl⟩ := H
               have p14 : 0 ≤ (x6_4 : Int) := of_decide_eq_true (by first | (with_reducible assumption) | assumption)
               have q14 : x6_4 < (a0.size : Int) := of_decide_eq_true (by first | (with_reducible assumption) | assumption)
               have hx14 := bt_at a0 x6_4
               replace p14 := eq_true p14
               replace q14 := eq_true q14
               go_wp2
               go_ret2
               exact ⟨by first | rfl | (simp [errW_none, errW_some] <;> rfl) | (simp [*, errW_none, errW_some] <;> rfl), by repeat (first | (with_reducible first | exact HB.out | apply below_alloc | apply pw_below_drewN | apply below_drew1) | exact HB.out)⟩
              ·rw [if_neg c16] at H
               have c16b0 : decide (9 < (wrap64 ((wrap64 (bt a0 x6_4)) - 48))) = false := decide_eq_false c16
               clear c16
               by_cases c17 : x4_4 > (wrap64 (Int.tdiv (wrap64 (9223372036854775807 - (wrap64 ((wrap64 (bt a0 x6_4)) - 48)))) 10))
               ·rw [if_pos c17] at H
                have c17b0 : decide ((wrap64 (Int.tdiv (wrap64 (9223372036854775807 - (wrap64 ((wrap64 (bt a0 x6_4)) - 48)))) 10)) < x4_4) = true := decide_eq_true c17
                clear c17
                simp only [Option.some.injEq, Prod.mk.injEq] at H
                obtain ⟨rfl, rfl⟩ := H
                have p14 : 0 ≤ (x6_4 : Int) := of_decide_eq_true (by first | (with_reducible assumption) | assumption)
                have q14 : x6_4 < (a0.size : Int) := of_decide_eq_true (by first | (with_reducible assumption) | assumption)
                have hx14 := bt_at a0 x6_4
                replace p14 := eq_true p14
                replace q14 := eq_true q14
                go_wp2
                go_ret2
                exact ⟨by first | rfl | (simp [errW_none, errW_some] <;> rfl) | (simp [*, errW_none, errW_some] <;> rfl), by repeat (first | (with_reducible first | exact HB.out | apply below_alloc | apply pw_below_drewN | apply below_drew1) | exact HB.out)⟩
               ·rw [if_neg c17] at H
                have c17b0 : decide ((wrap64 (Int.tdiv (wrap64 (9223372036854775807 - (wrap64 ((wrap64 (bt a0 x6_4)) - 48)))) 10)) < x4_4) = false := decide_eq_false c17
                clear c17
                have H' := Aside0.mk H
                clear H
                have p14 : 0 ≤ (x6_4 : Int) := of_decide_eq_true (by first | (with_reducible assumption) | assumption)
                have q14 : x6_4 < (a0.size : Int) := of_decide_eq_true (by first | (with_reducible assumption) | assumption)
                have hx14 := bt_at a0 x6_4
                replace p14 := eq_true p14
                replace q14 := eq_true q14
                go_wp2
                go_roundg k4
                case measure => have := HJ2.out; have := HJ6.out; have := HJ8.out; have := HK4.out; omega
                case rel => exact ⟨(wrap64 ((wrap64 (10 * x4_4)) + (wrap64 ((wrap64 (bt a0 x6_4)) - 48)))), (wrap64 (x6_4 + 1)), (by first | rfl | (simp; done) | (simp only [emptyNe_, emptyEq_]; done) | (simp [*]; done)), (by first | rfl | (simp; done) | (simp only [emptyNe_, emptyEq_]; done) | (simp [*]; done)), H', ⟨by have := HJ2.out; have := HJ6.out; have := HJ8.out; have := HK4.out; omega⟩, ⟨by repeat (first | (with_reducible first | exact HB.out | apply below_alloc | apply pw_below_drewN | apply below_drew1) | exact HB.out)⟩⟩
            ·rw [if_neg c13] at H
             exact absurd H (by simp)
           ·rw [if_neg c12] at H
            have c12b0 : decide (x6_4 < (a0.size : Int)) = false := decide_eq_false c12
            clear c12
            by_cases c18 : x5_6 = 1
            ·rw [if_pos c18] at H
             have c18b0 : (x5_6 == 1) = true := beq_iff_eq.mpr c18
             have c18b1 : (x5_6 != 1) = false := bne_eq_false_iff_eq.mpr c18
             clear c18
             replace H := Option.bind_eq_some_iff.mp H
             obtain ⟨t288, A190, H⟩ := H
             replace H : (some (wrap64 (-x4_4), (t288.toList == a0.toList))) = some (r1, r2) := H
             have A19 := Aside0.mk A190
             clear A190
             simp only [Option.some.injEq, Prod.mk.injEq] at H
             obtain ⟨rfl, rfl⟩ := H
             go_wp2_with (first | ((with_reducible refine gate_callee (f := 86) rfl ?_); refine goesL_ (some 65) rfl rfl Tryd.func86 (by kernel_rfl) rfl #[.int .i64 (wrap64 (-x4_4))] rfl (by (try simp only [List.map_toArray, List.map_cons, List.map_nil]); first | done | rfl | (simp only [List.length_drop, List.length_take]; rfl)) ?_; (with_reducible refine (logjamref09_Int.calls k4 (wrap64 (-x4_4)) t288 _ A19.out).mono ?_); rintro e w20 ⟨rfl, hb⟩; refine ⟨_, rfl, ?_⟩; have n0_ := Aside0.mk (below_step (by repeat (first | (with_reducible first | exact HB.out | apply below_alloc | apply pw_below_drewN | apply below_drew1) | exact HB.out)) hb); clear HB; have HB := n0_; clear n0_; (try clear hb); (try clear hb2); (try clear hk); (try clear hi)))
             go_ret2
             exact ⟨by first | rfl | (simp [errW_none, errW_some] <;> rfl) | (simp [*, errW_none, errW_some] <;> rfl), by repeat (first | (with_reducible first | exact HB.out | apply below_alloc | apply pw_below_drewN | apply below_drew1) | exact HB.out)⟩
            ·rw [if_neg c18] at H
             have c18b0 : (x5_6 == 1) = false := beq_eq_false_iff_ne.mpr c18
             have c18b1 : (x5_6 != 1) = true := bne_iff_ne.mpr c18
             replace H := Option.bind_eq_some_iff.mp H
             obtain ⟨t289, A210, H⟩ := H
             replace H : (some (x4_4, (t289.toList == a0.toList))) = some (r1, r2) := H
             have A21 := Aside0.mk A210
             clear A210
             simp only [Option.some.injEq, Prod.mk.injEq] at H
             obtain ⟨rfl, rfl⟩ := H
             go_wp2_with (first | ((with_reducible refine gate_callee (f := 86) rfl ?_); refine goesL_ (some 65) rfl rfl Tryd.func86 (by kernel_rfl) rfl #[.int .i64 x4_4] rfl (by (try simp only [List.map_toArray, List.map_cons, List.map_nil]); first | done | rfl | (simp only [List.length_drop, List.length_take]; rfl)) ?_; (with_reducible refine (logjamref09_Int.calls k4 x4_4 t289 _ A21.out).mono ?_); rintro e w22 ⟨rfl, hb⟩; refine ⟨_, rfl, ?_⟩; have n0_ := Aside0.mk (below_step (by repeat (first | (with_reducible first | exact HB.out | apply below_alloc | apply pw_below_drewN | apply below_drew1) | exact HB.out)) hb); clear HB; have HB := n0_; clear n0_; (try clear hb); (try clear hb2); (try clear hk); (try clear hi)))
             go_ret2
             exact ⟨by first | rfl | (simp [errW_none, errW_some] <;> rfl) | (simp [*, errW_none, errW_some] <;> rfl), by repeat (first | (with_reducible first | exact HB.out | apply below_alloc | apply pw_below_drewN | apply below_drew1) | exact HB.out)⟩
def logjamref41_ended.l0 : Nat → ByteArray → List ByteArray → Int → Option (Int)
 | 0, _, _, _ => none
 | k + 1, x0, x3, x4 => if x4 < (x3.length : Int) then (if 0 ≤ x4 then (if (rdOf ByteArray.empty x3 x4).toList = x0.toList then (some x4) else (logjamref41_ended.l0 k x0 x3 (wrap64 (x4 + 1)))) else (none)) else (some (-1))
def logjamref41_ended.f (k : Nat) (a0 : ByteArray) : Option (Int) := logjamref41_ended.l0 k a0 (([(⟨#[114, 101, 116, 117, 114, 110, 101, 100]⟩ : ByteArray), (⟨#[102, 97, 117, 108, 116, 101, 100]⟩ : ByteArray), (⟨#[107, 105, 108, 108, 101, 100]⟩ : ByteArray)] : List ByteArray)) 0
set_option maxHeartbeats 8000000 in
set_option maxRecDepth 100000 in
theorem logjamref41_ended.calls (k : Nat) (a0 : ByteArray) (r : Int) (w : World) (h : logjamref41_ended.f k a0 = some r) :
  Calls Tryd.prog 139 #[.string a0] w fun e w' => e = .returned (.int .i64 r) ∧ Below w.heap.size w w' := by
 have HB := Aside0.mk (Below.refl w.heap.size w)
 have H : (logjamref41_ended.l0 k a0 (([(⟨#[114, 101, 116, 117, 114, 110, 101, 100]⟩ : ByteArray), (⟨#[102, 97, 117, 108, 116, 101, 100]⟩ : ByteArray), (⟨#[107, 105, 108, 108, 101, 100]⟩ : ByteArray)] : List ByteArray)) 0) = some r := h
 clear h
 obtain ⟨y290, hy290⟩ : ∃ y_ : List ByteArray, y_ = (([(⟨#[114, 101, 116, 117, 114, 110, 101, 100]⟩ : ByteArray), (⟨#[102, 97, 117, 108, 116, 101, 100]⟩ : ByteArray), (⟨#[107, 105, 108, 108, 101, 100]⟩ : ByteArray)] : List ByteArray)) := ⟨_, rfl⟩
 replace H : (logjamref41_ended.l0 k a0 y290 0) = some r := by first | (rw [hy290]; with_reducible exact H) | (have H2_ := (Option.bind_some _ _).symm.trans H; rw [hy290]; with_reducible exact H2_) | (have H2_ := (Option.bind_some _ _).symm.trans H; with_reducible exact H2_) | with_reducible exact H | (rw [hy290]; exact H) | exact H
 have Ny290 := Aside0.mk hy290
 clear hy290
 have H' := Aside0.mk H
 clear H
 go_enter Tryd.func139, Tryd.ntmps139
 go_wp2_with (first | ((with_reducible refine gate_dst (N := 5) rfl ?_); refine Kd.R_lit Kd.string _ 9 ?hg (N := 5) ?hd (xs := ([(⟨#[114, 101, 116, 117, 114, 110, 101, 100]⟩ : ByteArray), (⟨#[102, 97, 117, 108, 116, 101, 100]⟩ : ByteArray), (⟨#[107, 105, 108, 108, 101, 100]⟩ : ByteArray)] : List ByteArray)) (inner := [.string (⟨#[114, 101, 116, 117, 114, 110, 101, 100]⟩ : ByteArray), .string (⟨#[102, 97, 117, 108, 116, 101, 100]⟩ : ByteArray), .string (⟨#[107, 105, 108, 108, 101, 100]⟩ : ByteArray)]) (ok := fun _ => True) (okp := fun _ => True) ?hr ?hp (fun _ hk => hk) trivial (Below.refl _ _) (Nat.le_refl _) (by simp) ?_; (case hd => rfl); (case hg => rfl); (case hr => first | (go_simp; done) | (go_simp; rfl)); (case hp => exact (Reps.one (show Kd.M Kd.string _ _ _ (⟨#[114, 101, 116, 117, 114, 110, 101, 100]⟩ : ByteArray) [.string (⟨#[114, 101, 116, 117, 114, 110, 101, 100]⟩ : ByteArray)] from rfl) (Reps.one (show Kd.M Kd.string _ _ _ (⟨#[102, 97, 117, 108, 116, 101, 100]⟩ : ByteArray) [.string (⟨#[102, 97, 117, 108, 116, 101, 100]⟩ : ByteArray)] from rfl) (Reps.one (show Kd.M Kd.string _ _ _ (⟨#[107, 105, 108, 108, 101, 100]⟩ : ByteArray) [.string (⟨#[107, 105, 108, 108, 101, 100]⟩ : ByteArray)] from rfl) (Reps.none _ _))))); intro v291 w2 ho3 hb hg_ hnew_; clear hg_ hnew_; (first | rw [← Ny290.out] at ho3 | (simp only [Int.reduceToNat] at ho3; rw [← Ny290.out] at ho3)); have n0_ := Aside0.mk (Kd.R_lower ho3 (below_size (by repeat (first | (with_reducible first | exact HB.out | apply below_alloc | apply pw_below_drewN | apply below_drew1) | exact HB.out)))); have n1_ := Aside0.mk (below_step (by repeat (first | (with_reducible first | exact HB.out | apply below_alloc | apply pw_below_drewN | apply below_drew1) | exact HB.out)) hb); clear HB; have HO292 := n0_; have HB := n1_; clear n0_ n1_; clear hb ho3))
 go_loopg [4] k (fun kq v4 w' => ∃ (x4_1 : Int), v4 = .int .i64 x4_1 ∧ Aside0 (logjamref41_ended.l0 kq a0 y290 x4_1 = some r) ∧ Aside0 (kq ≤ k) ∧ Aside0 (Kd.R Kd.string 9 w' w.heap.size (fun _ => True) v291 y290) ∧ Aside0 (Below w.heap.size w w'))
 case atStart => exact ⟨(0), (by first | rfl | (simp; done) | (simp only [emptyNe_, emptyEq_]; done) | (simp [*]; done)), H', ⟨Nat.le_refl _⟩, ⟨by (with_reducible repeat (first | apply Kd.R_alloc | apply Kd.R_drewN | apply Kd.R_drew)); exact HO292.out⟩, ⟨by repeat (first | (with_reducible first | exact HB.out | apply below_alloc | apply pw_below_drewN | apply below_drew1) | exact HB.out)⟩⟩
 case round =>
  clear H'; try clear c1; try clear p2
  obtain ⟨x4_1, rfl, HA, HK1, HO_3, HB⟩ := hrel
  cases gk with
  | zero => exact absurd HA.out (by simp [logjamref41_ended.l0])
  | succ k1 =>
   have H := HA.out
   clear HA
   simp only [logjamref41_ended.l0] at H
   by_cases c4 : x4_1 < (y290.length : Int)
   ·rw [if_pos c4] at H
    have c4b0 : decide (x4_1 < (y290.length : Int)) = true := decide_eq_true c4
    clear c4
    by_cases c5 : 0 ≤ x4_1
    ·rw [if_pos c5] at H
     have c5b0 : decide (0 ≤ x4_1) = true := decide_eq_true c5
     clear c5
     by_cases c6 : (rdOf ByteArray.empty y290 x4_1).toList = a0.toList
     ·rw [if_pos c6] at H
      have c6b0 : ((rdOf ByteArray.empty y290 x4_1).toList == a0.toList) = true := beq_iff_eq.mpr c6
      have c6b1 : ((rdOf ByteArray.empty y290 x4_1).toList != a0.toList) = false := bne_eq_false_iff_eq.mpr c6
      clear c6
      obtain rfl := Option.some.inj H
      obtain ⟨Ao7, co7, eo7⟩ := Kd.R_slice HO_3.out
      subst eo7
      have p293 : 0 ≤ (x4_1 : Int) := of_decide_eq_true (by first | (with_reducible assumption) | assumption)
      have q293 : x4_1 < (y290.length : Int) := of_decide_eq_true (by first | (with_reducible assumption) | assumption)
      obtain ⟨ad293, e293, hx293_0⟩ := Kd.at_string (Kd.R_reads' HO_3.out).2.2 x4_1 p293 q293
      cases e293
      replace p293 := eq_true p293
      replace q293 := eq_true q293
      go_wp2
      go_ret
      exact ⟨by first | rfl | (simp [errW_none, errW_some] <;> rfl) | (simp [*, errW_none, errW_some] <;> rfl), by repeat (first | (with_reducible first | exact HB.out | apply below_alloc | apply pw_below_drewN | apply below_drew1) | exact HB.out)⟩
     ·rw [if_neg c6] at H
      have c6b0 : ((rdOf ByteArray.empty y290 x4_1).toList == a0.toList) = false := beq_eq_false_iff_ne.mpr c6
      have c6b1 : ((rdOf ByteArray.empty y290 x4_1).toList != a0.toList) = true := bne_iff_ne.mpr c6
      have H' := Aside0.mk H
      clear H
      obtain ⟨Ao8, co8, eo8⟩ := Kd.R_slice HO_3.out
      subst eo8
      have p293 : 0 ≤ (x4_1 : Int) := of_decide_eq_true (by first | (with_reducible assumption) | assumption)
      have q293 : x4_1 < (y290.length : Int) := of_decide_eq_true (by first | (with_reducible assumption) | assumption)
      obtain ⟨ad293, e293, hx293_0⟩ := Kd.at_string (Kd.R_reads' HO_3.out).2.2 x4_1 p293 q293
      cases e293
      replace p293 := eq_true p293
      replace q293 := eq_true q293
      go_wp2
      go_roundg k1
      case measure => have := HK1.out; omega
      case rel => exact ⟨(wrap64 (x4_1 + 1)), (by first | rfl | (simp; done) | (simp only [emptyNe_, emptyEq_]; done) | (simp [*]; done)), H', ⟨by have := HK1.out; omega⟩, ⟨by (with_reducible repeat (first | apply Kd.R_alloc | apply Kd.R_drewN | apply Kd.R_drew)); exact HO_3.out⟩, ⟨by repeat (first | (with_reducible first | exact HB.out | apply below_alloc | apply pw_below_drewN | apply below_drew1) | exact HB.out)⟩⟩
    ·rw [if_neg c5] at H
     exact absurd H (by simp)
   ·rw [if_neg c4] at H
    have c4b0 : decide (x4_1 < (y290.length : Int)) = false := decide_eq_false c4
    clear c4
    obtain rfl := Option.some.inj H
    obtain ⟨Ao9, co9, eo9⟩ := Kd.R_slice HO_3.out
    subst eo9
    go_wp2
    go_ret
    exact ⟨by first | rfl | (simp [errW_none, errW_some] <;> rfl) | (simp [*, errW_none, errW_some] <;> rfl), by repeat (first | (with_reducible first | exact HB.out | apply below_alloc | apply pw_below_drewN | apply below_drew1) | exact HB.out)⟩
def logjamref06_Of.l0 : Nat → ByteArray → List ByteArray → Int → Option (Int)
 | 0, _, _, _ => none
 | k + 1, x0, x3, x4 => if x4 < (x3.length : Int) then (if 0 ≤ x4 then (if (rdOf ByteArray.empty x3 x4).toList = x0.toList then (some x4) else (logjamref06_Of.l0 k x0 x3 (wrap64 (x4 + 1)))) else (none)) else (some (-1))
def logjamref06_Of.f (k : Nat) (a0 : ByteArray) : Option (Int) := (logjamref06_Names.f).bind fun t294 => (logjamref06_Of.l0 k a0 t294 0)
set_option maxHeartbeats 8000000 in
set_option maxRecDepth 100000 in
theorem logjamref06_Of.calls (k : Nat) (a0 : ByteArray) (r : Int) (w : World) (h : logjamref06_Of.f k a0 = some r) :
  Calls Tryd.prog 138 #[.string a0] w fun e w' => e = .returned (.int .i64 r) ∧ Below w.heap.size w w' := by
 have HB := Aside0.mk (Below.refl w.heap.size w)
 have H : ((logjamref06_Names.f).bind fun t294 => (logjamref06_Of.l0 k a0 t294 0)) = some r := h
 clear h
 replace H := Option.bind_eq_some_iff.mp H
 obtain ⟨t294, A20, H⟩ := H
 replace H : (logjamref06_Of.l0 k a0 t294 0) = some r := H
 have A2 := Aside0.mk A20
 clear A20
 have H' := Aside0.mk H
 clear H
 go_enter Tryd.func138, Tryd.ntmps138
 go_wp2_with (first | ((with_reducible refine gate_callee (f := 91) rfl ?_); refine goesL_ (some 5) rfl rfl Tryd.func91 (by kernel_rfl) rfl #[] rfl (by (try simp only [List.map_toArray, List.map_cons, List.map_nil]); first | done | rfl | (simp only [List.length_drop, List.length_take]; rfl)) ?_; (with_reducible refine (logjamref06_Names.calls  t294 _ A2.out).mono ?_); rintro e w3 ⟨v295, rfl, ho0, hb⟩; refine ⟨_, rfl, ?_⟩; have n0_ := Aside0.mk (Kd.R_lower ho0 (below_size (by repeat (first | (with_reducible first | exact HB.out | apply below_alloc | apply pw_below_drewN | apply below_drew1) | exact HB.out)))); have n1_ := Aside0.mk (below_step (by repeat (first | (with_reducible first | exact HB.out | apply below_alloc | apply pw_below_drewN | apply below_drew1) | exact HB.out)) hb); clear HB; have HO296 := n0_; have HB := n1_; clear n0_ n1_; (try clear hb); (try clear hb2); (try clear hk); (try clear hi); (try clear ho0)))
 go_loopg [4] k (fun kq v4 w' => ∃ (x4_1 : Int), v4 = .int .i64 x4_1 ∧ Aside0 (logjamref06_Of.l0 kq a0 t294 x4_1 = some r) ∧ Aside0 (kq ≤ k) ∧ Aside0 (Kd.R Kd.string 9 w' w.heap.size (fun _ => True) v295 t294) ∧ Aside0 (Below w.heap.size w w'))
 case atStart => exact ⟨(0), (by first | rfl | (simp; done) | (simp only [emptyNe_, emptyEq_]; done) | (simp [*]; done)), H', ⟨Nat.le_refl _⟩, ⟨by (with_reducible repeat (first | apply Kd.R_alloc | apply Kd.R_drewN | apply Kd.R_drew)); exact HO296.out⟩, ⟨by repeat (first | (with_reducible first | exact HB.out | apply below_alloc | apply pw_below_drewN | apply below_drew1) | exact HB.out)⟩⟩
 case round =>
  clear H'; try clear c1; try clear p2
  obtain ⟨x4_1, rfl, HA, HK1, HO_3, HB⟩ := hrel
  cases gk with
  | zero => exact absurd HA.out (by simp [logjamref06_Of.l0])
  | succ k1 =>
   have H := HA.out
   clear HA
   simp only [logjamref06_Of.l0] at H
   by_cases c4 : x4_1 < (t294.length : Int)
   ·rw [if_pos c4] at H
    have c4b0 : decide (x4_1 < (t294.length : Int)) = true := decide_eq_true c4
    clear c4
    by_cases c5 : 0 ≤ x4_1
    ·rw [if_pos c5] at H
     have c5b0 : decide (0 ≤ x4_1) = true := decide_eq_true c5
     clear c5
     by_cases c6 : (rdOf ByteArray.empty t294 x4_1).toList = a0.toList
     ·rw [if_pos c6] at H
      have c6b0 : ((rdOf ByteArray.empty t294 x4_1).toList == a0.toList) = true := beq_iff_eq.mpr c6
      have c6b1 : ((rdOf ByteArray.empty t294 x4_1).toList != a0.toList) = false := bne_eq_false_iff_eq.mpr c6
      clear c6
      obtain rfl := Option.some.inj H
      obtain ⟨Ao7, co7, eo7⟩ := Kd.R_slice HO_3.out
      subst eo7
      have p297 : 0 ≤ (x4_1 : Int) := of_decide_eq_true (by first | (with_reducible assumption) | assumption)
      have q297 : x4_1 < (t294.length : Int) := of_decide_eq_true (by first | (with_reducible assumption) | assumption)
      obtain ⟨ad297, e297, hx297_0⟩ := Kd.at_string (Kd.R_reads' HO_3.out).2.2 x4_1 p297 q297
      cases e297
      replace p297 := eq_true p297
      replace q297 := eq_true q297
      go_wp2
      go_ret
      exact ⟨by first | rfl | (simp [errW_none, errW_some] <;> rfl) | (simp [*, errW_none, errW_some] <;> rfl), by repeat (first | (with_reducible first | exact HB.out | apply below_alloc | apply pw_below_drewN | apply below_drew1) | exact HB.out)⟩
     ·rw [if_neg c6] at H
      have c6b0 : ((rdOf ByteArray.empty t294 x4_1).toList == a0.toList) = false := beq_eq_false_iff_ne.mpr c6
      have c6b1 : ((rdOf ByteArray.empty t294 x4_1).toList != a0.toList) = true := bne_iff_ne.mpr c6
      have H' := Aside0.mk H
      clear H
      obtain ⟨Ao8, co8, eo8⟩ := Kd.R_slice HO_3.out
      subst eo8
      have p297 : 0 ≤ (x4_1 : Int) := of_decide_eq_true (by first | (with_reducible assumption) | assumption)
      have q297 : x4_1 < (t294.length : Int) := of_decide_eq_true (by first | (with_reducible assumption) | assumption)
      obtain ⟨ad297, e297, hx297_0⟩ := Kd.at_string (Kd.R_reads' HO_3.out).2.2 x4_1 p297 q297
      cases e297
      replace p297 := eq_true p297
      replace q297 := eq_true q297
      go_wp2
      go_roundg k1
      case measure => have := HK1.out; omega
      case rel => exact ⟨(wrap64 (x4_1 + 1)), (by first | rfl | (simp; done) | (simp only [emptyNe_, emptyEq_]; done) | (simp [*]; done)), H', ⟨by have := HK1.out; omega⟩, ⟨by (with_reducible repeat (first | apply Kd.R_alloc | apply Kd.R_drewN | apply Kd.R_drew)); exact HO_3.out⟩, ⟨by repeat (first | (with_reducible first | exact HB.out | apply below_alloc | apply pw_below_drewN | apply below_drew1) | exact HB.out)⟩⟩
    ·rw [if_neg c5] at H
     exact absurd H (by simp)
   ·rw [if_neg c4] at H
    have c4b0 : decide (x4_1 < (t294.length : Int)) = false := decide_eq_false c4
    clear c4
    obtain rfl := Option.some.inj H
    obtain ⟨Ao9, co9, eo9⟩ := Kd.R_slice HO_3.out
    subst eo9
    go_wp2
    go_ret
    exact ⟨by first | rfl | (simp [errW_none, errW_some] <;> rfl) | (simp [*, errW_none, errW_some] <;> rfl), by repeat (first | (with_reducible first | exact HB.out | apply below_alloc | apply pw_below_drewN | apply below_drew1) | exact HB.out)⟩
end Go.Proofs.YtadepdeckapgcaaDoor.PTr
end

section
namespace Go.Proofs.YtadepdeckapgcaaDoor.Tr
open Go.RowKit Go.Proofs.YtadepdeckapgcaaDoorW.PrintWords Go.Proofs.YtadepdeckapgcaaDoor.PTr Go.Proofs.YtadepdeckapgcaaDoor.Orc
set_option linter.unusedVariables false
set_option linter.unusedSimpArgs false
def nl : List UInt8 → Nat → Option Nat
  | [], n => some n
  | c :: r, n => if c.toNat < 48 ∨ 57 < c.toNat ∨ n > (9223372036854775807 - (c.toNat - 48)) / 10 then none else nl r (10 * n + (c.toNat - 48))
def minW : List UInt8 := [45, 57, 50, 50, 51, 51, 55, 50, 48, 51, 54, 56, 53, 52, 55, 55, 53, 56, 48, 56]
def restW (w : List UInt8) : List UInt8 := if w.head? = some 45 then w.tail else w
def numP (w : List UInt8) : Int × Bool :=
  if w = minW then (-9223372036854775808, true)
  else if (restW w).length < 1 ∨ 19 < (restW w).length then (0, false)
  else match nl (restW w) 0 with
    | none => (0, false)
    | some n => if w.head? = some 45 then (-(n : Int), decide (Lib.itoa (-(n : Int)) = w)) else ((n : Int), decide (Lib.itoa (n : Int) = w))
theorem nl_le : ∀ (l : List UInt8) (n m : Nat), n ≤ 9223372036854775807 → nl l n = some m → m ≤ 9223372036854775807
  | [], n, m, h, e => by simp only [nl] at e; injection e with e; omega
  | c :: r, n, m, h, e => by
    simp only [nl] at e
    split at e
    · cases e
    · exact nl_le r _ m (by omega) e
theorem nl_snoc (c : UInt8) (hc : isDig c) : ∀ (l : List UInt8) (n m : Nat), nl l n = some m → 10 * m + (c.toNat - 48) ≤ 9223372036854775807 → nl (l ++ [c]) n = some (10 * m + (c.toNat - 48))
  | [], n, m, e, h => by
    simp only [nl] at e; injection e with e; subst e
    unfold isDig at hc
    simp only [List.nil_append, nl]
    rw [if_neg (by omega)]
  | b :: l, n, m, e, h => by
    simp only [nl] at e
    split at e
    · cases e
    · rename_i hb
      simp only [List.cons_append, nl]
      rw [if_neg hb]
      exact nl_snoc c hc l _ m e h
theorem nl_dec (u : Nat) : u ≤ 9223372036854775807 → nl (Lib.decDigits u) 0 = some u := by
  induction u using Nat.strongRecOn with
  | _ u ih =>
    intro hu
    by_cases h : u < 10
    · rw [Lib.decDigits_one h]
      simp only [nl]
      rw [digit_toNat u h, if_neg (by omega)]
      congr 1; omega
    · rw [decDigits_big h]
      have hd : isDig (UInt8.ofNat (48 + u % 10)) := by unfold isDig; rw [digit_toNat _ (by omega)]; omega
      rw [nl_snoc _ hd _ 0 (u / 10) (ih (u / 10) (by omega) (by omega)) (by rw [digit_toNat _ (by omega)]; omega)]
      rw [digit_toNat _ (by omega)]
      congr 1; omega
theorem dec_len : ∀ (k u : Nat), u < 10 ^ (k + 1) → (Lib.decDigits u).length ≤ k + 1
  | 0, u, h => by rw [Lib.decDigits_one (by simpa using h)]; simp
  | k + 1, u, h => by
    by_cases hu : u < 10
    · rw [Lib.decDigits_one hu]; simp
    · rw [decDigits_big hu]
      have := dec_len k (u / 10) (by rw [Nat.pow_succ] at h; omega)
      simp; omega
theorem dec_head (u : Nat) : (Lib.decDigits u).head? ≠ some 45 := by
  intro e
  have hm : (45 : UInt8) ∈ Lib.decDigits u := by
    cases h : Lib.decDigits u with
    | nil => rw [h] at e; simp at e
    | cons a l => rw [h] at e; simp at e; subst e; simp
  have := decDigits_dig u 45 hm
  revert this; unfold isDig; decide
theorem min_itoa : Lib.itoa (-9223372036854775808) = minW := by
  unfold Lib.itoa
  rw [if_pos (by decide)]
  have e : ∀ (a b : Nat) (c : UInt8) (l : List UInt8), ¬ a < 10 → a / 10 = b → UInt8.ofNat (48 + a % 10) = c → Lib.decDigits b = l → Lib.decDigits a = l ++ [c] := by
    intro a b c l h1 h2 h3 h4; rw [decDigits_big h1, h2, h3, h4]
  have h := e 9223372036854775808 922337203685477580 56 _ (by decide) (by decide) (by decide) (e 922337203685477580 92233720368547758 48 _ (by decide) (by decide) (by decide) (e 92233720368547758 9223372036854775 56 _ (by decide) (by decide) (by decide) (e 9223372036854775 922337203685477 53 _ (by decide) (by decide) (by decide) (e 922337203685477 92233720368547 55 _ (by decide) (by decide) (by decide) (e 92233720368547 9223372036854 55 _ (by decide) (by decide) (by decide) (e 9223372036854 922337203685 52 _ (by decide) (by decide) (by decide) (e 922337203685 92233720368 53 _ (by decide) (by decide) (by decide) (e 92233720368 9223372036 56 _ (by decide) (by decide) (by decide) (e 9223372036 922337203 54 _ (by decide) (by decide) (by decide) (e 922337203 92233720 51 _ (by decide) (by decide) (by decide) (e 92233720 9223372 48 _ (by decide) (by decide) (by decide) (e 9223372 922337 50 _ (by decide) (by decide) (by decide) (e 922337 92233 55 _ (by decide) (by decide) (by decide) (e 92233 9223 51 _ (by decide) (by decide) (by decide) (e 9223 922 51 _ (by decide) (by decide) (by decide) (e 922 92 50 _ (by decide) (by decide) (by decide) (e 92 9 50 _ (by decide) (by decide) (by decide) (Lib.decDigits_one (by decide)))))))))))))))))))
  rw [show (-9223372036854775808 : Int).natAbs = 9223372036854775808 by decide, h]
  rfl
theorem numP_itoa (n : Int) (h : in64 n) : numP (Lib.itoa n) = (n, true) := by
  unfold in64 at h
  by_cases hm : n = -9223372036854775808
  · subst hm; rw [min_itoa]; rfl
  have hne : Lib.itoa n ≠ minW := by
    intro e
    rw [← min_itoa] at e
    have a := atoi_itoa n h.1 h.2
    rw [e, atoi_itoa _ (by decide) (by decide)] at a
    injection a with a
    exact hm a.symm
  unfold numP
  rw [if_neg hne]
  by_cases hn : n < 0
  · have e : Lib.itoa n = 45 :: Lib.decDigits n.natAbs := by unfold Lib.itoa; rw [if_pos hn]
    have hr : restW (Lib.itoa n) = Lib.decDigits n.natAbs := by unfold restW; rw [e]; rfl
    have hl := dec_len 18 n.natAbs (by omega)
    have hp : 0 < (Lib.decDigits n.natAbs).length := List.length_pos_iff.2 (decDigits_ne _)
    rw [hr, if_neg (by omega), nl_dec n.natAbs (by omega)]
    have hh : (Lib.itoa n).head? = some 45 := by rw [e]; rfl
    have hv : -((n.natAbs : Nat) : Int) = n := by omega
    simp only [hh, hv, if_true, decide_true]
  · have e : Lib.itoa n = Lib.decDigits n.toNat := by unfold Lib.itoa; rw [if_neg hn]
    have hh : (Lib.itoa n).head? ≠ some 45 := by rw [e]; exact dec_head _
    have hr : restW (Lib.itoa n) = Lib.decDigits n.toNat := by unfold restW; rw [if_neg hh, e]
    have hl := dec_len 18 n.toNat (by omega)
    have hp : 0 < (Lib.decDigits n.toNat).length := List.length_pos_iff.2 (decDigits_ne _)
    rw [hr, if_neg (by omega), nl_dec n.toNat (by omega)]
    have hv : ((n.toNat : Nat) : Int) = n := by omega
    simp only [hh, hv, if_false, decide_true]
theorem numP_true (w : List UInt8) (h : (numP w).2 = true) : w = Lib.itoa (numP w).1 := by
  unfold numP at h ⊢
  split
  · rename_i e; rw [e]; exact min_itoa.symm
  · rename_i e
    rw [if_neg e] at h
    split
    · rename_i e2; rw [if_pos e2] at h; cases h
    · rename_i e2
      rw [if_neg e2] at h
      split
      · rename_i e3; rw [e3] at h; cases h
      · rename_i n e3
        rw [e3] at h
        dsimp only at h ⊢
        split
        · rename_i e4; rw [if_pos e4] at h; exact (of_decide_eq_true h).symm
        · rename_i e4; rw [if_neg e4] at h; exact (of_decide_eq_true h).symm
theorem numP_in (w : List UInt8) : in64 (numP w).1 := by
  unfold numP in64
  split
  · decide
  · split
    · decide
    · split
      · decide
      · rename_i n e
        have := nl_le _ 0 n (by omega) e
        split <;> dsimp only <;> omega
theorem bt_mk (l : List UInt8) (i : Nat) (h : i < l.length) : bt (mkB l) (i : Int) = ((l[i].toNat : Nat) : Int) := by
  have hs : i < (mkB l).size := by rw [mkB_size]; exact h
  unfold bt
  rw [dif_pos (by simpa using hs)]
  simp [mkB, ByteArray.getElem_eq_getElem_data]
theorem num_l0 (w : List UInt8) (hw : w.length ≤ 60000) (x5 : Int) (h5 : x5 = 0 ∨ x5 = 1) : ∀ (d i n : Nat), i + d = w.length → n ≤ 9223372036854775807 →
    Ev (fun k => logjamref41_number.l0 k (mkB w) (n : Int) x5 (i : Int)) (match nl (w.drop i) n with
      | none => (0, false)
      | some m => if x5 = 1 then (-(m : Int), decide (Lib.itoa (-(m : Int)) = w)) else ((m : Int), decide (Lib.itoa (m : Int) = w)))
  | 0, i, n, hi, hn => by
    have hend : ∀ k, logjamref41_number.l0 (k + 1) (mkB w) (n : Int) x5 (i : Int) = (if x5 = 1 then ((logjamref09_Int.f k (wrap64 (-(n : Int)))).bind fun t288 => (some (wrap64 (-(n : Int)), (t288.toList == (mkB w).toList)))) else ((logjamref09_Int.f k (n : Int)).bind fun t289 => (some ((n : Int), (t289.toList == (mkB w).toList))))) := by
      intro k
      simp only [logjamref41_number.l0]
      rw [if_neg (by rw [mkB_size]; omega)]
    have hwr : wrap64 (-(n : Int)) = -(n : Int) := by unfold wrap64; omega
    have hb : ∀ z : Int, ((itB z).toList == (mkB w).toList) = decide (Lib.itoa z = w) := by
      intro z
      rw [mkB_list, Lib.toList_data, itB_data, Bool.eq_iff_iff]; simp
    rw [List.drop_of_length_le (by omega)]
    simp only [nl]
    refine Ev.step hend ?_
    by_cases h1 : x5 = 1
    · simp only [h1, if_true]
      rw [hwr]
      refine Ev.bind (int_ev (-(n : Int)) (by unfold in64; omega)) (Ev.const fun k => ?_)
      rw [hb]
    · simp only [h1, if_false]
      refine Ev.bind (int_ev (n : Int) (by unfold in64; omega)) (Ev.const fun k => ?_)
      rw [hb]
  | d + 1, i, n, hi, hn => by
    have hlt : i < w.length := by omega
    have hd : w.drop i = w[i] :: w.drop (i + 1) := List.drop_eq_getElem_cons hlt
    have hb := bt_mk w i hlt
    have hu := w[i].toNat_lt
    have hw1 : wrap64 ((w[i].toNat : Nat) : Int) = ((w[i].toNat : Nat) : Int) := by unfold wrap64; omega
    have hw2 : wrap64 (((w[i].toNat : Nat) : Int) - 48) = ((w[i].toNat : Nat) : Int) - 48 := by unfold wrap64; omega
    have hw3 : wrap64 ((i : Int) + 1) = ((i + 1 : Nat) : Int) := by unfold wrap64; omega
    rw [hd]
    simp only [nl]
    by_cases c1 : w[i].toNat < 48
    · rw [if_pos (.inl c1)]
      refine Ev.step1 (fun k => ?_)
      simp only [logjamref41_number.l0]
      rw [if_pos (by rw [mkB_size]; omega), if_pos (by omega), hb, hw1, hw2, if_pos (by omega)]
    by_cases c2 : 57 < w[i].toNat
    · rw [if_pos (.inr (.inl c2))]
      refine Ev.step1 (fun k => ?_)
      simp only [logjamref41_number.l0]
      rw [if_pos (by rw [mkB_size]; omega), if_pos (by omega), hb, hw1, hw2, if_neg (by omega), if_pos (by omega)]
    have hw4 : wrap64 (Int.tdiv (wrap64 (9223372036854775807 - (((w[i].toNat : Nat) : Int) - 48))) 10) = (((9223372036854775807 - (w[i].toNat - 48)) / 10 : Nat) : Int) := by
      have e1 : wrap64 (9223372036854775807 - (((w[i].toNat : Nat) : Int) - 48)) = ((9223372036854775807 - (w[i].toNat - 48) : Nat) : Int) := by unfold wrap64; omega
      rw [e1, Int.tdiv_eq_ediv_of_nonneg (by omega)]
      unfold wrap64; omega
    by_cases c3 : n > (9223372036854775807 - (w[i].toNat - 48)) / 10
    · rw [if_pos (.inr (.inr c3))]
      refine Ev.step1 (fun k => ?_)
      simp only [logjamref41_number.l0]
      rw [if_pos (by rw [mkB_size]; omega), if_pos (by omega), hb, hw1, hw2, if_neg (by omega), if_neg (by omega), hw4, if_pos (by omega)]
    · rw [if_neg (by omega)]
      have hn2 : 10 * n + (w[i].toNat - 48) ≤ 9223372036854775807 := by omega
      have hw5 : wrap64 ((wrap64 (10 * (n : Int))) + (((w[i].toNat : Nat) : Int) - 48)) = ((10 * n + (w[i].toNat - 48) : Nat) : Int) := by
        have e1 : wrap64 (10 * (n : Int)) = 10 * (n : Int) := by unfold wrap64; omega
        rw [e1]; unfold wrap64; omega
      refine Ev.step (f := fun k => logjamref41_number.l0 k (mkB w) ((10 * n + (w[i].toNat - 48) : Nat) : Int) x5 ((i + 1 : Nat) : Int)) (fun k => ?_) (num_l0 w hw x5 h5 d (i + 1) _ (by omega) hn2)
      simp only [logjamref41_number.l0]
      rw [if_pos (by rw [mkB_size]; omega), if_pos (by omega), hb, hw1, hw2, if_neg (by omega), if_neg (by omega), hw4, if_neg (by omega), hw5, hw3]
theorem number_ev (w : List UInt8) (hw : w.length ≤ 60000) : Ev (fun k => logjamref41_number.f k (mkB w)) (numP w) := by
  unfold logjamref41_number.f numP
  by_cases hm : w = minW
  · exact Ev.const fun k => by rw [if_pos (by rw [mkB_list]; exact hm), if_pos hm]
  rw [if_neg hm]
  refine Ev.congr (fun k => by rw [if_neg (by rw [mkB_list]; exact hm)]) ?_
  have j1 : ∀ x5 : Int, (x5 = 0 ∨ x5 = 1) → (x5 = 1 → w.head? = some 45) → (x5 = 0 → w.head? ≠ some 45) → restW w = w.drop x5.toNat → x5 ≤ w.length →
      Ev (fun k => logjamref41_number.j1 k (mkB w) 0 x5) (if (restW w).length < 1 ∨ 19 < (restW w).length then (0, false) else match nl (restW w) 0 with
        | none => (0, false)
        | some n => if w.head? = some 45 then (-(n : Int), decide (Lib.itoa (-(n : Int)) = w)) else ((n : Int), decide (Lib.itoa (n : Int) = w))) := by
    intro x5 h5 h1 h0 hr hx
    have hl : (restW w).length = w.length - x5.toNat := by rw [hr, List.length_drop]
    have hws : wrap64 (((mkB w).size : Int) - x5) = ((restW w).length : Int) := by rw [mkB_size, hl]; unfold wrap64; omega
    have j2 : ∀ b : Bool, (b = true ↔ ((restW w).length < 1 ∨ 19 < (restW w).length)) → Ev (fun k => logjamref41_number.j2 k (mkB w) 0 x5 b) (if (restW w).length < 1 ∨ 19 < (restW w).length then (0, false) else match nl (restW w) 0 with
        | none => (0, false)
        | some n => if w.head? = some 45 then (-(n : Int), decide (Lib.itoa (-(n : Int)) = w)) else ((n : Int), decide (Lib.itoa (n : Int) = w))) := by
      intro b hb
      by_cases hbt : b = true
      · rw [if_pos (hb.1 hbt)]
        exact Ev.step1 (fun k => by simp only [logjamref41_number.j2]; rw [if_pos hbt])
      · rw [if_neg (fun q => hbt (hb.2 q))]
        have q := num_l0 w hw x5 h5 (w.length - x5.toNat) x5.toNat 0 (by omega) (by omega)
        rw [← hr] at q
        refine Ev.step (f := fun k => logjamref41_number.l0 k (mkB w) 0 x5 x5) (fun k => by simp only [logjamref41_number.j2]; rw [if_neg hbt]) ?_
        rw [show ((x5.toNat : Nat) : Int) = x5 by omega] at q
        rcases h5 with h5 | h5
        · have := h0 h5
          simp only [h5, this, if_false] at q ⊢
          simpa using q
        · have := h1 h5
          simp only [h5, this, if_true] at q ⊢
          simpa using q
    by_cases c : (restW w).length < 1
    · refine Ev.step (f := fun k => logjamref41_number.j2 k (mkB w) 0 x5 true) (fun k => by simp only [logjamref41_number.j1]; rw [hws, if_pos (by omega)]) (j2 true ?_)
      simp [c]
    · refine Ev.step (f := fun k => logjamref41_number.j2 k (mkB w) 0 x5 (decide (((restW w).length : Int) > 19))) (fun k => by simp only [logjamref41_number.j1, hws]; rw [if_neg (by omega)]) (j2 _ ?_)
      rw [decide_eq_true_iff]; omega
  cases w with
  | nil =>
    refine Ev.congr (fun k => by rw [if_neg (by rw [mkB_size]; simp)]) ?_
    refine Ev.step (f := fun k => logjamref41_number.j1 k (mkB []) 0 0) (fun k => by simp only [logjamref41_number.j0]; rw [if_neg (by simp)]) ?_
    exact j1 0 (.inl rfl) (fun h => by cases h) (fun _ => by simp) rfl (by simp)
  | cons c r =>
    have hb : bt (mkB (c :: r)) 0 = ((c.toNat : Nat) : Int) := bt_mk (c :: r) 0 (by simp)
    refine Ev.congr (fun k => by rw [if_pos (by rw [mkB_size]; simp), if_pos (by rw [mkB_size]; simp), hb]) ?_
    by_cases hc : c = 45
    · subst hc
      refine Ev.step (f := fun k => logjamref41_number.j1 k (mkB (45 :: r)) 0 1) (fun k => by simp only [logjamref41_number.j0]; rw [if_pos (by decide)]) ?_
      exact j1 1 (.inr rfl) (fun _ => rfl) (fun h => by cases h) rfl (by simp; omega)
    · have hc2 : c.toNat ≠ 45 := fun e => hc (UInt8.toNat.inj (by rw [e]; rfl))
      refine Ev.step (f := fun k => logjamref41_number.j1 k (mkB (c :: r)) 0 0) (fun k => by simp only [logjamref41_number.j0]; rw [if_neg (by simp; omega)]) ?_
      exact j1 0 (.inl rfl) (fun h => by cases h) (fun _ => by simpa using hc) (by unfold restW; rw [if_neg (by simpa using hc)]; rfl) (by simp; omega)
end Go.Proofs.YtadepdeckapgcaaDoor.Tr
end

section
namespace Go.Proofs.YtadepdeckapgcaaDoor.Tr
open Go.RowKit Go.Proofs.YtadepdeckapgcaaDoorW.PrintWords Go.Proofs.YtadepdeckapgcaaDoor.PTr Go.Proofs.YtadepdeckapgcaaDoor.Orc
set_option linter.unusedVariables false
set_option linter.unusedSimpArgs false
theorem mk_extract (s : List UInt8) (a b : Nat) : (mkB s).extract a b = mkB ((s.drop a).take (b - a)) := by
  apply ByteArray.ext
  simp [mkB, ByteArray.data_extract]
theorem split_l0 (s : List UInt8) (hs : s.length ≤ 60000) : ∀ (d i : Nat) (acc : List ByteArray) (fr : Nat), i + d = s.length → fr ≤ i → (∀ b ∈ (s.drop fr).take (i - fr), b ≠ 32) → acc.length ≤ i →
    Ev (fun k => logjamref41_split.l0 k (mkB s) acc (fr : Int) (i : Int)) (acc ++ (pieces 32 (s.drop fr)).map mkB)
  | 0, i, acc, fr, hi, hf, hno, ha => by
    refine Ev.step1 (fun k => ?_)
    simp only [logjamref41_split.l0]
    have ht : (s.drop fr).take (i - fr) = s.drop fr := List.take_of_length_le (by rw [List.length_drop]; omega)
    rw [ht] at hno
    have he : (mkB s).extract fr (mkB s).size = mkB (s.drop fr) := by
      rw [mk_extract, mkB_size, List.take_of_length_le (by rw [List.length_drop]; omega)]
    rw [if_neg (by rw [mkB_size]; omega), if_pos (by omega), if_pos (by rw [mkB_size]; omega), if_pos (by omega), Int.toNat_natCast, he, pieces_no 32 _ hno]
    rfl
  | d + 1, i, acc, fr, hi, hf, hno, ha => by
    have hlt : i < s.length := by omega
    have hb := bt_mk s i hlt
    have hw : wrap64 ((i : Int) + 1) = ((i + 1 : Nat) : Int) := by unfold wrap64; omega
    have hu := s[i].toNat_lt
    have htk : (s.drop fr).take (i + 1 - fr) = (s.drop fr).take (i - fr) ++ [s[i]] := by
      rw [show i + 1 - fr = (i - fr) + 1 by omega, List.take_add_one, List.getElem?_drop, show fr + (i - fr) = i by omega, List.getElem?_eq_getElem hlt]
      rfl
    by_cases h : s[i] = 32
    · have hd : s.drop fr = (s.drop fr).take (i - fr) ++ 32 :: s.drop (i + 1) := by
        conv => lhs; rw [← List.take_append_drop (i - fr) (s.drop fr)]
        rw [List.drop_drop, show fr + (i - fr) = i by omega, List.drop_eq_getElem_cons hlt, h]
      have hp : pieces 32 (s.drop fr) = (s.drop fr).take (i - fr) :: pieces 32 (s.drop (i + 1)) := by
        conv => lhs; rw [hd]
        exact pieces_at 32 _ _ hno
      have q := split_l0 s hs d (i + 1) (acc ++ [mkB ((s.drop fr).take (i - fr))]) (i + 1) (by omega) (by omega) (by simp) (by simp; omega)
      rw [hp]
      rw [List.append_assoc] at q
      refine Ev.step (f := fun k => logjamref41_split.l0 k (mkB s) (acc ++ [mkB ((s.drop fr).take (i - fr))]) ((i + 1 : Nat) : Int) ((i + 1 : Nat) : Int)) (fun k => ?_) q
      simp only [logjamref41_split.l0]
      rw [if_pos (by rw [mkB_size]; omega), if_pos (by omega), hb, if_pos (by rw [h]; rfl), if_pos (by omega), if_pos (by omega), if_pos (by rw [mkB_size]; omega), if_pos (by omega), Int.toNat_natCast, Int.toNat_natCast, mk_extract, hw]
    · have h2 : s[i].toNat ≠ 32 := fun e => h (UInt8.toNat.inj (by rw [e]; rfl))
      refine Ev.step (f := fun k => logjamref41_split.l0 k (mkB s) acc (fr : Int) ((i + 1 : Nat) : Int)) (fun k => ?_) (split_l0 s hs d (i + 1) acc fr (by omega) (by omega) ?_ (by omega))
      · simp only [logjamref41_split.l0]
        rw [if_pos (by rw [mkB_size]; omega), if_pos (by omega), hb, if_neg (by omega), hw]
      · rw [htk]
        intro b hm
        rcases List.mem_append.1 hm with hm | hm
        · exact hno b hm
        · rw [List.mem_singleton] at hm; rw [hm]; exact h
theorem split_ev (s : List UInt8) (hs : s.length ≤ 60000) : Ev (fun k => logjamref41_split.f k (mkB s)) ((pieces 32 s).map mkB) := by
  have q := split_l0 s hs s.length 0 [] 0 (by omega) (by omega) (by simp) (by simp)
  exact q
theorem rof_l0 (x : ByteArray) (L : List ByteArray) (hL : L.length ≤ 1000) : ∀ (d i : Nat), i + d = L.length → Ev (fun k => logjamref06_Of.l0 k x L (i : Int)) (ixGo x (L.drop i) i)
  | 0, i, hi => by
    refine Ev.step1 (fun k => ?_)
    simp only [logjamref06_Of.l0]
    rw [if_neg (by omega), List.drop_of_length_le (by omega)]
    rfl
  | d + 1, i, hi => by
    have hlt : i < L.length := by omega
    have hd : L.drop i = L[i] :: L.drop (i + 1) := List.drop_eq_getElem_cons hlt
    have hw : wrap64 ((i : Int) + 1) = ((i + 1 : Nat) : Int) := by unfold wrap64; omega
    have hr : rdOf ByteArray.empty L (i : Int) = L[i] := by unfold rdOf; simp [hlt]
    rw [hd]
    simp only [ixGo]
    by_cases h : x = L[i]
    · refine Ev.step1 (fun k => ?_)
      simp only [logjamref06_Of.l0]
      rw [if_pos (by omega), if_pos (by omega), hr, if_pos (by rw [← h]), if_pos h]
    · refine Ev.step (f := fun k => logjamref06_Of.l0 k x L ((i + 1 : Nat) : Int)) (fun k => ?_) ?_
      · simp only [logjamref06_Of.l0]
        rw [if_pos (by omega), if_pos (by omega), hr, if_neg (fun e => h (list_inj e).symm), hw]
      · rw [if_neg h]
        exact rof_l0 x L hL d (i + 1) (by omega)
theorem rended_l0 (x : ByteArray) (L : List ByteArray) (hL : L.length ≤ 1000) : ∀ (d i : Nat), i + d = L.length → Ev (fun k => logjamref41_ended.l0 k x L (i : Int)) (ixGo x (L.drop i) i)
  | 0, i, hi => by
    refine Ev.step1 (fun k => ?_)
    simp only [logjamref41_ended.l0]
    rw [if_neg (by omega), List.drop_of_length_le (by omega)]
    rfl
  | d + 1, i, hi => by
    have hlt : i < L.length := by omega
    have hd : L.drop i = L[i] :: L.drop (i + 1) := List.drop_eq_getElem_cons hlt
    have hw : wrap64 ((i : Int) + 1) = ((i + 1 : Nat) : Int) := by unfold wrap64; omega
    have hr : rdOf ByteArray.empty L (i : Int) = L[i] := by unfold rdOf; simp [hlt]
    rw [hd]
    simp only [ixGo]
    by_cases h : x = L[i]
    · refine Ev.step1 (fun k => ?_)
      simp only [logjamref41_ended.l0]
      rw [if_pos (by omega), if_pos (by omega), hr, if_pos (by rw [← h]), if_pos h]
    · refine Ev.step (f := fun k => logjamref41_ended.l0 k x L ((i + 1 : Nat) : Int)) (fun k => ?_) ?_
      · simp only [logjamref41_ended.l0]
        rw [if_pos (by omega), if_pos (by omega), hr, if_neg (fun e => h (list_inj e).symm), hw]
      · rw [if_neg h]
        exact rended_l0 x L hL d (i + 1) (by omega)
theorem rof_ev (x : ByteArray) : Ev (fun k => logjamref06_Of.f k x) (ixGo x NM 0) := by
  have q := rof_l0 x NM (by rw [NM_len]; omega) 52 0 (by rw [NM_len])
  refine Ev.congr (fun k => ?_) q
  unfold logjamref06_Of.f
  rw [NM_ref]
  rfl
theorem rended_ev (x : ByteArray) : Ev (fun k => logjamref41_ended.f k x) (ixGo x ED 0) := by
  have q := rended_l0 x ED (by rw [ED_len]; omega) 3 0 (by rw [ED_len])
  unfold logjamref41_ended.f
  rw [ED_ref]
  exact q
def numB (b : ByteArray) : Int × Bool := numP b.data.toList
theorem numB_ev (b : ByteArray) (h : b.size ≤ 60000) : Ev (fun k => logjamref41_number.f k b) (numB b) := by
  have q := number_ev b.data.toList (by rw [← Lib.size_eq]; exact h)
  rw [mkB_of] at q
  exact q
def wd (ws : List ByteArray) (i : Int) : ByteArray := rdOf ByteArray.empty ws i
def kdOf (w : ByteArray) : Int := if w.toList = abortW then 7 else if w.toList = wakeW then 4 else if w.toList = outW then 2 else 0
def rdP (ws : List ByteArray) : Int × Int × Int × Int × Bool :=
  if ws.length = 2 ∧ (wd ws 0).toList = tickW then (6, -1, (numB (wd ws 1)).1, 0, (numB (wd ws 1)).2)
  else if ws.length < 3 then (0, 0, 0, 0, false)
  else if (wd ws 1).toList = opW ∧ ws.length = 4 then (1, (numB (wd ws 0)).1, ixGo (wd ws 2) NM 0, (numB (wd ws 3)).1, ((numB (wd ws 0)).2 && (numB (wd ws 3)).2) && decide (ixGo (wd ws 2) NM 0 ≥ 0))
  else if (wd ws 1).toList = endW ∧ ws.length = 4 then (5, (numB (wd ws 0)).1, ixGo (wd ws 2) ED 0, (numB (wd ws 3)).1, ((numB (wd ws 0)).2 && (numB (wd ws 3)).2) && decide (ixGo (wd ws 2) ED 0 ≥ 0))
  else if (wd ws 1).toList = blockW ∧ ws.length = 3 then (3, (numB (wd ws 0)).1, ixGo (wd ws 2) NM 0, 0, (numB (wd ws 0)).2 && decide (ixGo (wd ws 2) NM 0 ≥ 0))
  else (kdOf (wd ws 1), (numB (wd ws 0)).1, (numB (wd ws 2)).1, 0, (((numB (wd ws 0)).2 && (numB (wd ws 2)).2) && decide (ws.length = 3)) && decide (kdOf (wd ws 1) > 0))
end Go.Proofs.YtadepdeckapgcaaDoor.Tr
end

section
namespace Go.Proofs.YtadepdeckapgcaaDoor.PRa
open Go.RowKit Go.Proofs.YtadepdeckapgcaaDoor.Orc Go.Proofs.YtadepdeckapgcaaDoor.PTr Go.Proofs.YtadepdeckapgcaaDoorW.PrintWords Go.Proofs.YtadepdeckapgcaaDoorW.PrintLast Go.Proofs.YtadepdeckapgcaaDoorW.PrintMore
attribute [local go_sem] max2_int min2_int max_two min_two max_three min_three max_four min_four
set_option linter.unusedVariables false
set_option linter.unusedSimpArgs false
def errW : Option Int → Value
 | none => .nilIface
 | some c => .iface 0 (.int .i64 c)
theorem errW_none : errW none = .nilIface := rfl
theorem errW_some (c : Int) : errW (some c) = .iface 0 (.int .i64 c) := rfl
end Go.Proofs.YtadepdeckapgcaaDoor.PRa
end
