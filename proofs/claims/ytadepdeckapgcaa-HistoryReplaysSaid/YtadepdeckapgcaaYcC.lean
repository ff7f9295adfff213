/- LawHistoryReplays, part 3: what the proof stands on (merged by wip/shake.py out of the session's texts and of what the print wrote for this claim). -/
import Derived.ArgAppend
import Derived.Below
import Derived.BigQuiet
import Derived.Deep.AppendLies
import Derived.Deep.CutBlock
import Derived.Deep.DeepCutAuto
import Derived.Deep.Draws
import Derived.Deep.LoopGhost
import Derived.Deep.OwnRows
import Derived.Deep.QuietTactic
import Derived.Deep.RegionHeld3
import Derived.Deep.RegionLaw
import Derived.KernelRfl
import Derived.Laws.BitsLemmas
import Derived.Laws.BytesArg
import Derived.Laws.IdiomCopy
import Derived.Laws.MakeOwn
import Derived.Laws.OwnMore
import Derived.Laws.Rows
import Derived.Laws.Slices
import Derived.Lib.AppendStr
import Derived.Lib.ConvBytes
import Derived.Lib.SliceRun
import Derived.LoopTactic
import Derived.Maps.AppendAt
import Derived.OrdersHeld
import Derived.OwnWalk
import Derived.RowKit
import Derived.RowKit3
import Derived.Shelf.Abstract
import Derived.Shelf.RegionOpenPlain
import Derived.Sort.WalkB12
import Derived.Tactics
import Derived.Test.YtadepdeckapgcaaProg
import Derived.Test.YtadepdeckapgcaaRows
import Derived.WalkKit
import Derived.WideLaws
import Derived.Test.YtadepdeckapgcaaYcB

section
namespace Go.Proofs.Ytadepdeckapgcaa.PHi
open Go.RowKit Go.Proofs.Ytadepdeckapgcaa.Orc Go.Proofs.YtadepdeckapgcaaW.PrintWords Go.Proofs.YtadepdeckapgcaaW.PrintLast Go.Proofs.YtadepdeckapgcaaW.PrintMore
attribute [local go_sem] max2_int min2_int max_two min_two max_three min_three max_four min_four
set_option linter.unusedVariables false
set_option linter.unusedSimpArgs false
attribute [local go_sem high] eqA31
def logjamlaw38_lives.j0 : Nat → Bool → Option (Bool)
 | 0, _ => none
 | k + 1, x0 => some x0
def logjamlaw38_lives.f (k : Nat)  : Option (Bool) := (some (([(⟨2, 0, 1, 3, 4⟩ : S29), (⟨1, 1, 2, 3, 4⟩ : S29), (⟨3, 0, 1, 0, 0⟩ : S29), (⟨3, 1, 2, 0, 0⟩ : S29)] : List (S29)) : List (S29))).bind fun y196 => ((o_Ends.f y196).bind fun t199 => ((o_Serial.f y196).bind fun bt202 => (if (t199.length : Int) = 2 then (if 1 < (t199.length : Int) then (if (((rd_T31 t199 1).f0) == 2 && (((rd_T31 t199 1).f1) == 1 && (((rd_T31 t199 1).f2) == 3 && (((rd_T31 t199 1).f3) == 3)))) = true then ((o_Strict.f y196).bind fun t207 => (if t207 = true then (logjamlaw38_lives.j0 k false) else (if 1 ≤ (y196.length : Int) then ((o_Strict.f (y196.take 1)).bind fun t212 => (if t212 = true then ((history_Before.f k y196 1 2).bind fun t213 => (if t213 = true then ((history_Before.f k y196 2 1).bind fun t214 => (if t214 = true then (logjamlaw38_lives.j0 k false) else (if bt202.2 = true then ((logjamlaw30_Ints.f k bt202.1 (([1, 2] : List Int))).bind fun t218 => (logjamlaw38_lives.j0 k t218)) else (logjamlaw38_lives.j0 k false)))) else (logjamlaw38_lives.j0 k false))) else (logjamlaw38_lives.j0 k false))) else (none)))) else (logjamlaw38_lives.j0 k false)) else (none)) else (logjamlaw38_lives.j0 k false))))
set_option maxHeartbeats 8000000 in
set_option maxRecDepth 100000 in
theorem logjamlaw38_lives.calls (k : Nat)  (r : Bool) (w : World) (h : logjamlaw38_lives.f k  = some r) :
  Calls Try.prog 16 #[] w fun e w' => e = .returned (.bool r) ∧ Below w.heap.size w w' := by
 have hu29 := Try.underlying29
 have hu31 := Try.underlying31
 have HB := Aside0.mk (Below.refl w.heap.size w)
 have H : ((some (([(⟨2, 0, 1, 3, 4⟩ : S29), (⟨1, 1, 2, 3, 4⟩ : S29), (⟨3, 0, 1, 0, 0⟩ : S29), (⟨3, 1, 2, 0, 0⟩ : S29)] : List (S29)) : List (S29))).bind fun y196 => ((o_Ends.f y196).bind fun t199 => ((o_Serial.f y196).bind fun bt202 => (if (t199.length : Int) = 2 then (if 1 < (t199.length : Int) then (if (((rd_T31 t199 1).f0) == 2 && (((rd_T31 t199 1).f1) == 1 && (((rd_T31 t199 1).f2) == 3 && (((rd_T31 t199 1).f3) == 3)))) = true then ((o_Strict.f y196).bind fun t207 => (if t207 = true then (logjamlaw38_lives.j0 k false) else (if 1 ≤ (y196.length : Int) then ((o_Strict.f (y196.take 1)).bind fun t212 => (if t212 = true then ((history_Before.f k y196 1 2).bind fun t213 => (if t213 = true then ((history_Before.f k y196 2 1).bind fun t214 => (if t214 = true then (logjamlaw38_lives.j0 k false) else (if bt202.2 = true then ((logjamlaw30_Ints.f k bt202.1 (([1, 2] : List Int))).bind fun t218 => (logjamlaw38_lives.j0 k t218)) else (logjamlaw38_lives.j0 k false)))) else (logjamlaw38_lives.j0 k false))) else (logjamlaw38_lives.j0 k false))) else (none)))) else (logjamlaw38_lives.j0 k false)) else (none)) else (logjamlaw38_lives.j0 k false))))) = some r := h
 clear h
 obtain ⟨y196, hy196⟩ : ∃ y_ : List (S29), y_ = (([(⟨2, 0, 1, 3, 4⟩ : S29), (⟨1, 1, 2, 3, 4⟩ : S29), (⟨3, 0, 1, 0, 0⟩ : S29), (⟨3, 1, 2, 0, 0⟩ : S29)] : List (S29))) := ⟨_, rfl⟩
 replace H : ((o_Ends.f y196).bind fun t199 => ((o_Serial.f y196).bind fun bt202 => (if (t199.length : Int) = 2 then (if 1 < (t199.length : Int) then (if (((rd_T31 t199 1).f0) == 2 && (((rd_T31 t199 1).f1) == 1 && (((rd_T31 t199 1).f2) == 3 && (((rd_T31 t199 1).f3) == 3)))) = true then ((o_Strict.f y196).bind fun t207 => (if t207 = true then (logjamlaw38_lives.j0 k false) else (if 1 ≤ (y196.length : Int) then ((o_Strict.f (y196.take 1)).bind fun t212 => (if t212 = true then ((history_Before.f k y196 1 2).bind fun t213 => (if t213 = true then ((history_Before.f k y196 2 1).bind fun t214 => (if t214 = true then (logjamlaw38_lives.j0 k false) else (if bt202.2 = true then ((logjamlaw30_Ints.f k bt202.1 (([1, 2] : List Int))).bind fun t218 => (logjamlaw38_lives.j0 k t218)) else (logjamlaw38_lives.j0 k false)))) else (logjamlaw38_lives.j0 k false))) else (logjamlaw38_lives.j0 k false))) else (none)))) else (logjamlaw38_lives.j0 k false)) else (none)) else (logjamlaw38_lives.j0 k false)))) = some r := by first | (rw [hy196]; with_reducible exact H) | (have H2_ := (Option.bind_some _ _).symm.trans H; rw [hy196]; with_reducible exact H2_) | (have H2_ := (Option.bind_some _ _).symm.trans H; with_reducible exact H2_) | with_reducible exact H | (rw [hy196]; exact H) | exact H
 have Ny196 := Aside0.mk hy196
 clear hy196
 replace H := Option.bind_eq_some_iff.mp H
 obtain ⟨t199, A10, H⟩ := H
 replace H : ((o_Serial.f y196).bind fun bt202 => (if (t199.length : Int) = 2 then (if 1 < (t199.length : Int) then (if (((rd_T31 t199 1).f0) == 2 && (((rd_T31 t199 1).f1) == 1 && (((rd_T31 t199 1).f2) == 3 && (((rd_T31 t199 1).f3) == 3)))) = true then ((o_Strict.f y196).bind fun t207 => (if t207 = true then (logjamlaw38_lives.j0 k false) else (if 1 ≤ (y196.length : Int) then ((o_Strict.f (y196.take 1)).bind fun t212 => (if t212 = true then ((history_Before.f k y196 1 2).bind fun t213 => (if t213 = true then ((history_Before.f k y196 2 1).bind fun t214 => (if t214 = true then (logjamlaw38_lives.j0 k false) else (if bt202.2 = true then ((logjamlaw30_Ints.f k bt202.1 (([1, 2] : List Int))).bind fun t218 => (logjamlaw38_lives.j0 k t218)) else (logjamlaw38_lives.j0 k false)))) else (logjamlaw38_lives.j0 k false))) else (logjamlaw38_lives.j0 k false))) else (none)))) else (logjamlaw38_lives.j0 k false)) else (none)) else (logjamlaw38_lives.j0 k false))) = some r := H
 have A1 := Aside0.mk A10
 clear A10
 replace H := Option.bind_eq_some_iff.mp H
 obtain ⟨⟨t202, t203⟩, A20, H⟩ := H
 replace H : (if (t199.length : Int) = 2 then (if 1 < (t199.length : Int) then (if (((rd_T31 t199 1).f0) == 2 && (((rd_T31 t199 1).f1) == 1 && (((rd_T31 t199 1).f2) == 3 && (((rd_T31 t199 1).f3) == 3)))) = true then ((o_Strict.f y196).bind fun t207 => (if t207 = true then (logjamlaw38_lives.j0 k false) else (if 1 ≤ (y196.length : Int) then ((o_Strict.f (y196.take 1)).bind fun t212 => (if t212 = true then ((history_Before.f k y196 1 2).bind fun t213 => (if t213 = true then ((history_Before.f k y196 2 1).bind fun t214 => (if t214 = true then (logjamlaw38_lives.j0 k false) else (if t203 = true then ((logjamlaw30_Ints.f k t202 (([1, 2] : List Int))).bind fun t218 => (logjamlaw38_lives.j0 k t218)) else (logjamlaw38_lives.j0 k false)))) else (logjamlaw38_lives.j0 k false))) else (logjamlaw38_lives.j0 k false))) else (none)))) else (logjamlaw38_lives.j0 k false)) else (none)) else (logjamlaw38_lives.j0 k false)) = some r := H
 have A2 := Aside0.mk A20
 clear A20
 have HC3 := Aside0.mk H
 clear H
 go_enter Try.func16, Try.ntmps16
 go_upto_region 4 with (first | ((with_reducible refine gate_dst (N := 9) rfl ?_); (try (refine gate_guard (by rfl) ?_; dsimp only)); refine Kd.R_lit k29 _ 29 ?hg (N := 9) ?hd (xs := ([(⟨2, 0, 1, 3, 4⟩ : S29), (⟨1, 1, 2, 3, 4⟩ : S29), (⟨3, 0, 1, 0, 0⟩ : S29), (⟨3, 1, 2, 0, 0⟩ : S29)] : List (S29))) (inner := [.int .i64 2, .int .i64 0, .int .i64 1, .int .i64 3, .int .i64 4, .int .i64 1, .int .i64 1, .int .i64 2, .int .i64 3, .int .i64 4, .int .i64 3, .int .i64 0, .int .i64 1, .int .i64 0, .int .i64 0, .int .i64 3, .int .i64 1, .int .i64 2, .int .i64 0, .int .i64 0]) (ok := fun _ => True) (okp := fun _ => True) ?hr ?hp (fun _ hk => hk) trivial (Below.refl _ _) (Nat.le_refl _) (by simp) ?_; (case hd => rfl); (case hg => rfl); (case hr => first | (go_simp; done) | (go_simp; rfl)); (case hp => exact (Reps.c5 (show Kd.M k29 _ _ _ (⟨2, 0, 1, 3, 4⟩ : S29) [.int .i64 2, .int .i64 0, .int .i64 1, .int .i64 3, .int .i64 4] from (k29_mkM _ _ _ (⟨2, 0, 1, 3, 4⟩ : S29) )) (Reps.c5 (show Kd.M k29 _ _ _ (⟨1, 1, 2, 3, 4⟩ : S29) [.int .i64 1, .int .i64 1, .int .i64 2, .int .i64 3, .int .i64 4] from (k29_mkM _ _ _ (⟨1, 1, 2, 3, 4⟩ : S29) )) (Reps.c5 (show Kd.M k29 _ _ _ (⟨3, 0, 1, 0, 0⟩ : S29) [.int .i64 3, .int .i64 0, .int .i64 1, .int .i64 0, .int .i64 0] from (k29_mkM _ _ _ (⟨3, 0, 1, 0, 0⟩ : S29) )) (Reps.c5 (show Kd.M k29 _ _ _ (⟨3, 1, 2, 0, 0⟩ : S29) [.int .i64 3, .int .i64 1, .int .i64 2, .int .i64 0, .int .i64 0] from (k29_mkM _ _ _ (⟨3, 1, 2, 0, 0⟩ : S29) )) (Reps.none _ _)))))); intro v197 w4 ho5 hb hg_ hnew_; clear hg_ hnew_; (first | rw [← Ny196.out] at ho5 | (simp only [Int.reduceToNat] at ho5; rw [← Ny196.out] at ho5)); have n0_ := Aside0.mk (Kd.R_lower ho5 (below_size (by repeat (first | (with_reducible first | exact HB.out | apply below_alloc | apply pw_below_drewN | apply below_drew1) | exact HB.out)))); have n1_ := Aside0.mk (below_step (by repeat (first | (with_reducible first | exact HB.out | apply below_alloc | apply pw_below_drewN | apply below_drew1) | exact HB.out)) hb); clear HB; have HO198 := n0_; have HB := n1_; clear n0_ n1_; clear hb ho5; obtain ⟨Ao6, co6, eo6⟩ := Kd.R_slice HO198.out; subst eo6) | ((with_reducible refine gate_callee (f := 7) rfl ?_); refine goesL_ (some 11) rfl rfl Try.func7 (by kernel_rfl) rfl #[.slice Ao6 y196.length co6] rfl (by (try simp only [List.map_toArray, List.map_cons, List.map_nil]); first | done | rfl | (simp only [List.length_drop, List.length_take]; rfl)) ?_; (with_reducible refine (o_Ends.calls _ _ y196 t199 _ ?side1 ?side2 A1.out).mono ?_); (case side1 => repeat (first | exact (Kd.R_reads' HO198.out).2.2 | (with_reducible refine Kd.C_alloc ?_ _) | (with_reducible refine Kd.C_drewN ?_ _) | (with_reducible refine Kd.C_drew ?_))); (case side2 => exact (Kd.R_reads' HO198.out).2.1); rintro e w7 ⟨v200, rfl, ho0, hb⟩; refine ⟨_, rfl, ?_⟩; have n0_ := Aside0.mk (Kd.R_below (by (with_reducible repeat (first | apply Kd.R_alloc | apply Kd.R_drewN | apply Kd.R_drew)); exact HO198.out) hb); have n1_ := Aside0.mk (Kd.R_lower ho0 (below_size (by repeat (first | (with_reducible first | exact HB.out | apply below_alloc | apply pw_below_drewN | apply below_drew1) | exact HB.out)))); have n2_ := Aside0.mk (below_step (by repeat (first | (with_reducible first | exact HB.out | apply below_alloc | apply pw_below_drewN | apply below_drew1) | exact HB.out)) hb); clear HO198; clear HB; have HO198 := n0_; have HO201 := n1_; have HB := n2_; clear n0_ n1_ n2_; (try clear hb); (try clear hb2); (try clear hk); (try clear hi); (try clear ho0)) | ((with_reducible refine gate_callee (f := 9) rfl ?_); refine goesL_ (some 14) rfl rfl Try.func9 (by kernel_rfl) rfl #[.slice Ao6 y196.length co6] rfl (by (try simp only [List.map_toArray, List.map_cons, List.map_nil]); first | done | rfl | (simp only [List.length_drop, List.length_take]; rfl)) ?_; (with_reducible refine (o_Serial.calls _ _ y196 t202 t203 _ ?side1 ?side2 A2.out).mono ?_); (case side1 => repeat (first | exact (Kd.R_reads' HO198.out).2.2 | (with_reducible refine Kd.C_alloc ?_ _) | (with_reducible refine Kd.C_drewN ?_ _) | (with_reducible refine Kd.C_drew ?_))); (case side2 => exact (Kd.R_reads' HO198.out).2.1); rintro e w8 ⟨v204, rfl, ho0, hb⟩; refine ⟨_, rfl, ?_⟩; have n0_ := Aside0.mk (Kd.R_below (by (with_reducible repeat (first | apply Kd.R_alloc | apply Kd.R_drewN | apply Kd.R_drew)); exact HO198.out) hb); have n1_ := Aside0.mk (Kd.R_below (by (with_reducible repeat (first | apply Kd.R_alloc | apply Kd.R_drewN | apply Kd.R_drew)); exact HO201.out) hb); have n2_ := Aside0.mk (Kd.R_lower ho0 (below_size (by repeat (first | (with_reducible first | exact HB.out | apply below_alloc | apply pw_below_drewN | apply below_drew1) | exact HB.out)))); have n3_ := Aside0.mk (below_step (by repeat (first | (with_reducible first | exact HB.out | apply below_alloc | apply pw_below_drewN | apply below_drew1) | exact HB.out)) hb); clear HO198; clear HO201; clear HB; have HO198 := n0_; have HO201 := n1_; have HO205 := n2_; have HB := n3_; clear n0_ n1_ n2_ n3_; (try clear hb); (try clear hb2); (try clear hk); (try clear hi); (try clear ho0)))
 (try simp only [Act.put, List.setIfInBounds_toArray, List.set_cons_zero, List.set_cons_succ])
 go_cut [0] (fun v0 wc => ∃ (kq : Nat) (x0_2 : Bool), v0 = .bool x0_2 ∧ Aside0 (logjamlaw38_lives.j0 kq x0_2 = some r) ∧ Aside0 (kq ≤ k) ∧ Aside0 (Below w.heap.size w wc))
 case first =>
  have H := HC3.out
  clear HC3
  by_cases c9 : (t199.length : Int) = 2
  ·rw [if_pos c9] at H
   have c9b0 : ((t199.length : Int) == 2) = true := beq_iff_eq.mpr c9
   have c9b1 : ((t199.length : Int) != 2) = false := bne_eq_false_iff_eq.mpr c9
   clear c9
   (first | rw [c9b0] | (simp only [i64_w, i32_w]; rw [c9b0]) | skip)
   by_cases c10 : 1 < (t199.length : Int)
   ·rw [if_pos c10] at H
    have c10b0 : decide (1 < (t199.length : Int)) = true := decide_eq_true c10
    have c10b1 : decide (1 < t199.length) = true := decide_eq_true (by omega)
    clear c10
    by_cases c11 : (((rd_T31 t199 1).f0) == 2 && (((rd_T31 t199 1).f1) == 1 && (((rd_T31 t199 1).f2) == 3 && (((rd_T31 t199 1).f3) == 3)))) = true
    ·rw [if_pos c11] at H
     have c11b0 : (((rd_T31 t199 1).f0) == 2 && (((rd_T31 t199 1).f1) == 1 && (((rd_T31 t199 1).f2) == 3 && (((rd_T31 t199 1).f3) == 3)))) = true := c11
     (try (have c11b1 : decide (((rd_T31 t199 1).f0) = 2 && (((rd_T31 t199 1).f1) == 1 && (((rd_T31 t199 1).f2) == 3 && (((rd_T31 t199 1).f3) == 3)))) = true := by simpa using c11))
     (try (have c11b2 : (((rd_T31 t199 1).f0) == 2 && (((rd_T31 t199 1).f1) == 1 && (((rd_T31 t199 1).f2) == 3 && (((rd_T31 t199 1).f3) == 3)))) = true := by simpa using c11))
     clear c11
     replace H := Option.bind_eq_some_iff.mp H
     obtain ⟨t207, A120, H⟩ := H
     replace H : (if t207 = true then (logjamlaw38_lives.j0 k false) else (if 1 ≤ (y196.length : Int) then ((o_Strict.f (y196.take 1)).bind fun t212 => (if t212 = true then ((history_Before.f k y196 1 2).bind fun t213 => (if t213 = true then ((history_Before.f k y196 2 1).bind fun t214 => (if t214 = true then (logjamlaw38_lives.j0 k false) else (if t203 = true then ((logjamlaw30_Ints.f k t202 (([1, 2] : List Int))).bind fun t218 => (logjamlaw38_lives.j0 k t218)) else (logjamlaw38_lives.j0 k false)))) else (logjamlaw38_lives.j0 k false))) else (logjamlaw38_lives.j0 k false))) else (none))) = some r := H
     have A12 := Aside0.mk A120
     clear A120
     by_cases c13 : t207 = true
     ·subst c13
      have H1 : (logjamlaw38_lives.j0 k false) = some r := by rw [if_pos rfl] at H; exact H
      clear H
      have H := H1
      clear H1
      have H' := Aside0.mk H
      clear H
      obtain ⟨Ao14, co14, eo14⟩ := Kd.R_slice HO201.out
      subst eo14
      have p206 : 0 ≤ (1 : Int) := (by omega)
      have q206 : 1 < (t199.length : Int) := of_decide_eq_true (by first | (with_reducible assumption) | assumption)
      obtain ⟨ad206, e206, hx206_0, hx206_1, hx206_2, hx206_3⟩ := at_T31 (Kd.R_reads' HO201.out).2.2 1 p206 q206
      cases e206
      (try simp only [show (1 : Int).toNat = 1 from rfl, Nat.reduceMul, Nat.reduceEqDiff, Go.Addr.add, ↓reduceIte] at hx206_0)
      (try simp only [show (1 : Int).toNat = 1 from rfl, Nat.reduceMul, Nat.reduceEqDiff, Go.Addr.add, ↓reduceIte] at hx206_1)
      (try simp only [show (1 : Int).toNat = 1 from rfl, Nat.reduceMul, Nat.reduceEqDiff, Go.Addr.add, ↓reduceIte] at hx206_2)
      (try simp only [show (1 : Int).toNat = 1 from rfl, Nat.reduceMul, Nat.reduceEqDiff, Go.Addr.add, ↓reduceIte] at hx206_3)
      have qi206 : (1 < t199.length) = True := eq_true (by omega)
      (try rw [show ((1 : Int)).toNat = 1 from rfl] at hx206_0)
      (try rw [show 1 * 4 = 4 from rfl] at hx206_0)
      (try rw [show ((1 : Int)).toNat = 1 from rfl] at hx206_1)
      (try rw [show 1 * 4 = 4 from rfl] at hx206_1)
      (try rw [show ((1 : Int)).toNat = 1 from rfl] at hx206_2)
      (try rw [show 1 * 4 = 4 from rfl] at hx206_2)
      (try rw [show ((1 : Int)).toNat = 1 from rfl] at hx206_3)
      (try rw [show 1 * 4 = 4 from rfl] at hx206_3)
      replace p206 := eq_true p206
      replace q206 := eq_true q206
      go_wp2_with (first | (go_at_call 14; (with_reducible refine (o_Strict.calls _ _ y196 true _ ?side1 ?side2 A12.out).mono ?_); (case side1 => repeat (first | exact (Kd.R_reads' HO198.out).2.2 | (with_reducible refine Kd.C_alloc ?_ _) | (with_reducible refine Kd.C_drewN ?_ _) | (with_reducible refine Kd.C_drew ?_))); (case side2 => exact (Kd.R_reads' HO198.out).2.1); rintro e w15 ⟨rfl, hb⟩; have n0_ := Aside0.mk (Kd.R_below (by (with_reducible repeat (first | apply Kd.R_alloc | apply Kd.R_drewN | apply Kd.R_drew)); exact HO198.out) hb); have n1_ := Aside0.mk (Kd.R_below (by (with_reducible repeat (first | apply Kd.R_alloc | apply Kd.R_drewN | apply Kd.R_drew)); exact HO201.out) hb); have n2_ := Aside0.mk (Kd.R_below (by (with_reducible repeat (first | apply Kd.R_alloc | apply Kd.R_drewN | apply Kd.R_drew)); exact HO205.out) hb); have n3_ := Aside0.mk (below_step (by repeat (first | (with_reducible first | exact HB.out | apply below_alloc | apply pw_below_drewN | apply below_drew1) | exact HB.out)) hb); clear HO198; clear HO201; clear HO205; clear HB; have HO198 := n0_; have HO201 := n1_; have HO205 := n2_; have HB := n3_; clear n0_ n1_ n2_ n3_; (try clear hb); (try clear hb2); (try clear hk); (try clear hi)))
      go_meet
      case rel => exact ⟨_, (false), (by first | rfl | (simp; done) | (simp only [emptyNe_, emptyEq_]; done) | (simp [*]; done)), H', ⟨by first | omega | exact Nat.le_refl _⟩, ⟨by repeat (first | (with_reducible first | exact HB.out | apply below_alloc | apply pw_below_drewN | apply below_drew1) | exact HB.out)⟩⟩
     ·replace c13 := Bool.eq_false_iff.mpr c13
      subst c13
      have H1 : (if 1 ≤ (y196.length : Int) then ((o_Strict.f (y196.take 1)).bind fun t212 => (if t212 = true then ((history_Before.f k y196 1 2).bind fun t213 => (if t213 = true then ((history_Before.f k y196 2 1).bind fun t214 => (if t214 = true then (logjamlaw38_lives.j0 k false) else (if t203 = true then ((logjamlaw30_Ints.f k t202 (([1, 2] : List Int))).bind fun t218 => (logjamlaw38_lives.j0 k t218)) else (logjamlaw38_lives.j0 k false)))) else (logjamlaw38_lives.j0 k false))) else (logjamlaw38_lives.j0 k false))) else (none)) = some r := by rw [if_neg (show ¬ (false = true) by decide)] at H; exact H
      clear H
      have H := H1
      clear H1
      by_cases c16 : 1 ≤ (y196.length : Int)
      ·rw [if_pos c16] at H
       have c16b0 := eq_true c16
       have c16b1 : decide (1 ≤ (y196.length : Int)) = true := decide_eq_true c16
       clear c16
       obtain ⟨y208, hy208⟩ : ∃ y_ : List (S29), y_ = (y196.take 1) := ⟨_, rfl⟩
       replace H : ((o_Strict.f y208).bind fun t212 => (if t212 = true then ((history_Before.f k y196 1 2).bind fun t213 => (if t213 = true then ((history_Before.f k y196 2 1).bind fun t214 => (if t214 = true then (logjamlaw38_lives.j0 k false) else (if t203 = true then ((logjamlaw30_Ints.f k t202 (([1, 2] : List Int))).bind fun t218 => (logjamlaw38_lives.j0 k t218)) else (logjamlaw38_lives.j0 k false)))) else (logjamlaw38_lives.j0 k false))) else (logjamlaw38_lives.j0 k false))) = some r := by first | (rw [hy208]; with_reducible exact H) | (have H2_ := (Option.bind_some _ _).symm.trans H; rw [hy208]; with_reducible exact H2_) | (have H2_ := (Option.bind_some _ _).symm.trans H; with_reducible exact H2_) | with_reducible exact H | (rw [hy208]; exact H) | exact H
       have Ny208 := Aside0.mk hy208
       clear hy208
       replace H := Option.bind_eq_some_iff.mp H
       obtain ⟨t212, A170, H⟩ := H
       replace H : (if t212 = true then ((history_Before.f k y196 1 2).bind fun t213 => (if t213 = true then ((history_Before.f k y196 2 1).bind fun t214 => (if t214 = true then (logjamlaw38_lives.j0 k false) else (if t203 = true then ((logjamlaw30_Ints.f k t202 (([1, 2] : List Int))).bind fun t218 => (logjamlaw38_lives.j0 k t218)) else (logjamlaw38_lives.j0 k false)))) else (logjamlaw38_lives.j0 k false))) else (logjamlaw38_lives.j0 k false)) = some r := H
       have A17 := Aside0.mk A170
       clear A170
       by_cases c18 : t212 = true
       ·subst c18
        have H1 : ((history_Before.f k y196 1 2).bind fun t213 => (if t213 = true then ((history_Before.f k y196 2 1).bind fun t214 => (if t214 = true then (logjamlaw38_lives.j0 k false) else (if t203 = true then ((logjamlaw30_Ints.f k t202 (([1, 2] : List Int))).bind fun t218 => (logjamlaw38_lives.j0 k t218)) else (logjamlaw38_lives.j0 k false)))) else (logjamlaw38_lives.j0 k false))) = some r := by rw [if_pos rfl] at H; exact H
        clear H
        have H := H1
        clear H1
        replace H := Option.bind_eq_some_iff.mp H
        obtain ⟨t213, A190, H⟩ := H
        replace H : (if t213 = true then ((history_Before.f k y196 2 1).bind fun t214 => (if t214 = true then (logjamlaw38_lives.j0 k false) else (if t203 = true then ((logjamlaw30_Ints.f k t202 (([1, 2] : List Int))).bind fun t218 => (logjamlaw38_lives.j0 k t218)) else (logjamlaw38_lives.j0 k false)))) else (logjamlaw38_lives.j0 k false)) = some r := H
        have A19 := Aside0.mk A190
        clear A190
        by_cases c20 : t213 = true
        ·subst c20
         have H1 : ((history_Before.f k y196 2 1).bind fun t214 => (if t214 = true then (logjamlaw38_lives.j0 k false) else (if t203 = true then ((logjamlaw30_Ints.f k t202 (([1, 2] : List Int))).bind fun t218 => (logjamlaw38_lives.j0 k t218)) else (logjamlaw38_lives.j0 k false)))) = some r := by rw [if_pos rfl] at H; exact H
         clear H
         have H := H1
         clear H1
         replace H := Option.bind_eq_some_iff.mp H
         obtain ⟨t214, A210, H⟩ := H
         replace H : (if t214 = true then (logjamlaw38_lives.j0 k false) else (if t203 = true then ((logjamlaw30_Ints.f k t202 (([1, 2] : List Int))).bind fun t218 => (logjamlaw38_lives.j0 k t218)) else (logjamlaw38_lives.j0 k false))) = some r := H
         have A21 := Aside0.mk A210
         clear A210
         by_cases c22 : t214 = true
         ·subst c22
          have H1 : (logjamlaw38_lives.j0 k false) = some r := by rw [if_pos rfl] at H; exact H
          clear H
          have H := H1
          clear H1
          have H' := Aside0.mk H
          clear H
          obtain ⟨Ao23, co23, eo23⟩ := Kd.R_slice HO201.out
          subst eo23
          have p206 : 0 ≤ (1 : Int) := (by omega)
          have q206 : 1 < (t199.length : Int) := of_decide_eq_true (by first | (with_reducible assumption) | assumption)
          obtain ⟨ad206, e206, hx206_0, hx206_1, hx206_2, hx206_3⟩ := at_T31 (Kd.R_reads' HO201.out).2.2 1 p206 q206
          cases e206
          (try simp only [show (1 : Int).toNat = 1 from rfl, Nat.reduceMul, Nat.reduceEqDiff, Go.Addr.add, ↓reduceIte] at hx206_0)
          (try simp only [show (1 : Int).toNat = 1 from rfl, Nat.reduceMul, Nat.reduceEqDiff, Go.Addr.add, ↓reduceIte] at hx206_1)
          (try simp only [show (1 : Int).toNat = 1 from rfl, Nat.reduceMul, Nat.reduceEqDiff, Go.Addr.add, ↓reduceIte] at hx206_2)
          (try simp only [show (1 : Int).toNat = 1 from rfl, Nat.reduceMul, Nat.reduceEqDiff, Go.Addr.add, ↓reduceIte] at hx206_3)
          have qi206 : (1 < t199.length) = True := eq_true (by omega)
          (try rw [show ((1 : Int)).toNat = 1 from rfl] at hx206_0)
          (try rw [show 1 * 4 = 4 from rfl] at hx206_0)
          (try rw [show ((1 : Int)).toNat = 1 from rfl] at hx206_1)
          (try rw [show 1 * 4 = 4 from rfl] at hx206_1)
          (try rw [show ((1 : Int)).toNat = 1 from rfl] at hx206_2)
          (try rw [show 1 * 4 = 4 from rfl] at hx206_2)
          (try rw [show ((1 : Int)).toNat = 1 from rfl] at hx206_3)
          (try rw [show 1 * 4 = 4 from rfl] at hx206_3)
          replace p206 := eq_true p206
          replace q206 := eq_true q206
          go_wp2_with (first | (go_at_call 14; (with_reducible refine (o_Strict.calls _ _ y196 false _ ?side1 ?side2 A12.out).mono ?_); (case side1 => repeat (first | exact (Kd.R_reads' HO198.out).2.2 | (with_reducible refine Kd.C_alloc ?_ _) | (with_reducible refine Kd.C_drewN ?_ _) | (with_reducible refine Kd.C_drew ?_))); (case side2 => exact (Kd.R_reads' HO198.out).2.1); rintro e w24 ⟨rfl, hb⟩; have n0_ := Aside0.mk (Kd.R_below (by (with_reducible repeat (first | apply Kd.R_alloc | apply Kd.R_drewN | apply Kd.R_drew)); exact HO198.out) hb); have n1_ := Aside0.mk (Kd.R_below (by (with_reducible repeat (first | apply Kd.R_alloc | apply Kd.R_drewN | apply Kd.R_drew)); exact HO201.out) hb); have n2_ := Aside0.mk (Kd.R_below (by (with_reducible repeat (first | apply Kd.R_alloc | apply Kd.R_drewN | apply Kd.R_drew)); exact HO205.out) hb); have n3_ := Aside0.mk (below_step (by repeat (first | (with_reducible first | exact HB.out | apply below_alloc | apply pw_below_drewN | apply below_drew1) | exact HB.out)) hb); clear HO198; clear HO201; clear HO205; clear HB; have HO198 := n0_; have HO201 := n1_; have HO205 := n2_; have HB := n3_; clear n0_ n1_ n2_ n3_; (try clear hb); (try clear hb2); (try clear hk); (try clear hi); have q25 : (1 : Int) ≤ ((y196.length : Int) : Int) := of_decide_eq_true (by first | (with_reducible assumption) | assumption); obtain ⟨i025, hi025, _, hsz25, _⟩ := info_parts info29; have hroom25 : y196.length ≤ co6 := (Kd.R_reads' HO198.out).2.1; have hC25 : Kd.C k29 _ Ao6 y196.length y196 := (Kd.R_reads' HO198.out).2.2; have hcut25 := cut_to (P := Try.prog) 22 29 .i64 Try.underlying22 hi025 Ao6 y196.length co6 1 (by omega) q25 hroom25; have hr25 := Kd.C_take (m := 1) hC25 (by omega); have hy25 : y208.length = (1 : Int).toNat := (by rw [Ny208.out, List.length_take]; omega); rw [← Ny208.out] at hr25; rw [← hy25] at hcut25; have HR211 := Aside0.mk hr25; have HC211 := Aside0.mk (show y208.length ≤ co6 from by omega); clear hr25 hC25 hroom25 hi025 hsz25; have KY25 := Aside0.mk hy25; clear hy25; have KL25 := Aside0.mk (show 1 ≤ y196.length from by omega); replace q25 := eq_true q25) | (go_at_call 14; (with_reducible refine (o_Strict.calls _ _ y208 true _ ?side1 ?side2 A17.out).mono ?_); (case side1 => repeat (first | exact (by repeat (first | (with_reducible exact HR211.out) | (with_reducible refine Kd.C_alloc ?_ _) | (with_reducible refine Kd.C_drewN ?_ _) | (with_reducible refine Kd.C_drew ?_) | exact HR211.out)) | (with_reducible refine Kd.C_alloc ?_ _) | (with_reducible refine Kd.C_drewN ?_ _) | (with_reducible refine Kd.C_drew ?_))); (case side2 => exact HC211.out); rintro e w26 ⟨rfl, hb⟩; have n0_ := Aside0.mk (Kd.R_below (by (with_reducible repeat (first | apply Kd.R_alloc | apply Kd.R_drewN | apply Kd.R_drew)); exact HO198.out) hb); have n1_ := Aside0.mk (Kd.R_below (by (with_reducible repeat (first | apply Kd.R_alloc | apply Kd.R_drewN | apply Kd.R_drew)); exact HO201.out) hb); have n2_ := Aside0.mk (Kd.R_below (by (with_reducible repeat (first | apply Kd.R_alloc | apply Kd.R_drewN | apply Kd.R_drew)); exact HO205.out) hb); have n3_ := Aside0.mk (Kd.C_below (by repeat (first | (with_reducible exact HR211.out) | (with_reducible refine Kd.C_alloc ?_ _) | (with_reducible refine Kd.C_drewN ?_ _) | (with_reducible refine Kd.C_drew ?_) | exact HR211.out)) hb); have n4_ := Aside0.mk (below_step (by repeat (first | (with_reducible first | exact HB.out | apply below_alloc | apply pw_below_drewN | apply below_drew1) | exact HB.out)) hb); clear HO198; clear HO201; clear HO205; clear HR211; clear HB; have HO198 := n0_; have HO201 := n1_; have HO205 := n2_; have HR211 := n3_; have HB := n4_; clear n0_ n1_ n2_ n3_ n4_; (try clear hb); (try clear hb2); (try clear hk); (try clear hi)) | (go_at_call 12; (with_reducible refine (history_Before.calls k _ _ y196 1 2 true _ ?side1 ?side2 A19.out).mono ?_); (case side1 => repeat (first | exact (Kd.R_reads' HO198.out).2.2 | (with_reducible refine Kd.C_alloc ?_ _) | (with_reducible refine Kd.C_drewN ?_ _) | (with_reducible refine Kd.C_drew ?_))); (case side2 => exact (Kd.R_reads' HO198.out).2.1); rintro e w27 ⟨rfl, hb⟩; have n0_ := Aside0.mk (Kd.R_below (by (with_reducible repeat (first | apply Kd.R_alloc | apply Kd.R_drewN | apply Kd.R_drew)); exact HO198.out) hb); have n1_ := Aside0.mk (Kd.R_below (by (with_reducible repeat (first | apply Kd.R_alloc | apply Kd.R_drewN | apply Kd.R_drew)); exact HO201.out) hb); have n2_ := Aside0.mk (Kd.R_below (by (with_reducible repeat (first | apply Kd.R_alloc | apply Kd.R_drewN | apply Kd.R_drew)); exact HO205.out) hb); have n3_ := Aside0.mk (Kd.C_below (by repeat (first | (with_reducible exact HR211.out) | (with_reducible refine Kd.C_alloc ?_ _) | (with_reducible refine Kd.C_drewN ?_ _) | (with_reducible refine Kd.C_drew ?_) | exact HR211.out)) hb); have n4_ := Aside0.mk (below_step (by repeat (first | (with_reducible first | exact HB.out | apply below_alloc | apply pw_below_drewN | apply below_drew1) | exact HB.out)) hb); clear HO198; clear HO201; clear HO205; clear HR211; clear HB; have HO198 := n0_; have HO201 := n1_; have HO205 := n2_; have HR211 := n3_; have HB := n4_; clear n0_ n1_ n2_ n3_ n4_; (try clear hb); (try clear hb2); (try clear hk); (try clear hi)) | (go_at_call 12; (with_reducible refine (history_Before.calls k _ _ y196 2 1 true _ ?side1 ?side2 A21.out).mono ?_); (case side1 => repeat (first | exact (Kd.R_reads' HO198.out).2.2 | (with_reducible refine Kd.C_alloc ?_ _) | (with_reducible refine Kd.C_drewN ?_ _) | (with_reducible refine Kd.C_drew ?_))); (case side2 => exact (Kd.R_reads' HO198.out).2.1); rintro e w28 ⟨rfl, hb⟩; have n0_ := Aside0.mk (Kd.R_below (by (with_reducible repeat (first | apply Kd.R_alloc | apply Kd.R_drewN | apply Kd.R_drew)); exact HO198.out) hb); have n1_ := Aside0.mk (Kd.R_below (by (with_reducible repeat (first | apply Kd.R_alloc | apply Kd.R_drewN | apply Kd.R_drew)); exact HO201.out) hb); have n2_ := Aside0.mk (Kd.R_below (by (with_reducible repeat (first | apply Kd.R_alloc | apply Kd.R_drewN | apply Kd.R_drew)); exact HO205.out) hb); have n3_ := Aside0.mk (Kd.C_below (by repeat (first | (with_reducible exact HR211.out) | (with_reducible refine Kd.C_alloc ?_ _) | (with_reducible refine Kd.C_drewN ?_ _) | (with_reducible refine Kd.C_drew ?_) | exact HR211.out)) hb); have n4_ := Aside0.mk (below_step (by repeat (first | (with_reducible first | exact HB.out | apply below_alloc | apply pw_below_drewN | apply below_drew1) | exact HB.out)) hb); clear HO198; clear HO201; clear HO205; clear HR211; clear HB; have HO198 := n0_; have HO201 := n1_; have HO205 := n2_; have HR211 := n3_; have HB := n4_; clear n0_ n1_ n2_ n3_ n4_; (try clear hb); (try clear hb2); (try clear hk); (try clear hi)))
          go_meet
          case rel => exact ⟨_, (false), (by first | rfl | (simp; done) | (simp only [emptyNe_, emptyEq_]; done) | (simp [*]; done)), H', ⟨by first | omega | exact Nat.le_refl _⟩, ⟨by repeat (first | (with_reducible first | exact HB.out | apply below_alloc | apply pw_below_drewN | apply below_drew1) | exact HB.out)⟩⟩
         ·replace c22 := Bool.eq_false_iff.mpr c22
          subst c22
          have H1 : (if t203 = true then ((logjamlaw30_Ints.f k t202 (([1, 2] : List Int))).bind fun t218 => (logjamlaw38_lives.j0 k t218)) else (logjamlaw38_lives.j0 k false)) = some r := by rw [if_neg (show ¬ (false = true) by decide)] at H; exact H
          clear H
          have H := H1
          clear H1
          by_cases c29 : t203 = true
          ·subst c29
           have H1 : ((logjamlaw30_Ints.f k t202 (([1, 2] : List Int))).bind fun t218 => (logjamlaw38_lives.j0 k t218)) = some r := by rw [if_pos rfl] at H; exact H
           clear H
           have H := H1
           clear H1
           obtain ⟨y215, hy215⟩ : ∃ y_ : List Int, y_ = (([1, 2] : List Int)) := ⟨_, rfl⟩
           replace H : ((logjamlaw30_Ints.f k t202 y215).bind fun t218 => (logjamlaw38_lives.j0 k t218)) = some r := by first | (rw [hy215]; with_reducible exact H) | (have H2_ := (Option.bind_some _ _).symm.trans H; rw [hy215]; with_reducible exact H2_) | (have H2_ := (Option.bind_some _ _).symm.trans H; with_reducible exact H2_) | with_reducible exact H | (rw [hy215]; exact H) | exact H
           have Ny215 := Aside0.mk hy215
           clear hy215
           replace H := Option.bind_eq_some_iff.mp H
           obtain ⟨t218, A300, H⟩ := H
           replace H : (logjamlaw38_lives.j0 k t218) = some r := H
           have A30 := Aside0.mk A300
           clear A300
           have H' := Aside0.mk H
           clear H
           obtain ⟨Ao31, co31, eo31⟩ := Kd.R_slice HO201.out
           subst eo31
           have p206 : 0 ≤ (1 : Int) := (by omega)
           have q206 : 1 < (t199.length : Int) := of_decide_eq_true (by first | (with_reducible assumption) | assumption)
           obtain ⟨ad206, e206, hx206_0, hx206_1, hx206_2, hx206_3⟩ := at_T31 (Kd.R_reads' HO201.out).2.2 1 p206 q206
           cases e206
           (try simp only [show (1 : Int).toNat = 1 from rfl, Nat.reduceMul, Nat.reduceEqDiff, Go.Addr.add, ↓reduceIte] at hx206_0)
           (try simp only [show (1 : Int).toNat = 1 from rfl, Nat.reduceMul, Nat.reduceEqDiff, Go.Addr.add, ↓reduceIte] at hx206_1)
           (try simp only [show (1 : Int).toNat = 1 from rfl, Nat.reduceMul, Nat.reduceEqDiff, Go.Addr.add, ↓reduceIte] at hx206_2)
           (try simp only [show (1 : Int).toNat = 1 from rfl, Nat.reduceMul, Nat.reduceEqDiff, Go.Addr.add, ↓reduceIte] at hx206_3)
           have qi206 : (1 < t199.length) = True := eq_true (by omega)
           (try rw [show ((1 : Int)).toNat = 1 from rfl] at hx206_0)
           (try rw [show 1 * 4 = 4 from rfl] at hx206_0)
           (try rw [show ((1 : Int)).toNat = 1 from rfl] at hx206_1)
           (try rw [show 1 * 4 = 4 from rfl] at hx206_1)
           (try rw [show ((1 : Int)).toNat = 1 from rfl] at hx206_2)
           (try rw [show 1 * 4 = 4 from rfl] at hx206_2)
           (try rw [show ((1 : Int)).toNat = 1 from rfl] at hx206_3)
           (try rw [show 1 * 4 = 4 from rfl] at hx206_3)
           replace p206 := eq_true p206
           replace q206 := eq_true q206
           go_wp2_with (first | (go_at_call 14; (with_reducible refine (o_Strict.calls _ _ y196 false _ ?side1 ?side2 A12.out).mono ?_); (case side1 => repeat (first | exact (Kd.R_reads' HO198.out).2.2 | (with_reducible refine Kd.C_alloc ?_ _) | (with_reducible refine Kd.C_drewN ?_ _) | (with_reducible refine Kd.C_drew ?_))); (case side2 => exact (Kd.R_reads' HO198.out).2.1); rintro e w32 ⟨rfl, hb⟩; have n0_ := Aside0.mk (Kd.R_below (by (with_reducible repeat (first | apply Kd.R_alloc | apply Kd.R_drewN | apply Kd.R_drew)); exact HO198.out) hb); have n1_ := Aside0.mk (Kd.R_below (by (with_reducible repeat (first | apply Kd.R_alloc | apply Kd.R_drewN | apply Kd.R_drew)); exact HO201.out) hb); have n2_ := Aside0.mk (Kd.R_below (by (with_reducible repeat (first | apply Kd.R_alloc | apply Kd.R_drewN | apply Kd.R_drew)); exact HO205.out) hb); have n3_ := Aside0.mk (below_step (by repeat (first | (with_reducible first | exact HB.out | apply below_alloc | apply pw_below_drewN | apply below_drew1) | exact HB.out)) hb); clear HO198; clear HO201; clear HO205; clear HB; have HO198 := n0_; have HO201 := n1_; have HO205 := n2_; have HB := n3_; clear n0_ n1_ n2_ n3_; (try clear hb); (try clear hb2); (try clear hk); (try clear hi); have q33 : (1 : Int) ≤ ((y196.length : Int) : Int) := of_decide_eq_true (by first | (with_reducible assumption) | assumption); obtain ⟨i033, hi033, _, hsz33, _⟩ := info_parts info29; have hroom33 : y196.length ≤ co6 := (Kd.R_reads' HO198.out).2.1; have hC33 : Kd.C k29 _ Ao6 y196.length y196 := (Kd.R_reads' HO198.out).2.2; have hcut33 := cut_to (P := Try.prog) 22 29 .i64 Try.underlying22 hi033 Ao6 y196.length co6 1 (by omega) q33 hroom33; have hr33 := Kd.C_take (m := 1) hC33 (by omega); have hy33 : y208.length = (1 : Int).toNat := (by rw [Ny208.out, List.length_take]; omega); rw [← Ny208.out] at hr33; rw [← hy33] at hcut33; have HR211 := Aside0.mk hr33; have HC211 := Aside0.mk (show y208.length ≤ co6 from by omega); clear hr33 hC33 hroom33 hi033 hsz33; have KY33 := Aside0.mk hy33; clear hy33; have KL33 := Aside0.mk (show 1 ≤ y196.length from by omega); replace q33 := eq_true q33) | (go_at_call 14; (with_reducible refine (o_Strict.calls _ _ y208 true _ ?side1 ?side2 A17.out).mono ?_); (case side1 => repeat (first | exact (by repeat (first | (with_reducible exact HR211.out) | (with_reducible refine Kd.C_alloc ?_ _) | (with_reducible refine Kd.C_drewN ?_ _) | (with_reducible refine Kd.C_drew ?_) | exact HR211.out)) | (with_reducible refine Kd.C_alloc ?_ _) | (with_reducible refine Kd.C_drewN ?_ _) | (with_reducible refine Kd.C_drew ?_))); (case side2 => exact HC211.out); rintro e w34 ⟨rfl, hb⟩; have n0_ := Aside0.mk (Kd.R_below (by (with_reducible repeat (first | apply Kd.R_alloc | apply Kd.R_drewN | apply Kd.R_drew)); exact HO198.out) hb); have n1_ := Aside0.mk (Kd.R_below (by (with_reducible repeat (first | apply Kd.R_alloc | apply Kd.R_drewN | apply Kd.R_drew)); exact HO201.out) hb); have n2_ := Aside0.mk (Kd.R_below (by (with_reducible repeat (first | apply Kd.R_alloc | apply Kd.R_drewN | apply Kd.R_drew)); exact HO205.out) hb); have n3_ := Aside0.mk (Kd.C_below (by repeat (first | (with_reducible exact HR211.out) | (with_reducible refine Kd.C_alloc ?_ _) | (with_reducible refine Kd.C_drewN ?_ _) | (with_reducible refine Kd.C_drew ?_) | exact HR211.out)) hb); have n4_ := Aside0.mk (below_step (by repeat (first | (with_reducible first | exact HB.out | apply below_alloc | apply pw_below_drewN | apply below_drew1) | exact HB.out)) hb); clear HO198; clear HO201; clear HO205; clear HR211; clear HB; have HO198 := n0_; have HO201 := n1_; have HO205 := n2_; have HR211 := n3_; have HB := n4_; clear n0_ n1_ n2_ n3_ n4_; (try clear hb); (try clear hb2); (try clear hk); (try clear hi)) | (go_at_call 12; (with_reducible refine (history_Before.calls k _ _ y196 1 2 true _ ?side1 ?side2 A19.out).mono ?_); (case side1 => repeat (first | exact (Kd.R_reads' HO198.out).2.2 | (with_reducible refine Kd.C_alloc ?_ _) | (with_reducible refine Kd.C_drewN ?_ _) | (with_reducible refine Kd.C_drew ?_))); (case side2 => exact (Kd.R_reads' HO198.out).2.1); rintro e w35 ⟨rfl, hb⟩; have n0_ := Aside0.mk (Kd.R_below (by (with_reducible repeat (first | apply Kd.R_alloc | apply Kd.R_drewN | apply Kd.R_drew)); exact HO198.out) hb); have n1_ := Aside0.mk (Kd.R_below (by (with_reducible repeat (first | apply Kd.R_alloc | apply Kd.R_drewN | apply Kd.R_drew)); exact HO201.out) hb); have n2_ := Aside0.mk (Kd.R_below (by (with_reducible repeat (first | apply Kd.R_alloc | apply Kd.R_drewN | apply Kd.R_drew)); exact HO205.out) hb); have n3_ := Aside0.mk (Kd.C_below (by repeat (first | (with_reducible exact HR211.out) | (with_reducible refine Kd.C_alloc ?_ _) | (with_reducible refine Kd.C_drewN ?_ _) | (with_reducible refine Kd.C_drew ?_) | exact HR211.out)) hb); have n4_ := Aside0.mk (below_step (by repeat (first | (with_reducible first | exact HB.out | apply below_alloc | apply pw_below_drewN | apply below_drew1) | exact HB.out)) hb); clear HO198; clear HO201; clear HO205; clear HR211; clear HB; have HO198 := n0_; have HO201 := n1_; have HO205 := n2_; have HR211 := n3_; have HB := n4_; clear n0_ n1_ n2_ n3_ n4_; (try clear hb); (try clear hb2); (try clear hk); (try clear hi)) | (go_at_call 12; (with_reducible refine (history_Before.calls k _ _ y196 2 1 false _ ?side1 ?side2 A21.out).mono ?_); (case side1 => repeat (first | exact (Kd.R_reads' HO198.out).2.2 | (with_reducible refine Kd.C_alloc ?_ _) | (with_reducible refine Kd.C_drewN ?_ _) | (with_reducible refine Kd.C_drew ?_))); (case side2 => exact (Kd.R_reads' HO198.out).2.1); rintro e w36 ⟨rfl, hb⟩; have n0_ := Aside0.mk (Kd.R_below (by (with_reducible repeat (first | apply Kd.R_alloc | apply Kd.R_drewN | apply Kd.R_drew)); exact HO198.out) hb); have n1_ := Aside0.mk (Kd.R_below (by (with_reducible repeat (first | apply Kd.R_alloc | apply Kd.R_drewN | apply Kd.R_drew)); exact HO201.out) hb); have n2_ := Aside0.mk (Kd.R_below (by (with_reducible repeat (first | apply Kd.R_alloc | apply Kd.R_drewN | apply Kd.R_drew)); exact HO205.out) hb); have n3_ := Aside0.mk (Kd.C_below (by repeat (first | (with_reducible exact HR211.out) | (with_reducible refine Kd.C_alloc ?_ _) | (with_reducible refine Kd.C_drewN ?_ _) | (with_reducible refine Kd.C_drew ?_) | exact HR211.out)) hb); have n4_ := Aside0.mk (below_step (by repeat (first | (with_reducible first | exact HB.out | apply below_alloc | apply pw_below_drewN | apply below_drew1) | exact HB.out)) hb); clear HO198; clear HO201; clear HO205; clear HR211; clear HB; have HO198 := n0_; have HO201 := n1_; have HO205 := n2_; have HR211 := n3_; have HB := n4_; clear n0_ n1_ n2_ n3_ n4_; (try clear hb); (try clear hb2); (try clear hk); (try clear hi)) | ((with_reducible refine gate_dst (N := 51) rfl ?_); (try (refine gate_guard (by rfl) ?_; dsimp only)); refine Kd.R_lit (Kd.int .i64) _ 3 ?hg (N := 51) ?hd (xs := ([1, 2] : List Int)) (inner := [.int .i64 1, .int .i64 2]) (ok := fun _ => True) (okp := fun _ => True) ?hr ?hp (fun _ hk => hk) trivial (Below.refl _ _) (Nat.le_refl _) (by simp) ?_; (case hd => rfl); (case hg => rfl); (case hr => first | (go_simp; done) | (go_simp; rfl)); (case hp => exact (Reps.one (show Kd.M (Kd.int .i64) _ _ _ 1 [.int .i64 1] from rfl) (Reps.one (show Kd.M (Kd.int .i64) _ _ _ 2 [.int .i64 2] from rfl) (Reps.none _ _)))); intro v216 w37 ho38 hb hg_ hnew_; clear hg_ hnew_; (first | rw [← Ny215.out] at ho38 | (simp only [Int.reduceToNat] at ho38; rw [← Ny215.out] at ho38)); have n0_ := Aside0.mk (Kd.R_below (by (with_reducible repeat (first | apply Kd.R_alloc | apply Kd.R_drewN | apply Kd.R_drew)); exact HO198.out) hb); have n1_ := Aside0.mk (Kd.R_below (by (with_reducible repeat (first | apply Kd.R_alloc | apply Kd.R_drewN | apply Kd.R_drew)); exact HO201.out) hb); have n2_ := Aside0.mk (Kd.R_elder' (by (with_reducible repeat (first | apply Kd.R_alloc | apply Kd.R_drewN | apply Kd.R_drew)); exact HO205.out) (Kd.R_base ho38) hb); have n3_ := Aside0.mk (Kd.R_lower (Kd.R_new' ho38 (Kd.R_lt (by (with_reducible repeat (first | apply Kd.R_alloc | apply Kd.R_drewN | apply Kd.R_drew)); exact HO205.out))) (below_size (by repeat (first | (with_reducible first | exact HB.out | apply below_alloc | apply pw_below_drewN | apply below_drew1) | exact HB.out)))); have n4_ := Aside0.mk (Kd.C_below (by repeat (first | (with_reducible exact HR211.out) | (with_reducible refine Kd.C_alloc ?_ _) | (with_reducible refine Kd.C_drewN ?_ _) | (with_reducible refine Kd.C_drew ?_) | exact HR211.out)) hb); have n5_ := Aside0.mk (below_step (by repeat (first | (with_reducible first | exact HB.out | apply below_alloc | apply pw_below_drewN | apply below_drew1) | exact HB.out)) hb); clear HO198; clear HO201; clear HO205; clear HR211; clear HB; have HO198 := n0_; have HO201 := n1_; have HO205 := n2_; have HO217 := n3_; have HR211 := n4_; have HB := n5_; clear n0_ n1_ n2_ n3_ n4_ n5_; clear hb ho38; obtain ⟨Ao39, co39, eo39⟩ := Kd.R_slice HO205.out; subst eo39; obtain ⟨Ao40, co40, eo40⟩ := Kd.R_slice HO217.out; subst eo40) | (go_at_call 11; (with_reducible refine (logjamlaw30_Ints.calls k _ _ t202 _ _ y215 t218 _ ?side1 ?side2 ?side3 ?side4 A30.out).mono ?_); (case side1 => repeat (first | exact (Kd.R_reads' HO205.out).2.2 | (with_reducible refine Kd.C_alloc ?_ _) | (with_reducible refine Kd.C_drewN ?_ _) | (with_reducible refine Kd.C_drew ?_))); (case side2 => exact (Kd.R_reads' HO205.out).2.1); (case side3 => repeat (first | exact (Kd.R_reads' HO217.out).2.2 | (with_reducible refine Kd.C_alloc ?_ _) | (with_reducible refine Kd.C_drewN ?_ _) | (with_reducible refine Kd.C_drew ?_))); (case side4 => exact (Kd.R_reads' HO217.out).2.1); rintro e w' ⟨rfl, ⟨nd, rfl⟩⟩))
           go_meet
           case rel => exact ⟨_, (t218), (by first | rfl | (simp; done) | (simp only [emptyNe_, emptyEq_]; done) | (simp [*]; done)), H', ⟨by first | omega | exact Nat.le_refl _⟩, ⟨by repeat (first | (with_reducible first | exact HB.out | apply below_alloc | apply pw_below_drewN | apply below_drew1) | exact HB.out)⟩⟩
          ·replace c29 := Bool.eq_false_iff.mpr c29
           subst c29
           have H1 : (logjamlaw38_lives.j0 k false) = some r := by rw [if_neg (show ¬ (false = true) by decide)] at H; exact H
           clear H
           have H := H1
           clear H1
           have H' := Aside0.mk H
           clear H
           obtain ⟨Ao41, co41, eo41⟩ := Kd.R_slice HO201.out
           subst eo41
           have p206 : 0 ≤ (1 : Int) := (by omega)
           have q206 : 1 < (t199.length : Int) := of_decide_eq_true (by first | (with_reducible assumption) | assumption)
           obtain ⟨ad206, e206, hx206_0, hx206_1, hx206_2, hx206_3⟩ := at_T31 (Kd.R_reads' HO201.out).2.2 1 p206 q206
           cases e206
           (try simp only [show (1 : Int).toNat = 1 from rfl, Nat.reduceMul, Nat.reduceEqDiff, Go.Addr.add, ↓reduceIte] at hx206_0)
           (try simp only [show (1 : Int).toNat = 1 from rfl, Nat.reduceMul, Nat.reduceEqDiff, Go.Addr.add, ↓reduceIte] at hx206_1)
           (try simp only [show (1 : Int).toNat = 1 from rfl, Nat.reduceMul, Nat.reduceEqDiff, Go.Addr.add, ↓reduceIte] at hx206_2)
           (try simp only [show (1 : Int).toNat = 1 from rfl, Nat.reduceMul, Nat.reduceEqDiff, Go.Addr.add, ↓reduceIte] at hx206_3)
           have qi206 : (1 < t199.length) = True := eq_true (by omega)
           (try rw [show ((1 : Int)).toNat = 1 from rfl] at hx206_0)
           (try rw [show 1 * 4 = 4 from rfl] at hx206_0)
           (try rw [show ((1 : Int)).toNat = 1 from rfl] at hx206_1)
           (try rw [show 1 * 4 = 4 from rfl] at hx206_1)
           (try rw [show ((1 : Int)).toNat = 1 from rfl] at hx206_2)
           (try rw [show 1 * 4 = 4 from rfl] at hx206_2)
           (try rw [show ((1 : Int)).toNat = 1 from rfl] at hx206_3)
           (try rw [show 1 * 4 = 4 from rfl] at hx206_3)
           replace p206 := eq_true p206
           replace q206 := eq_true q206
           go_wp2_with (first | (go_at_call 14; (with_reducible refine (o_Strict.calls _ _ y196 false _ ?side1 ?side2 A12.out).mono ?_); (case side1 => repeat (first | exact (Kd.R_reads' HO198.out).2.2 | (with_reducible refine Kd.C_alloc ?_ _) | (with_reducible refine Kd.C_drewN ?_ _) | (with_reducible refine Kd.C_drew ?_))); (case side2 => exact (Kd.R_reads' HO198.out).2.1); rintro e w42 ⟨rfl, hb⟩; have n0_ := Aside0.mk (Kd.R_below (by (with_reducible repeat (first | apply Kd.R_alloc | apply Kd.R_drewN | apply Kd.R_drew)); exact HO198.out) hb); have n1_ := Aside0.mk (Kd.R_below (by (with_reducible repeat (first | apply Kd.R_alloc | apply Kd.R_drewN | apply Kd.R_drew)); exact HO201.out) hb); have n2_ := Aside0.mk (Kd.R_below (by (with_reducible repeat (first | apply Kd.R_alloc | apply Kd.R_drewN | apply Kd.R_drew)); exact HO205.out) hb); have n3_ := Aside0.mk (below_step (by repeat (first | (with_reducible first | exact HB.out | apply below_alloc | apply pw_below_drewN | apply below_drew1) | exact HB.out)) hb); clear HO198; clear HO201; clear HO205; clear HB; have HO198 := n0_; have HO201 := n1_; have HO205 := n2_; have HB := n3_; clear n0_ n1_ n2_ n3_; (try clear hb); (try clear hb2); (try clear hk); (try clear hi); have q43 : (1 : Int) ≤ ((y196.length : Int) : Int) := of_decide_eq_true (by first | (with_reducible assumption) | assumption); obtain ⟨i043, hi043, _, hsz43, _⟩ := info_parts info29; have hroom43 : y196.length ≤ co6 := (Kd.R_reads' HO198.out).2.1; have hC43 : Kd.C k29 _ Ao6 y196.length y196 := (Kd.R_reads' HO198.out).2.2; have hcut43 := cut_to (P := Try.prog) 22 29 .i64 Try.underlying22 hi043 Ao6 y196.length co6 1 (by omega) q43 hroom43; have hr43 := Kd.C_take (m := 1) hC43 (by omega); have hy43 : y208.length = (1 : Int).toNat := (by rw [Ny208.out, List.length_take]; omega); rw [← Ny208.out] at hr43; rw [← hy43] at hcut43; have HR211 := Aside0.mk hr43; have HC211 := Aside0.mk (show y208.length ≤ co6 from by omega); clear hr43 hC43 hroom43 hi043 hsz43; have KY43 := Aside0.mk hy43; clear hy43; have KL43 := Aside0.mk (show 1 ≤ y196.length from by omega); replace q43 := eq_true q43) | (go_at_call 14; (with_reducible refine (o_Strict.calls _ _ y208 true _ ?side1 ?side2 A17.out).mono ?_); (case side1 => repeat (first | exact (by repeat (first | (with_reducible exact HR211.out) | (with_reducible refine Kd.C_alloc ?_ _) | (with_reducible refine Kd.C_drewN ?_ _) | (with_reducible refine Kd.C_drew ?_) | exact HR211.out)) | (with_reducible refine Kd.C_alloc ?_ _) | (with_reducible refine Kd.C_drewN ?_ _) | (with_reducible refine Kd.C_drew ?_))); (case side2 => exact HC211.out); rintro e w44 ⟨rfl, hb⟩; have n0_ := Aside0.mk (Kd.R_below (by (with_reducible repeat (first | apply Kd.R_alloc | apply Kd.R_drewN | apply Kd.R_drew)); exact HO198.out) hb); have n1_ := Aside0.mk (Kd.R_below (by (with_reducible repeat (first | apply Kd.R_alloc | apply Kd.R_drewN | apply Kd.R_drew)); exact HO201.out) hb); have n2_ := Aside0.mk (Kd.R_below (by (with_reducible repeat (first | apply Kd.R_alloc | apply Kd.R_drewN | apply Kd.R_drew)); exact HO205.out) hb); have n3_ := Aside0.mk (Kd.C_below (by repeat (first | (with_reducible exact HR211.out) | (with_reducible refine Kd.C_alloc ?_ _) | (with_reducible refine Kd.C_drewN ?_ _) | (with_reducible refine Kd.C_drew ?_) | exact HR211.out)) hb); have n4_ := Aside0.mk (below_step (by repeat (first | (with_reducible first | exact HB.out | apply below_alloc | apply pw_below_drewN | apply below_drew1) | exact HB.out)) hb); clear HO198; clear HO201; clear HO205; clear HR211; clear HB; have HO198 := n0_; have HO201 := n1_; have HO205 := n2_; have HR211 := n3_; have HB := n4_; clear n0_ n1_ n2_ n3_ n4_; (try clear hb); (try clear hb2); (try clear hk); (try clear hi)) | (go_at_call 12; (with_reducible refine (history_Before.calls k _ _ y196 1 2 true _ ?side1 ?side2 A19.out).mono ?_); (case side1 => repeat (first | exact (Kd.R_reads' HO198.out).2.2 | (with_reducible refine Kd.C_alloc ?_ _) | (with_reducible refine Kd.C_drewN ?_ _) | (with_reducible refine Kd.C_drew ?_))); (case side2 => exact (Kd.R_reads' HO198.out).2.1); rintro e w45 ⟨rfl, hb⟩; have n0_ := Aside0.mk (Kd.R_below (by (with_reducible repeat (first | apply Kd.R_alloc | apply Kd.R_drewN | apply Kd.R_drew)); exact HO198.out) hb); have n1_ := Aside0.mk (Kd.R_below (by (with_reducible repeat (first | apply Kd.R_alloc | apply Kd.R_drewN | apply Kd.R_drew)); exact HO201.out) hb); have n2_ := Aside0.mk (Kd.R_below (by (with_reducible repeat (first | apply Kd.R_alloc | apply Kd.R_drewN | apply Kd.R_drew)); exact HO205.out) hb); have n3_ := Aside0.mk (Kd.C_below (by repeat (first | (with_reducible exact HR211.out) | (with_reducible refine Kd.C_alloc ?_ _) | (with_reducible refine Kd.C_drewN ?_ _) | (with_reducible refine Kd.C_drew ?_) | exact HR211.out)) hb); have n4_ := Aside0.mk (below_step (by repeat (first | (with_reducible first | exact HB.out | apply below_alloc | apply pw_below_drewN | apply below_drew1) | exact HB.out)) hb); clear HO198; clear HO201; clear HO205; clear HR211; clear HB; have HO198 := n0_; have HO201 := n1_; have HO205 := n2_; have HR211 := n3_; have HB := n4_; clear n0_ n1_ n2_ n3_ n4_; (try clear hb); (try clear hb2); (try clear hk); (try clear hi)) | (go_at_call 12; (with_reducible refine (history_Before.calls k _ _ y196 2 1 false _ ?side1 ?side2 A21.out).mono ?_); (case side1 => repeat (first | exact (Kd.R_reads' HO198.out).2.2 | (with_reducible refine Kd.C_alloc ?_ _) | (with_reducible refine Kd.C_drewN ?_ _) | (with_reducible refine Kd.C_drew ?_))); (case side2 => exact (Kd.R_reads' HO198.out).2.1); rintro e w46 ⟨rfl, hb⟩; have n0_ := Aside0.mk (Kd.R_below (by (with_reducible repeat (first | apply Kd.R_alloc | apply Kd.R_drewN | apply Kd.R_drew)); exact HO198.out) hb); have n1_ := Aside0.mk (Kd.R_below (by (with_reducible repeat (first | apply Kd.R_alloc | apply Kd.R_drewN | apply Kd.R_drew)); exact HO201.out) hb); have n2_ := Aside0.mk (Kd.R_below (by (with_reducible repeat (first | apply Kd.R_alloc | apply Kd.R_drewN | apply Kd.R_drew)); exact HO205.out) hb); have n3_ := Aside0.mk (Kd.C_below (by repeat (first | (with_reducible exact HR211.out) | (with_reducible refine Kd.C_alloc ?_ _) | (with_reducible refine Kd.C_drewN ?_ _) | (with_reducible refine Kd.C_drew ?_) | exact HR211.out)) hb); have n4_ := Aside0.mk (below_step (by repeat (first | (with_reducible first | exact HB.out | apply below_alloc | apply pw_below_drewN | apply below_drew1) | exact HB.out)) hb); clear HO198; clear HO201; clear HO205; clear HR211; clear HB; have HO198 := n0_; have HO201 := n1_; have HO205 := n2_; have HR211 := n3_; have HB := n4_; clear n0_ n1_ n2_ n3_ n4_; (try clear hb); (try clear hb2); (try clear hk); (try clear hi)))
           go_meet
           case rel => exact ⟨_, (false), (by first | rfl | (simp; done) | (simp only [emptyNe_, emptyEq_]; done) | (simp [*]; done)), H', ⟨by first | omega | exact Nat.le_refl _⟩, ⟨by repeat (first | (with_reducible first | exact HB.out | apply below_alloc | apply pw_below_drewN | apply below_drew1) | exact HB.out)⟩⟩
        ·replace c20 := Bool.eq_false_iff.mpr c20
         subst c20
         have H1 : (logjamlaw38_lives.j0 k false) = some r := by rw [if_neg (show ¬ (false = true) by decide)] at H; exact H
         clear H
         have H := H1
         clear H1
         have H' := Aside0.mk H
         clear H
         obtain ⟨Ao47, co47, eo47⟩ := Kd.R_slice HO201.out
         subst eo47
         have p206 : 0 ≤ (1 : Int) := (by omega)
         have q206 : 1 < (t199.length : Int) := of_decide_eq_true (by first | (with_reducible assumption) | assumption)
         obtain ⟨ad206, e206, hx206_0, hx206_1, hx206_2, hx206_3⟩ := at_T31 (Kd.R_reads' HO201.out).2.2 1 p206 q206
         cases e206
         (try simp only [show (1 : Int).toNat = 1 from rfl, Nat.reduceMul, Nat.reduceEqDiff, Go.Addr.add, ↓reduceIte] at hx206_0)
         (try simp only [show (1 : Int).toNat = 1 from rfl, Nat.reduceMul, Nat.reduceEqDiff, Go.Addr.add, ↓reduceIte] at hx206_1)
         (try simp only [show (1 : Int).toNat = 1 from rfl, Nat.reduceMul, Nat.reduceEqDiff, Go.Addr.add, ↓reduceIte] at hx206_2)
         (try simp only [show (1 : Int).toNat = 1 from rfl, Nat.reduceMul, Nat.reduceEqDiff, Go.Addr.add, ↓reduceIte] at hx206_3)
         have qi206 : (1 < t199.length) = True := eq_true (by omega)
         (try rw [show ((1 : Int)).toNat = 1 from rfl] at hx206_0)
         (try rw [show 1 * 4 = 4 from rfl] at hx206_0)
         (try rw [show ((1 : Int)).toNat = 1 from rfl] at hx206_1)
         (try rw [show 1 * 4 = 4 from rfl] at hx206_1)
         (try rw [show ((1 : Int)).toNat = 1 from rfl] at hx206_2)
         (try rw [show 1 * 4 = 4 from rfl] at hx206_2)
         (try rw [show ((1 : Int)).toNat = 1 from rfl] at hx206_3)
         (try rw [show 1 * 4 = 4 from rfl] at hx206_3)
         replace p206 := eq_true p206
         replace q206 := eq_true q206
         go_wp2_with (first | (go_at_call 14; (with_reducible refine (o_Strict.calls _ _ y196 false _ ?side1 ?side2 A12.out).mono ?_); (case side1 => repeat (first | exact (Kd.R_reads' HO198.out).2.2 | (with_reducible refine Kd.C_alloc ?_ _) | (with_reducible refine Kd.C_drewN ?_ _) | (with_reducible refine Kd.C_drew ?_))); (case side2 => exact (Kd.R_reads' HO198.out).2.1); rintro e w48 ⟨rfl, hb⟩; have n0_ := Aside0.mk (Kd.R_below (by (with_reducible repeat (first | apply Kd.R_alloc | apply Kd.R_drewN | apply Kd.R_drew)); exact HO198.out) hb); have n1_ := Aside0.mk (Kd.R_below (by (with_reducible repeat (first | apply Kd.R_alloc | apply Kd.R_drewN | apply Kd.R_drew)); exact HO201.out) hb); have n2_ := Aside0.mk (Kd.R_below (by (with_reducible repeat (first | apply Kd.R_alloc | apply Kd.R_drewN | apply Kd.R_drew)); exact HO205.out) hb); have n3_ := Aside0.mk (below_step (by repeat (first | (with_reducible first | exact HB.out | apply below_alloc | apply pw_below_drewN | apply below_drew1) | exact HB.out)) hb); clear HO198; clear HO201; clear HO205; clear HB; have HO198 := n0_; have HO201 := n1_; have HO205 := n2_; have HB := n3_; clear n0_ n1_ n2_ n3_; (try clear hb); (try clear hb2); (try clear hk); (try clear hi); have q49 : (1 : Int) ≤ ((y196.length : Int) : Int) := of_decide_eq_true (by first | (with_reducible assumption) | assumption); obtain ⟨i049, hi049, _, hsz49, _⟩ := info_parts info29; have hroom49 : y196.length ≤ co6 := (Kd.R_reads' HO198.out).2.1; have hC49 : Kd.C k29 _ Ao6 y196.length y196 := (Kd.R_reads' HO198.out).2.2; have hcut49 := cut_to (P := Try.prog) 22 29 .i64 Try.underlying22 hi049 Ao6 y196.length co6 1 (by omega) q49 hroom49; have hr49 := Kd.C_take (m := 1) hC49 (by omega); have hy49 : y208.length = (1 : Int).toNat := (by rw [Ny208.out, List.length_take]; omega); rw [← Ny208.out] at hr49; rw [← hy49] at hcut49; have HR211 := Aside0.mk hr49; have HC211 := Aside0.mk (show y208.length ≤ co6 from by omega); clear hr49 hC49 hroom49 hi049 hsz49; have KY49 := Aside0.mk hy49; clear hy49; have KL49 := Aside0.mk (show 1 ≤ y196.length from by omega); replace q49 := eq_true q49) | (go_at_call 14; (with_reducible refine (o_Strict.calls _ _ y208 true _ ?side1 ?side2 A17.out).mono ?_); (case side1 => repeat (first | exact (by repeat (first | (with_reducible exact HR211.out) | (with_reducible refine Kd.C_alloc ?_ _) | (with_reducible refine Kd.C_drewN ?_ _) | (with_reducible refine Kd.C_drew ?_) | exact HR211.out)) | (with_reducible refine Kd.C_alloc ?_ _) | (with_reducible refine Kd.C_drewN ?_ _) | (with_reducible refine Kd.C_drew ?_))); (case side2 => exact HC211.out); rintro e w50 ⟨rfl, hb⟩; have n0_ := Aside0.mk (Kd.R_below (by (with_reducible repeat (first | apply Kd.R_alloc | apply Kd.R_drewN | apply Kd.R_drew)); exact HO198.out) hb); have n1_ := Aside0.mk (Kd.R_below (by (with_reducible repeat (first | apply Kd.R_alloc | apply Kd.R_drewN | apply Kd.R_drew)); exact HO201.out) hb); have n2_ := Aside0.mk (Kd.R_below (by (with_reducible repeat (first | apply Kd.R_alloc | apply Kd.R_drewN | apply Kd.R_drew)); exact HO205.out) hb); have n3_ := Aside0.mk (Kd.C_below (by repeat (first | (with_reducible exact HR211.out) | (with_reducible refine Kd.C_alloc ?_ _) | (with_reducible refine Kd.C_drewN ?_ _) | (with_reducible refine Kd.C_drew ?_) | exact HR211.out)) hb); have n4_ := Aside0.mk (below_step (by repeat (first | (with_reducible first | exact HB.out | apply below_alloc | apply pw_below_drewN | apply below_drew1) | exact HB.out)) hb); clear HO198; clear HO201; clear HO205; clear HR211; clear HB; have HO198 := n0_; have HO201 := n1_; have HO205 := n2_; have HR211 := n3_; have HB := n4_; clear n0_ n1_ n2_ n3_ n4_; (try clear hb); (try clear hb2); (try clear hk); (try clear hi)) | (go_at_call 12; (with_reducible refine (history_Before.calls k _ _ y196 1 2 false _ ?side1 ?side2 A19.out).mono ?_); (case side1 => repeat (first | exact (Kd.R_reads' HO198.out).2.2 | (with_reducible refine Kd.C_alloc ?_ _) | (with_reducible refine Kd.C_drewN ?_ _) | (with_reducible refine Kd.C_drew ?_))); (case side2 => exact (Kd.R_reads' HO198.out).2.1); rintro e w51 ⟨rfl, hb⟩; have n0_ := Aside0.mk (Kd.R_below (by (with_reducible repeat (first | apply Kd.R_alloc | apply Kd.R_drewN | apply Kd.R_drew)); exact HO198.out) hb); have n1_ := Aside0.mk (Kd.R_below (by (with_reducible repeat (first | apply Kd.R_alloc | apply Kd.R_drewN | apply Kd.R_drew)); exact HO201.out) hb); have n2_ := Aside0.mk (Kd.R_below (by (with_reducible repeat (first | apply Kd.R_alloc | apply Kd.R_drewN | apply Kd.R_drew)); exact HO205.out) hb); have n3_ := Aside0.mk (Kd.C_below (by repeat (first | (with_reducible exact HR211.out) | (with_reducible refine Kd.C_alloc ?_ _) | (with_reducible refine Kd.C_drewN ?_ _) | (with_reducible refine Kd.C_drew ?_) | exact HR211.out)) hb); have n4_ := Aside0.mk (below_step (by repeat (first | (with_reducible first | exact HB.out | apply below_alloc | apply pw_below_drewN | apply below_drew1) | exact HB.out)) hb); clear HO198; clear HO201; clear HO205; clear HR211; clear HB; have HO198 := n0_; have HO201 := n1_; have HO205 := n2_; have HR211 := n3_; have HB := n4_; clear n0_ n1_ n2_ n3_ n4_; (try clear hb); (try clear hb2); (try clear hk); (try clear hi)))
         go_meet
         case rel => exact ⟨_, (false), (by first | rfl | (simp; done) | (simp only [emptyNe_, emptyEq_]; done) | (simp [*]; done)), H', ⟨by first | omega | exact Nat.le_refl _⟩, ⟨by repeat (first | (with_reducible first | exact HB.out | apply below_alloc | apply pw_below_drewN | apply below_drew1) | exact HB.out)⟩⟩
       ·replace c18 := Bool.eq_false_iff.mpr c18
        subst c18
        have H1 : (logjamlaw38_lives.j0 k false) = some r := by rw [if_neg (show ¬ (false = true) by decide)] at H; exact H
        clear H
        have H := H1
        clear H1
        have H' := Aside0.mk H
        clear H
        obtain ⟨Ao52, co52, eo52⟩ := Kd.R_slice HO201.out
        subst eo52
        have p206 : 0 ≤ (1 : Int) := (by omega)
        have q206 : 1 < (t199.length : Int) := of_decide_eq_true (by first | (with_reducible assumption) | assumption)
        obtain ⟨ad206, e206, hx206_0, hx206_1, hx206_2, hx206_3⟩ := at_T31 (Kd.R_reads' HO201.out).2.2 1 p206 q206
        cases e206
        (try simp only [show (1 : Int).toNat = 1 from rfl, Nat.reduceMul, Nat.reduceEqDiff, Go.Addr.add, ↓reduceIte] at hx206_0)
        (try simp only [show (1 : Int).toNat = 1 from rfl, Nat.reduceMul, Nat.reduceEqDiff, Go.Addr.add, ↓reduceIte] at hx206_1)
        (try simp only [show (1 : Int).toNat = 1 from rfl, Nat.reduceMul, Nat.reduceEqDiff, Go.Addr.add, ↓reduceIte] at hx206_2)
        (try simp only [show (1 : Int).toNat = 1 from rfl, Nat.reduceMul, Nat.reduceEqDiff, Go.Addr.add, ↓reduceIte] at hx206_3)
        have qi206 : (1 < t199.length) = True := eq_true (by omega)
        (try rw [show ((1 : Int)).toNat = 1 from rfl] at hx206_0)
        (try rw [show 1 * 4 = 4 from rfl] at hx206_0)
        (try rw [show ((1 : Int)).toNat = 1 from rfl] at hx206_1)
        (try rw [show 1 * 4 = 4 from rfl] at hx206_1)
        (try rw [show ((1 : Int)).toNat = 1 from rfl] at hx206_2)
        (try rw [show 1 * 4 = 4 from rfl] at hx206_2)
        (try rw [show ((1 : Int)).toNat = 1 from rfl] at hx206_3)
        (try rw [show 1 * 4 = 4 from rfl] at hx206_3)
        replace p206 := eq_true p206
        replace q206 := eq_true q206
        go_wp2_with (first | (go_at_call 14; (with_reducible refine (o_Strict.calls _ _ y196 false _ ?side1 ?side2 A12.out).mono ?_); (case side1 => repeat (first | exact (Kd.R_reads' HO198.out).2.2 | (with_reducible refine Kd.C_alloc ?_ _) | (with_reducible refine Kd.C_drewN ?_ _) | (with_reducible refine Kd.C_drew ?_))); (case side2 => exact (Kd.R_reads' HO198.out).2.1); rintro e w53 ⟨rfl, hb⟩; have n0_ := Aside0.mk (Kd.R_below (by (with_reducible repeat (first | apply Kd.R_alloc | apply Kd.R_drewN | apply Kd.R_drew)); exact HO198.out) hb); have n1_ := Aside0.mk (Kd.R_below (by (with_reducible repeat (first | apply Kd.R_alloc | apply Kd.R_drewN | apply Kd.R_drew)); exact HO201.out) hb); have n2_ := Aside0.mk (Kd.R_below (by (with_reducible repeat (first | apply Kd.R_alloc | apply Kd.R_drewN | apply Kd.R_drew)); exact HO205.out) hb); have n3_ := Aside0.mk (below_step (by repeat (first | (with_reducible first | exact HB.out | apply below_alloc | apply pw_below_drewN | apply below_drew1) | exact HB.out)) hb); clear HO198; clear HO201; clear HO205; clear HB; have HO198 := n0_; have HO201 := n1_; have HO205 := n2_; have HB := n3_; clear n0_ n1_ n2_ n3_; (try clear hb); (try clear hb2); (try clear hk); (try clear hi); have q54 : (1 : Int) ≤ ((y196.length : Int) : Int) := of_decide_eq_true (by first | (with_reducible assumption) | assumption); obtain ⟨i054, hi054, _, hsz54, _⟩ := info_parts info29; have hroom54 : y196.length ≤ co6 := (Kd.R_reads' HO198.out).2.1; have hC54 : Kd.C k29 _ Ao6 y196.length y196 := (Kd.R_reads' HO198.out).2.2; have hcut54 := cut_to (P := Try.prog) 22 29 .i64 Try.underlying22 hi054 Ao6 y196.length co6 1 (by omega) q54 hroom54; have hr54 := Kd.C_take (m := 1) hC54 (by omega); have hy54 : y208.length = (1 : Int).toNat := (by rw [Ny208.out, List.length_take]; omega); rw [← Ny208.out] at hr54; rw [← hy54] at hcut54; have HR211 := Aside0.mk hr54; have HC211 := Aside0.mk (show y208.length ≤ co6 from by omega); clear hr54 hC54 hroom54 hi054 hsz54; have KY54 := Aside0.mk hy54; clear hy54; have KL54 := Aside0.mk (show 1 ≤ y196.length from by omega); replace q54 := eq_true q54) | (go_at_call 14; (with_reducible refine (o_Strict.calls _ _ y208 false _ ?side1 ?side2 A17.out).mono ?_); (case side1 => repeat (first | exact (by repeat (first | (with_reducible exact HR211.out) | (with_reducible refine Kd.C_alloc ?_ _) | (with_reducible refine Kd.C_drewN ?_ _) | (with_reducible refine Kd.C_drew ?_) | exact HR211.out)) | (with_reducible refine Kd.C_alloc ?_ _) | (with_reducible refine Kd.C_drewN ?_ _) | (with_reducible refine Kd.C_drew ?_))); (case side2 => exact HC211.out); rintro e w55 ⟨rfl, hb⟩; have n0_ := Aside0.mk (Kd.R_below (by (with_reducible repeat (first | apply Kd.R_alloc | apply Kd.R_drewN | apply Kd.R_drew)); exact HO198.out) hb); have n1_ := Aside0.mk (Kd.R_below (by (with_reducible repeat (first | apply Kd.R_alloc | apply Kd.R_drewN | apply Kd.R_drew)); exact HO201.out) hb); have n2_ := Aside0.mk (Kd.R_below (by (with_reducible repeat (first | apply Kd.R_alloc | apply Kd.R_drewN | apply Kd.R_drew)); exact HO205.out) hb); have n3_ := Aside0.mk (Kd.C_below (by repeat (first | (with_reducible exact HR211.out) | (with_reducible refine Kd.C_alloc ?_ _) | (with_reducible refine Kd.C_drewN ?_ _) | (with_reducible refine Kd.C_drew ?_) | exact HR211.out)) hb); have n4_ := Aside0.mk (below_step (by repeat (first | (with_reducible first | exact HB.out | apply below_alloc | apply pw_below_drewN | apply below_drew1) | exact HB.out)) hb); clear HO198; clear HO201; clear HO205; clear HR211; clear HB; have HO198 := n0_; have HO201 := n1_; have HO205 := n2_; have HR211 := n3_; have HB := n4_; clear n0_ n1_ n2_ n3_ n4_; (try clear hb); (try clear hb2); (try clear hk); (try clear hi)))
        go_meet
        case rel => exact ⟨_, (false), (by first | rfl | (simp; done) | (simp only [emptyNe_, emptyEq_]; done) | (simp [*]; done)), H', ⟨by first | omega | exact Nat.le_refl _⟩, ⟨by repeat (first | (with_reducible first | exact HB.out | apply below_alloc | apply pw_below_drewN | apply below_drew1) | exact HB.out)⟩⟩
      ·rw [if_neg c16] at H
       exact absurd H (by simp)
    ·rw [if_neg c11] at H
     have c11b0 : (((rd_T31 t199 1).f0) == 2 && (((rd_T31 t199 1).f1) == 1 && (((rd_T31 t199 1).f2) == 3 && (((rd_T31 t199 1).f3) == 3)))) = false := by simpa using c11
     (try (have c11b1 : decide (((rd_T31 t199 1).f0) = 2 && (((rd_T31 t199 1).f1) == 1 && (((rd_T31 t199 1).f2) == 3 && (((rd_T31 t199 1).f3) == 3)))) = false := by simpa using c11))
     (try (have c11b2 : (((rd_T31 t199 1).f0) == 2 && (((rd_T31 t199 1).f1) == 1 && (((rd_T31 t199 1).f2) == 3 && (((rd_T31 t199 1).f3) == 3)))) = false := by simpa using c11))
     (try (have c11b3 : ¬ (((rd_T31 t199 1).f0) = 2 && (((rd_T31 t199 1).f1) == 1 && (((rd_T31 t199 1).f2) == 3 && (((rd_T31 t199 1).f3) == 3)))) := by simpa using c11))
     clear c11
     have H' := Aside0.mk H
     clear H
     obtain ⟨Ao56, co56, eo56⟩ := Kd.R_slice HO201.out
     subst eo56
     have p206 : 0 ≤ (1 : Int) := (by omega)
     have q206 : 1 < (t199.length : Int) := of_decide_eq_true (by first | (with_reducible assumption) | assumption)
     obtain ⟨ad206, e206, hx206_0, hx206_1, hx206_2, hx206_3⟩ := at_T31 (Kd.R_reads' HO201.out).2.2 1 p206 q206
     cases e206
     (try simp only [show (1 : Int).toNat = 1 from rfl, Nat.reduceMul, Nat.reduceEqDiff, Go.Addr.add, ↓reduceIte] at hx206_0)
     (try simp only [show (1 : Int).toNat = 1 from rfl, Nat.reduceMul, Nat.reduceEqDiff, Go.Addr.add, ↓reduceIte] at hx206_1)
     (try simp only [show (1 : Int).toNat = 1 from rfl, Nat.reduceMul, Nat.reduceEqDiff, Go.Addr.add, ↓reduceIte] at hx206_2)
     (try simp only [show (1 : Int).toNat = 1 from rfl, Nat.reduceMul, Nat.reduceEqDiff, Go.Addr.add, ↓reduceIte] at hx206_3)
     have qi206 : (1 < t199.length) = True := eq_true (by omega)
     (try rw [show ((1 : Int)).toNat = 1 from rfl] at hx206_0)
     (try rw [show 1 * 4 = 4 from rfl] at hx206_0)
     (try rw [show ((1 : Int)).toNat = 1 from rfl] at hx206_1)
     (try rw [show 1 * 4 = 4 from rfl] at hx206_1)
     (try rw [show ((1 : Int)).toNat = 1 from rfl] at hx206_2)
     (try rw [show 1 * 4 = 4 from rfl] at hx206_2)
     (try rw [show ((1 : Int)).toNat = 1 from rfl] at hx206_3)
     (try rw [show 1 * 4 = 4 from rfl] at hx206_3)
     replace p206 := eq_true p206
     replace q206 := eq_true q206
     go_wp2
     go_meet
     case rel => exact ⟨_, (false), (by first | rfl | (simp; done) | (simp only [emptyNe_, emptyEq_]; done) | (simp [*]; done)), H', ⟨by first | omega | exact Nat.le_refl _⟩, ⟨by repeat (first | (with_reducible first | exact HB.out | apply below_alloc | apply pw_below_drewN | apply below_drew1) | exact HB.out)⟩⟩
   ·rw [if_neg c10] at H
    exact absurd H (by simp)
  ·rw [if_neg c9] at H
   have c9b0 : ((t199.length : Int) == 2) = false := beq_eq_false_iff_ne.mpr c9
   have c9b1 : ((t199.length : Int) != 2) = true := bne_iff_ne.mpr c9
   (first | rw [c9b0] | (simp only [i64_w, i32_w]; rw [c9b0]) | skip)
   have H' := Aside0.mk H
   clear H
   obtain ⟨Ao57, co57, eo57⟩ := Kd.R_slice HO201.out
   subst eo57
   go_wp2
   go_meet
   case rel => exact ⟨_, (false), (by first | rfl | (simp; done) | (simp only [emptyNe_, emptyEq_]; done) | (simp [*]; done)), H', ⟨by first | omega | exact Nat.le_refl _⟩, ⟨by repeat (first | (with_reducible first | exact HB.out | apply below_alloc | apply pw_below_drewN | apply below_drew1) | exact HB.out)⟩⟩
 case rest =>
  clear HC3; try clear c1; try clear c2; try clear p2; try clear q2; try clear hx2; try clear qi2; try clear q3; try clear q4; try clear c5; try clear q5; try clear c7; try clear c9; try clear c9b0; try clear c9b1; try clear c10; try clear c10b0; try clear c10b1; try clear c11; try clear c11b0; try clear c11b1; try clear c11b2; try clear c13; try clear c16; try clear c16b0; try clear c16b1; try clear c18; try clear c20; try clear p20; try clear q20; try clear hx20; try clear qi20; try clear c22; try clear q25; try clear c29; try clear q33; try clear q43; try clear q49; try clear q54; try clear hx206_0; try clear hx206_1; try clear hx206_2; try clear hx206_3; try clear p206; try clear q206; try clear q25; try clear q33; try clear q43; try clear q49; try clear q54
  obtain ⟨kq, x0_2, rfl, HA, HJ2, HB⟩ := hcut
  cases kq with
  | zero => exact absurd HA.out (by simp [logjamlaw38_lives.j0])
  | succ kj2 =>
   have H := HA.out
   clear HA
   simp only [logjamlaw38_lives.j0] at H
   obtain rfl := Option.some.inj H
   go_wp2
   go_ret
   exact ⟨by first | rfl | (simp [errW_none, errW_some] <;> rfl) | (simp [*, errW_none, errW_some] <;> rfl), by repeat (first | (with_reducible first | exact HB.out | apply below_alloc | apply pw_below_drewN | apply below_drew1) | exact HB.out)⟩
end Go.Proofs.Ytadepdeckapgcaa.PHi
end

section
namespace Go.Proofs.Ytadepdeckapgcaa.Hi
open Go.RowKit Go.Proofs.YtadepdeckapgcaaW.PrintWords Go.Proofs.YtadepdeckapgcaaW.PrintLast Go.Proofs.YtadepdeckapgcaaW.PrintMore Go.Proofs.Ytadepdeckapgcaa.PHi Go.Proofs.Ytadepdeckapgcaa.Orc
set_option linter.unusedVariables false
set_option linter.unusedSimpArgs false
theorem ev_ints (a : List Int) (ha : a.length ≤ MX) : Ev (fun k => logjamlaw30_Ints.f k a a) true := by
  have hl : ∀ (d i : Nat), i + d = a.length → Ev (fun k => logjamlaw30_Ints.l0 k a a (i : Int)) true := by
    intro d
    induction d with
    | zero => intro i hi; exact Ev.step1 (fun k => by simp only [logjamlaw30_Ints.l0]; rw [if_neg (by omega)])
    | succ d ih =>
      intro i hi
      have hw := Lib.hid (wrap_succ i a.length (by omega) ha)
      exact Ev.step (f := fun k => logjamlaw30_Ints.l0 k a a ((i + 1 : Nat) : Int)) (fun k => by simp only [logjamlaw30_Ints.l0]; rw [if_pos (by omega), if_pos (by omega), if_pos (by omega), if_pos trivial, hw.out]) (ih (i + 1) (by omega))
  exact Ev.congr (f := fun k => logjamlaw30_Ints.l0 k a a ((0 : Nat) : Int)) (fun k => by simp only [logjamlaw30_Ints.f]; rw [if_pos trivial]; rfl) (hl a.length 0 (Nat.zero_add _))
def lvM : List Mk := [⟨2, 0, 1, 3, 4⟩, ⟨1, 1, 2, 3, 4⟩, ⟨3, 0, 1, 0, 0⟩, ⟨3, 1, 2, 0, 0⟩]
theorem lv_ok : okM lvM = true := by decide
theorem lv_ends : endsG lvM 0 [] = [⟨1, 0, 3, 2⟩, ⟨2, 1, 3, 3⟩] := rfl
theorem lv_com : committedG lvM = [1, 2] := by
  unfold committedG
  rw [lv_ends]
  show srt [1, 2] = [1, 2]
  unfold srt
  exact List.mergeSort_of_pairwise (by decide)
theorem lv_serial : serialG lvM = ([1, 2], true) := by
  rw [serial_page, lv_ends]
  decide
theorem ev_lives : Ev (fun k => logjamlaw38_lives.f k) true := by
  have e1 : o_Ends.f lvM = some [⟨1, 0, 3, 2⟩, ⟨2, 1, 3, 3⟩] := by unfold o_Ends.f; rw [if_pos lv_ok, lv_ends]
  have e2 : o_Serial.f lvM = some ([1, 2], true) := by unfold o_Serial.f; rw [if_pos lv_ok, lv_serial]
  have e3 : o_Strict.f lvM = some false := by unfold o_Strict.f; rw [if_pos lv_ok, strict_eq]; decide
  have e4 : o_Strict.f (lvM.take 1) = some true := by unfold o_Strict.f; rw [if_pos (by decide), strict_eq]; decide
  have b1 : befG lvM 1 2 = true := by unfold befG; rw [lv_com]; decide
  have b2 : befG lvM 2 1 = false := by unfold befG; rw [lv_com]; decide
  have h1 := ev_before lvM 1 2 lv_ok
  have h2 := ev_before lvM 2 1 lv_ok
  rw [b1] at h1; rw [b2] at h2
  refine Ev.congr (f := fun k => (history_Before.f k lvM 1 2).bind fun t213 => (if t213 = true then ((history_Before.f k lvM 2 1).bind fun t214 => (if t214 = true then (logjamlaw38_lives.j0 k false) else ((logjamlaw30_Ints.f k [1, 2] [1, 2]).bind fun t218 => (logjamlaw38_lives.j0 k t218)))) else (logjamlaw38_lives.j0 k false))) (fun k => ?_) ?_
  · show (some lvM).bind _ = _
    simp only [Option.bind_some, e1, e2, e3]
    rw [if_pos (by decide), if_pos (by decide), if_pos (by decide), if_neg (by decide), if_pos (by decide), e4]
    simp only [Option.bind_some]
    rw [if_pos trivial]
    congr 1
  · refine Ev.bind h1 (Ev.congr (f := fun k => (history_Before.f k lvM 2 1).bind fun t214 => (if t214 = true then (logjamlaw38_lives.j0 k false) else ((logjamlaw30_Ints.f k [1, 2] [1, 2]).bind fun t218 => (logjamlaw38_lives.j0 k t218)))) (fun k => if_pos rfl) ?_)
    refine Ev.bind h2 (Ev.congr (f := fun k => (logjamlaw30_Ints.f k [1, 2] [1, 2]).bind fun t218 => (logjamlaw38_lives.j0 k t218)) (fun k => if_neg (by simp)) ?_)
    exact Ev.bind (ev_ints [1, 2] (by unfold MX; decide)) (Ev.step1 (fun k => rfl))
end Go.Proofs.Ytadepdeckapgcaa.Hi
end

section
namespace Go.Proofs.Ytadepdeckapgcaa.Hi
open Go.RowKit Go.Proofs.YtadepdeckapgcaaW.PrintWords Go.Proofs.Ytadepdeckapgcaa.PHi Go.Proofs.Ytadepdeckapgcaa
set_option linter.unusedVariables false
set_option linter.unusedSimpArgs false
theorem C_of_shape {α β : Type} {S : Sh α} {d : Kd β} (f : α → β) (hsz : d.sz = S.n) {w : World} (hK : ∀ a cs, S.rd w w.heap.size a cs → d.K w (f a) cs) {l : List α} {v : Value} (h : (shL S).rd w w.heap.size l [v]) :
    ∃ A c, v = .slice A (l.map f).length c ∧ Kd.C d w A (l.map f).length (l.map f) ∧ (l.map f).length ≤ c := by
  rcases h with ⟨rfl, a, h⟩ | ⟨b, o, cap, hb, hl, hm, h, hi⟩
  · simp at h; exact ⟨a, 0, h, ⟨rfl, Nat.zero_le _, fun q => absurd q (by simp)⟩, Nat.le_refl _⟩
  · simp at h
    unfold maxLen at hm
    refine ⟨some ⟨b, o, none⟩, cap, by rw [h, List.length_map], ⟨rfl, by rw [List.length_map]; omega, fun _ => ⟨⟨b, o, none⟩, rfl, fun j q hj => ?_⟩⟩, by rw [List.length_map]; exact hl⟩
    rw [List.getElem?_map] at hj
    obtain ⟨x, hx, rfl⟩ := Option.map_eq_some_iff.1 hj
    obtain ⟨hjl, rfl⟩ := List.getElem?_eq_some_iff.1 hx
    obtain ⟨ci, hr, hcl, hcell⟩ := hi j hjl
    refine ⟨ci, hcl.trans hsz.symm, hK _ _ hr, fun i u hu => ?_⟩
    obtain ⟨hil, _⟩ := List.getElem?_eq_some_iff.1 hu
    rw [addr_add, hsz, ← Nat.add_assoc, hcell i (by omega)]
    exact hu
theorem all_of_shape {α : Type} {S : Sh α} {w : World} {p : α → Prop} (hp : ∀ a cs, S.rd w w.heap.size a cs → p a) {l : List α} {cs : List Value} (h : (shL S).rd w w.heap.size l cs) : ∀ a ∈ l, p a := by
  rcases h with ⟨rfl, _⟩ | ⟨b, o, cap, _, _, _, _, hi⟩
  · simp
  · intro a ha
    obtain ⟨i, hi', rfl⟩ := List.getElem_of_mem ha
    obtain ⟨ci, hr, _⟩ := hi i hi'
    exact hp _ _ hr
abbrev shM : Sh (Int × Int × Int × Int × Int) := shP shInt (shP shInt (shP shInt (shP shInt shInt)))
def toMk (x : Int × Int × Int × Int × Int) : Mk := ⟨x.1, x.2.1, x.2.2.1, x.2.2.2.1, x.2.2.2.2⟩
theorem mark_of {w : World} (a : Int × Int × Int × Int × Int) (cs : List Value) (h : shM.rd w w.heap.size a cs) : k29.K w (toMk a) cs := by
  obtain ⟨c1, c2, rfl, _, ⟨rfl, _⟩, ⟨c3, c4, rfl, _, ⟨rfl, _⟩, ⟨c5, c6, rfl, _, ⟨rfl, _⟩, ⟨c7, c8, rfl, _, ⟨rfl, _⟩, ⟨rfl, _⟩⟩⟩⟩⟩ := h
  exact k29_mk w (toMk a)
theorem mark_in {w : World} (a : Int × Int × Int × Int × Int) (cs : List Value) (h : shM.rd w w.heap.size a cs) : inM (toMk a) := by
  obtain ⟨c1, c2, rfl, _, ⟨rfl, h1⟩, ⟨c3, c4, rfl, _, ⟨rfl, h2⟩, ⟨c5, c6, rfl, _, ⟨rfl, h3⟩, ⟨c7, c8, rfl, _, ⟨rfl, h4⟩, ⟨rfl, h5⟩⟩⟩⟩⟩ := h
  exact ⟨h1, h2, h3, h4, h5⟩
theorem marks_in {w : World} {l : List (Int × Int × Int × Int × Int)} {v : Value} (h : (shL shM).rd w w.heap.size l [v]) : ∀ m ∈ l.map toMk, inM m := by
  have := all_of_shape (S := shM) (p := fun a => inM (toMk a)) mark_in h
  intro m hm
  obtain ⟨a, ha, rfl⟩ := List.mem_map.1 hm
  exact this a ha
end Go.Proofs.Ytadepdeckapgcaa.Hi
end

section
namespace Go.Proofs.Ytadepdeckapgcaa.PHj
open Go.RowKit Go.Proofs.YtadepdeckapgcaaW.PrintWords Go.Proofs.YtadepdeckapgcaaW.PrintLast Go.Proofs.YtadepdeckapgcaaW.PrintMore
attribute [local go_sem] max2_int min2_int max_two min_two max_three min_three max_four min_four
set_option linter.unusedVariables false
set_option linter.unusedSimpArgs false
def errW : Option Int → Value
 | none => .nilIface
 | some c => .iface 0 (.int .i64 c)
theorem errW_none : errW none = .nilIface := rfl
theorem errW_some (c : Int) : errW (some c) = .iface 0 (.int .i64 c) := rfl
theorem info76 : (Try.prog.info? 76).map (fun i => (i.zero, i.size, i.bytes)) = some (some (.agg #[(.int .i64 0), (.int .i64 0)]), 2, 16) := by kernel_rfl
structure S86 where
 f0 : Int
 f1 : Int
 f2 : Int
def z86 : S86 := ⟨(0 : Int), (0 : Int), (0 : Int)⟩
def k86 : Kd S86 := Kd.iso (Kd.pair (Kd.int .i64) (Kd.pair (Kd.int .i64) (Kd.int .i64))) (fun x : S86 => (x.f0, x.f1, x.f2))
theorem k86_open {w : World} {x : S86} {cs : List Value} (h : k86.K w x cs) : cs = [.int .i64 x.f0, .int .i64 x.f1, .int .i64 x.f2] := by
 obtain ⟨_, _, rfl, rfl, ⟨_, _, rfl, rfl, rfl⟩⟩ := h
 exact rfl
theorem k86_mk (w : World) (x : S86)  : k86.K w x [.int .i64 x.f0, .int .i64 x.f1, .int .i64 x.f2] := ⟨[.int .i64 x.f0], [.int .i64 x.f1, .int .i64 x.f2], rfl, rfl, ⟨[.int .i64 x.f1], [.int .i64 x.f2], rfl, rfl, rfl⟩⟩
theorem k86_mkM (w : World) (base : Nat) (ok : Nat → Prop) (x : S86)  : k86.M w base ok x [.int .i64 x.f0, .int .i64 x.f1, .int .i64 x.f2] := ⟨[.int .i64 x.f0], [.int .i64 x.f1, .int .i64 x.f2], rfl, rfl, ⟨[.int .i64 x.f1], [.int .i64 x.f2], rfl, rfl, rfl⟩⟩
def rd_T86 (xs : List S86) (i : Int) : S86 := xs.getD i.toNat z86
theorem at_T86 {w : World} {A : Option Addr} {n : Nat} {xs : List S86} (h : Kd.C k86 w A n xs) (i : Int) (h0 : 0 ≤ i) (h1 : i < n) : ∃ ad , A = some ad ∧ w.cell? (ad.add (i.toNat * 3)) = some (.int .i64 (rd_T86 xs i).f0) ∧ w.cell? ⟨(ad.add (i.toNat * 3)).block, (ad.add (i.toNat * 3)).off + 1, none⟩ = some (.int .i64 (rd_T86 xs i).f1) ∧ w.cell? ⟨(ad.add (i.toNat * 3)).block, (ad.add (i.toNat * 3)).off + 2, none⟩ = some (.int .i64 (rd_T86 xs i).f2) := by
 obtain ⟨ad, c, e, _, hK, hc0⟩ := Kd.C_get h z86 i h0 h1
 have hc : ∀ j u, c[j]? = some u → w.cell? (ad.add (i.toNat * 3 + j)) = some u := hc0
 obtain rfl := k86_open hK
 exact ⟨ad, e, hc 0 _ rfl, by rw [← add_field _ _ 1 (by omega)]; exact hc 1 _ rfl, by rw [← add_field _ _ 2 (by omega)]; exact hc 2 _ rfl⟩
structure S76 where
 f0 : Int
 f1 : Int
def z76 : S76 := ⟨(0 : Int), (0 : Int)⟩
def k76 : Kd S76 := Kd.iso (Kd.pair (Kd.int .i64) (Kd.int .i64)) (fun x : S76 => (x.f0, x.f1))
theorem k76_open {w : World} {x : S76} {cs : List Value} (h : k76.K w x cs) : cs = [.int .i64 x.f0, .int .i64 x.f1] := by
 obtain ⟨_, _, rfl, rfl, rfl⟩ := h
 exact rfl
theorem k76_openM {w : World} {base : Nat} {ok : Nat → Prop} {x : S76} {cs : List Value} (h : k76.M w base ok x cs) : cs = [.int .i64 x.f0, .int .i64 x.f1] := by
 obtain ⟨_, _, rfl, rfl, rfl⟩ := h
 exact rfl
theorem k76_mkM (w : World) (base : Nat) (ok : Nat → Prop) (x : S76)  : k76.M w base ok x [.int .i64 x.f0, .int .i64 x.f1] := ⟨[.int .i64 x.f0], [.int .i64 x.f1], rfl, rfl, rfl⟩
def rd_T76 (xs : List S76) (i : Int) : S76 := xs.getD i.toNat z76
theorem at_T76 {w : World} {A : Option Addr} {n : Nat} {xs : List S76} (h : Kd.C k76 w A n xs) (i : Int) (h0 : 0 ≤ i) (h1 : i < n) : ∃ ad , A = some ad ∧ w.cell? (ad.add (i.toNat * 2)) = some (.int .i64 (rd_T76 xs i).f0) ∧ w.cell? ⟨(ad.add (i.toNat * 2)).block, (ad.add (i.toNat * 2)).off + 1, none⟩ = some (.int .i64 (rd_T76 xs i).f1) := by
 obtain ⟨ad, c, e, _, hK, hc0⟩ := Kd.C_get h z76 i h0 h1
 have hc : ∀ j u, c[j]? = some u → w.cell? (ad.add (i.toNat * 2 + j)) = some u := hc0
 obtain rfl := k76_open hK
 exact ⟨ad, e, hc 0 _ rfl, by rw [← add_field _ _ 1 (by omega)]; exact hc 1 _ rfl⟩
end Go.Proofs.Ytadepdeckapgcaa.PHj
end

section
namespace Go.Proofs.Ytadepdeckapgcaa.PHj
open Go.RowKit Go.Proofs.YtadepdeckapgcaaW.PrintWords Go.Proofs.YtadepdeckapgcaaW.PrintLast Go.Proofs.YtadepdeckapgcaaW.PrintMore
attribute [local go_sem] max2_int min2_int max_two min_two max_three min_three max_four min_four
set_option linter.unusedVariables false
set_option linter.unusedSimpArgs false
theorem eqA76 (d : Nat) (w : World) (x0 y0 : Int) (x1 y1 : Int) :
  (Op.equalIn (d + 2) 76 (.agg #[.int .i64 x0, .int .i64 x1]) (.agg #[.int .i64 y0, .int .i64 y1])).run Try.prog w = .ok (x0 == y0 && (x1 == y1)) w := by
 refine eqA_of Try.underlying76 (by kernel_rfl) ?_
 refine eqf_cons (by rfl) (by go_simp; rfl) (by go_simp; rfl) (by go_simp) ?_
 exact eqf_last (by rfl) (by go_simp; rfl) (by go_simp; rfl) (by go_simp)
end Go.Proofs.Ytadepdeckapgcaa.PHj
end

section
namespace Go.Proofs.Ytadepdeckapgcaa.PHj
open Go.RowKit Go.Proofs.YtadepdeckapgcaaW.PrintWords Go.Proofs.YtadepdeckapgcaaW.PrintLast Go.Proofs.YtadepdeckapgcaaW.PrintMore
attribute [local go_sem] max2_int min2_int max_two min_two max_three min_three max_four min_four
set_option linter.unusedVariables false
set_option linter.unusedSimpArgs false
attribute [local go_sem high] eqA76
def word_Low.f (a0 : Int) : Option (Int) := some (wrap64 (wrap32 ((a0) % 4294967296)))
set_option maxHeartbeats 8000000 in
set_option maxRecDepth 100000 in
theorem word_Low.calls (a0 : Int) (r : Int) (w : World) (h : word_Low.f a0 = some r) :
  Calls Try.prog 51 #[.int .i64 a0] w fun e w' => e = .returned (.int .i64 r) ∧ Drawn0 w w' := by
 have H : (some (wrap64 (wrap32 ((a0) % 4294967296)))) = some r := h
 clear h
 obtain rfl := Option.some.inj H
 go_enter Try.func51, Try.ntmps51
 go_wp2
 go_ret
 exact ⟨by first | rfl | (simp; done) | (simp only [emptyNe_, emptyEq_]; done) | (simp [*]; done), by repeat (first | exact Drawn0.refl _ | apply Drawn0.step)⟩
def logjamref03_Low.f (a0 : Int) : Option (Int) := if (Int.tmod a0 4294967296) ≥ 2147483648 then (some (wrap64 ((Int.tmod a0 4294967296) - 4294967296))) else (if (Int.tmod a0 4294967296) < (-2147483648) then (some (wrap64 ((Int.tmod a0 4294967296) + 4294967296))) else (some (Int.tmod a0 4294967296)))
set_option maxHeartbeats 8000000 in
set_option maxRecDepth 100000 in
theorem logjamref03_Low.calls (a0 : Int) (r : Int) (w : World) (h : logjamref03_Low.f a0 = some r) :
  Calls Try.prog 56 #[.int .i64 a0] w fun e w' => e = .returned (.int .i64 r) ∧ Drawn0 w w' := by
 have H : (if (Int.tmod a0 4294967296) ≥ 2147483648 then (some (wrap64 ((Int.tmod a0 4294967296) - 4294967296))) else (if (Int.tmod a0 4294967296) < (-2147483648) then (some (wrap64 ((Int.tmod a0 4294967296) + 4294967296))) else (some (Int.tmod a0 4294967296)))) = some r := h
 clear h
 by_cases c2 : (Int.tmod a0 4294967296) ≥ 2147483648
 ·rw [if_pos c2] at H
  have c2b0 : decide (2147483648 ≤ (Int.tmod a0 4294967296)) = true := decide_eq_true c2
  clear c2
  obtain rfl := Option.some.inj H
  go_enter Try.func56, Try.ntmps56
  go_wp2
  go_ret
  exact ⟨by first | rfl | (simp; done) | (simp only [emptyNe_, emptyEq_]; done) | (simp [*]; done), by repeat (first | exact Drawn0.refl _ | apply Drawn0.step)⟩
 ·rw [if_neg c2] at H
  have c2b0 : decide (2147483648 ≤ (Int.tmod a0 4294967296)) = false := decide_eq_false c2
  clear c2
  by_cases c3 : (Int.tmod a0 4294967296) < (-2147483648)
  ·rw [if_pos c3] at H
   have c3b0 : decide ((Int.tmod a0 4294967296) < (-2147483648)) = true := decide_eq_true c3
   clear c3
   obtain rfl := Option.some.inj H
   go_enter Try.func56, Try.ntmps56
   go_wp2
   go_ret
   exact ⟨by first | rfl | (simp; done) | (simp only [emptyNe_, emptyEq_]; done) | (simp [*]; done), by repeat (first | exact Drawn0.refl _ | apply Drawn0.step)⟩
  ·rw [if_neg c3] at H
   have c3b0 : decide ((Int.tmod a0 4294967296) < (-2147483648)) = false := decide_eq_false c3
   clear c3
   obtain rfl := Option.some.inj H
   go_enter Try.func56, Try.ntmps56
   go_wp2
   go_ret
   exact ⟨by first | rfl | (simp; done) | (simp only [emptyNe_, emptyEq_]; done) | (simp [*]; done), by repeat (first | exact Drawn0.refl _ | apply Drawn0.step)⟩
def logjamref22_New.l0 : Nat → List (S86) → List (S76) → Int → Option ((List (S76)))
 | 0, _, _, _ => none
 | k + 1, x0, x3, x4 => if x4 < (x0.length : Int) then (if 0 ≤ x4 then (if ((rd_T86 x0 x4).f0) = 7 then ((logjamref03_Low.f ((rd_T86 x0 x4).f1)).bind fun t106 => (if x3.length < 8796093022208 then (logjamref22_New.l0 k x0 (x3 ++ [(⟨x4, t106⟩ : S76)]) (wrap64 (x4 + 1))) else (none))) else (logjamref22_New.l0 k x0 x3 (wrap64 (x4 + 1)))) else (none)) else (some x3)
def logjamref22_New.f (k : Nat) (l0 : List (S86)) : Option ((List (S76))) := logjamref22_New.l0 k l0 (([] : List (S76))) 0
set_option maxHeartbeats 8000000 in
set_option maxRecDepth 100000 in
theorem logjamref22_New.calls (k : Nat) (A0 : Option Addr) (c0 : Nat) (l0 : List (S86)) (r : List (S76)) (w : World) (hr0 : Kd.C k86 w A0 l0.length l0) (hc0 : l0.length ≤ c0) (h : logjamref22_New.f k l0 = some r) :
  Calls Try.prog 43 #[.slice A0 l0.length c0] w fun e w' => ∃ v0_ : Value, e = .returned (v0_) ∧ Kd.R k76 76 w' w.heap.size (fun _ => True) v0_ r ∧ Below w.heap.size w w' := by
 have hu76 := Try.underlying76
 have HR0 := Aside0.mk hr0
 have HC0 := Aside0.mk hc0
 clear hr0 hc0
 have HB := Aside0.mk (Below.refl w.heap.size w)
 have H : (logjamref22_New.l0 k l0 (([] : List (S76))) 0) = some r := h
 clear h
 obtain ⟨y101, hy101⟩ : ∃ y_ : List (S76), y_ = (([] : List (S76))) := ⟨_, rfl⟩
 replace H : (logjamref22_New.l0 k l0 y101 0) = some r := by first | (rw [hy101]; with_reducible exact H) | (have H2_ := (Option.bind_some _ _).symm.trans H; rw [hy101]; with_reducible exact H2_) | (have H2_ := (Option.bind_some _ _).symm.trans H; with_reducible exact H2_) | with_reducible exact H | (rw [hy101]; exact H) | exact H
 have Ny101 := Aside0.mk hy101
 clear hy101
 have H' := Aside0.mk H
 clear H
 go_enter Try.func43, Try.ntmps43
 go_wp2_with (first | ((with_reducible refine gate_dst (N := 5) rfl ?_); refine Kd.R_lit k76 _ 76 ?hg (N := 5) ?hd (xs := ([] : List (S76))) (inner := []) (ok := fun _ => True) (okp := fun _ => True) ?hr ?hp (fun _ hk => hk) trivial (Below.refl _ _) (Nat.le_refl _) (by simp) ?_; (case hd => rfl); (case hg => rfl); (case hr => first | (go_simp; done) | (go_simp; rfl)); (case hp => exact (Reps.none _ _)); intro v102 w2 ho3 hb hg_ hnew_; clear hg_ hnew_; (first | rw [← Ny101.out] at ho3 | (simp only [Int.reduceToNat] at ho3; rw [← Ny101.out] at ho3)); have n0_ := Aside0.mk (Kd.R_lower ho3 (below_size (by repeat (first | (with_reducible first | exact HB.out | apply below_alloc | apply pw_below_drewN | apply below_drew1) | exact HB.out)))); have n1_ := Aside0.mk (below_step (by repeat (first | (with_reducible first | exact HB.out | apply below_alloc | apply pw_below_drewN | apply below_drew1) | exact HB.out)) hb); clear HB; have HO103 := n0_; have HB := n1_; clear n0_ n1_; clear hb ho3))
 go_loopg [3, 4] k (fun kq v3 v4 w' => ∃ (x3_1 : List (S76)) (x4_1 : Int), v4 = .int .i64 x4_1 ∧ Aside0 (logjamref22_New.l0 kq l0 x3_1 x4_1 = some r) ∧ Aside0 (kq ≤ k) ∧ Aside0 (Kd.R k76 76 w' w.heap.size (fun _ => True) v3 x3_1) ∧ Aside0 (Below w.heap.size w w'))
 case atStart => exact ⟨(y101), (0), (by first | rfl | (simp; done) | (simp only [emptyNe_, emptyEq_]; done) | (simp [*]; done)), H', ⟨Nat.le_refl _⟩, ⟨by (with_reducible repeat (first | apply Kd.R_alloc | apply Kd.R_drewN | apply Kd.R_drew)); exact HO103.out⟩, ⟨by repeat (first | (with_reducible first | exact HB.out | apply below_alloc | apply pw_below_drewN | apply below_drew1) | exact HB.out)⟩⟩
 case round =>
  clear H'; try clear p2
  obtain ⟨x3_1, x4_1, rfl, HA, HK1, HO_3, HB⟩ := hrel
  cases gk with
  | zero => exact absurd HA.out (by simp [logjamref22_New.l0])
  | succ k1 =>
   have H := HA.out
   clear HA
   simp only [logjamref22_New.l0] at H
   by_cases c4 : x4_1 < (l0.length : Int)
   ·rw [if_pos c4] at H
    have c4b0 : decide (x4_1 < (l0.length : Int)) = true := decide_eq_true c4
    clear c4
    by_cases c5 : 0 ≤ x4_1
    ·rw [if_pos c5] at H
     have c5b0 : decide (0 ≤ x4_1) = true := decide_eq_true c5
     clear c5
     by_cases c6 : ((rd_T86 l0 x4_1).f0) = 7
     ·rw [if_pos c6] at H
      have c6b0 : (((rd_T86 l0 x4_1).f0) == 7) = true := beq_iff_eq.mpr c6
      have c6b1 : (((rd_T86 l0 x4_1).f0) != 7) = false := bne_eq_false_iff_eq.mpr c6
      clear c6
      replace H := Option.bind_eq_some_iff.mp H
      obtain ⟨t106, A70, H⟩ := H
      replace H : (if x3_1.length < 8796093022208 then (logjamref22_New.l0 k1 l0 (x3_1 ++ [(⟨x4_1, t106⟩ : S76)]) (wrap64 (x4_1 + 1))) else (none)) = some r := H
      have A7 := Aside0.mk A70
      clear A70
      by_cases c8 : x3_1.length < 8796093022208
      ·rw [if_pos c8] at H
       have LMc8 := Aside0.mk c8
       clear c8
       obtain ⟨y107, hy107⟩ : ∃ y_ : List (S76), y_ = (x3_1 ++ [(⟨x4_1, t106⟩ : S76)]) := ⟨_, rfl⟩
       replace H : (logjamref22_New.l0 k1 l0 y107 (wrap64 (x4_1 + 1))) = some r := by first | (rw [hy107]; with_reducible exact H) | (have H2_ := (Option.bind_some _ _).symm.trans H; rw [hy107]; with_reducible exact H2_) | (have H2_ := (Option.bind_some _ _).symm.trans H; with_reducible exact H2_) | with_reducible exact H | (rw [hy107]; exact H) | exact H
       have Ny107 := Aside0.mk hy107
       clear hy107
       have H' := Aside0.mk H
       clear H
       have p104 : 0 ≤ (x4_1 : Int) := of_decide_eq_true (by first | (with_reducible assumption) | assumption)
       have q104 : x4_1 < (l0.length : Int) := of_decide_eq_true (by first | (with_reducible assumption) | assumption)
       obtain ⟨ad104, e104, hx104_0, hx104_1, hx104_2⟩ := at_T86 HR0.out x4_1 p104 q104
       cases e104
       replace hx104_0 := (HB.out.cell (World.block_lt_of_cell? w _ hx104_0)).trans hx104_0
       replace hx104_1 := (HB.out.cell (World.block_lt_of_cell? w _ hx104_1)).trans hx104_1
       replace hx104_2 := (HB.out.cell (World.block_lt_of_cell? w _ hx104_2)).trans hx104_2
       replace p104 := eq_true p104
       replace q104 := eq_true q104
       have p105 : 0 ≤ (x4_1 : Int) := of_decide_eq_true (by first | (with_reducible assumption) | assumption)
       have q105 : x4_1 < (l0.length : Int) := of_decide_eq_true (by first | (with_reducible assumption) | assumption)
       obtain ⟨ad105, e105, hx105_0, hx105_1, hx105_2⟩ := at_T86 HR0.out x4_1 p105 q105
       obtain rfl : ad104 = ad105 := (by injection e105)
       replace hx105_0 := (HB.out.cell (World.block_lt_of_cell? w _ hx105_0)).trans hx105_0
       replace hx105_1 := (HB.out.cell (World.block_lt_of_cell? w _ hx105_1)).trans hx105_1
       replace hx105_2 := (HB.out.cell (World.block_lt_of_cell? w _ hx105_2)).trans hx105_2
       replace p105 := eq_true p105
       replace q105 := eq_true q105
       go_wp2_with (first | ((with_reducible refine gate_callee (f := 56) rfl ?_); refine goesL_ (some 25) rfl rfl Try.func56 (by kernel_rfl) rfl #[.int .i64 ((rd_T86 l0 x4_1).f1)] rfl (by (try simp only [List.map_toArray, List.map_cons, List.map_nil]); first | done | rfl | (simp only [List.length_drop, List.length_take]; rfl)) ?_; (with_reducible refine (logjamref03_Low.calls ((rd_T86 l0 x4_1).f1) t106 _ A7.out).mono ?_); rintro e w' ⟨rfl, ⟨nd, rfl⟩⟩; refine ⟨_, rfl, ?_⟩) | ((with_reducible refine gate_builtin (b := .append) (xs := #[.tmp 18, .tmp 27]) rfl ?_); at_builtin; refine Kd.R_append k76 (w0 := w) w.heap.size rfl (.tmp 18) (.tmp 27) 39 76 (.agg #[(.int .i64 0), (.int .i64 0)]) 16 rfl Try.underlying39 info76 rfl (by decide) (by omega) u3 x3_1 (⟨x4_1, t106⟩ : S76) [.int .i64 x4_1, .int .i64 t106] (fun _ => True) (fun _ => False) rfl rfl ?aP (fun _ hk => hk.elim) ?aF ?aO ?aB ?aS ?aL ?_; (case aP => exact k76_mkM _ _ _ (⟨x4_1, t106⟩ : S76)); (case aB => exact (by repeat (first | (with_reducible first | exact HB.out | apply below_alloc | apply pw_below_drewN | apply below_drew1) | exact HB.out))); (case aF => exact (fun _ _ => trivial)); (case aO => exact (by (with_reducible repeat (first | apply Kd.R_alloc | apply Kd.R_drewN | apply Kd.R_drew)); exact HO_3.out)); (case aS => exact (below_size (by repeat (first | (with_reducible first | exact HB.out | apply below_alloc | apply pw_below_drewN | apply below_drew1) | exact HB.out)))); (case aL => have := LMc8.out; omega); intro v108 w9 ho hb hg hat; rw [← Ny107.out] at ho; have n0_ := Aside0.mk (hb); have n1_ := Aside0.mk (ho); clear HB; clear HO_3; have HB := n0_; have HO109 := n1_; clear n0_ n1_; clear ho hb hg hat))
       go_roundg k1
       case measure => have := HK1.out; omega
       case rel => exact ⟨(y107), (wrap64 (x4_1 + 1)), (by first | rfl | (simp; done) | (simp only [emptyNe_, emptyEq_]; done) | (simp [*]; done)), H', ⟨by have := HK1.out; omega⟩, ⟨by (with_reducible repeat (first | apply Kd.R_alloc | apply Kd.R_drewN | apply Kd.R_drew)); exact HO109.out⟩, ⟨by repeat (first | (with_reducible first | exact HB.out | apply below_alloc | apply pw_below_drewN | apply below_drew1) | exact HB.out)⟩⟩
      ·rw [if_neg c8] at H
       exact absurd H (by simp)
     ·rw [if_neg c6] at H
      have c6b0 : (((rd_T86 l0 x4_1).f0) == 7) = false := beq_eq_false_iff_ne.mpr c6
      have c6b1 : (((rd_T86 l0 x4_1).f0) != 7) = true := bne_iff_ne.mpr c6
      have H' := Aside0.mk H
      clear H
      have p104 : 0 ≤ (x4_1 : Int) := of_decide_eq_true (by first | (with_reducible assumption) | assumption)
      have q104 : x4_1 < (l0.length : Int) := of_decide_eq_true (by first | (with_reducible assumption) | assumption)
      obtain ⟨ad104, e104, hx104_0, hx104_1, hx104_2⟩ := at_T86 HR0.out x4_1 p104 q104
      cases e104
      replace hx104_0 := (HB.out.cell (World.block_lt_of_cell? w _ hx104_0)).trans hx104_0
      replace hx104_1 := (HB.out.cell (World.block_lt_of_cell? w _ hx104_1)).trans hx104_1
      replace hx104_2 := (HB.out.cell (World.block_lt_of_cell? w _ hx104_2)).trans hx104_2
      replace p104 := eq_true p104
      replace q104 := eq_true q104
      go_wp2
      go_roundg k1
      case measure => have := HK1.out; omega
      case rel => exact ⟨(x3_1), (wrap64 (x4_1 + 1)), (by first | rfl | (simp; done) | (simp only [emptyNe_, emptyEq_]; done) | (simp [*]; done)), H', ⟨by have := HK1.out; omega⟩, ⟨by (with_reducible repeat (first | apply Kd.R_alloc | apply Kd.R_drewN | apply Kd.R_drew)); exact HO_3.out⟩, ⟨by repeat (first | (with_reducible first | exact HB.out | apply below_alloc | apply pw_below_drewN | apply below_drew1) | exact HB.out)⟩⟩
    ·rw [if_neg c5] at H
     exact absurd H (by simp)
   ·rw [if_neg c4] at H
    have c4b0 : decide (x4_1 < (l0.length : Int)) = false := decide_eq_false c4
    clear c4
    obtain rfl := Option.some.inj H
    go_wp2
    go_ret
    exact ⟨_, by first | rfl | (simp [errW_none, errW_some] <;> rfl) | (simp [*, errW_none, errW_some] <;> rfl), by (with_reducible repeat (first | apply Kd.R_alloc | apply Kd.R_drewN | apply Kd.R_drew)); exact HO_3.out, by repeat (first | (with_reducible first | exact HB.out | apply below_alloc | apply pw_below_drewN | apply below_drew1) | exact HB.out)⟩
def logjamref22_Find.l0 : Nat → List (S76) → Int → Int → Option (Int)
 | 0, _, _, _ => none
 | k + 1, x0, x1, x5 => if x5 < (x0.length : Int) then (if 0 ≤ x5 then (if ((rd_T76 x0 x5).f0) = x1 then (some x5) else (logjamref22_Find.l0 k x0 x1 (wrap64 (x5 + 1)))) else (none)) else (some (-1))
def logjamref22_Find.f (k : Nat) (l0 : List (S76)) (a1 : Int) : Option (Int) := logjamref22_Find.l0 k l0 a1 0
set_option maxHeartbeats 8000000 in
set_option maxRecDepth 100000 in
theorem logjamref22_Find.calls (k : Nat) (A0 : Option Addr) (c0 : Nat) (l0 : List (S76)) (a1 : Int) (r : Int) (w : World) (hr0 : Kd.C k76 w A0 l0.length l0) (hc0 : l0.length ≤ c0) (h : logjamref22_Find.f k l0 a1 = some r) :
  Calls Try.prog 47 #[.slice A0 l0.length c0, .int .i64 a1] w fun e w' => e = .returned (.int .i64 r) ∧ Drawn0 w w' := by
 have HR0 := Aside0.mk hr0
 have HC0 := Aside0.mk hc0
 clear hr0 hc0
 have H : (logjamref22_Find.l0 k l0 a1 0) = some r := h
 clear h
 have H' := Aside0.mk H
 clear H
 go_enter Try.func47, Try.ntmps47
 go_wp2
 go_loopg [5] k (fun kq v5 w' => ∃ (x5_1 : Int), v5 = .int .i64 x5_1 ∧ Aside0 (logjamref22_Find.l0 kq l0 a1 x5_1 = some r) ∧ Aside0 (kq ≤ k) ∧ Drawn0 w w')
 case atStart => exact ⟨(0), (by first | rfl | (simp; done) | (simp only [emptyNe_, emptyEq_]; done) | (simp [*]; done)), H', ⟨Nat.le_refl _⟩, by repeat (first | exact Drawn0.refl _ | apply Drawn0.step)⟩
 case round =>
  clear H'; try clear p2
  obtain ⟨x5_1, rfl, HA, HK1, ⟨m1, rfl⟩⟩ := hrel
  cases gk with
  | zero => exact absurd HA.out (by simp [logjamref22_Find.l0])
  | succ k1 =>
   have H := HA.out
   clear HA
   simp only [logjamref22_Find.l0] at H
   by_cases c3 : x5_1 < (l0.length : Int)
   ·rw [if_pos c3] at H
    have c3b0 : decide (x5_1 < (l0.length : Int)) = true := decide_eq_true c3
    clear c3
    by_cases c4 : 0 ≤ x5_1
    ·rw [if_pos c4] at H
     have c4b0 : decide (0 ≤ x5_1) = true := decide_eq_true c4
     clear c4
     by_cases c5 : ((rd_T76 l0 x5_1).f0) = a1
     ·rw [if_pos c5] at H
      have c5b0 : (((rd_T76 l0 x5_1).f0) == a1) = true := beq_iff_eq.mpr c5
      have c5b1 : (((rd_T76 l0 x5_1).f0) != a1) = false := bne_eq_false_iff_eq.mpr c5
      clear c5
      obtain rfl := Option.some.inj H
      have p110 : 0 ≤ (x5_1 : Int) := of_decide_eq_true (by first | (with_reducible assumption) | assumption)
      have q110 : x5_1 < (l0.length : Int) := of_decide_eq_true (by first | (with_reducible assumption) | assumption)
      obtain ⟨ad110, e110, hx110_0, hx110_1⟩ := at_T76 HR0.out x5_1 p110 q110
      cases e110
      replace p110 := eq_true p110
      replace q110 := eq_true q110
      go_wp2
      go_ret
      exact ⟨by first | rfl | (simp; done) | (simp only [emptyNe_, emptyEq_]; done) | (simp [*]; done), by repeat (first | exact Drawn0.refl _ | apply Drawn0.step)⟩
     ·rw [if_neg c5] at H
      have c5b0 : (((rd_T76 l0 x5_1).f0) == a1) = false := beq_eq_false_iff_ne.mpr c5
      have c5b1 : (((rd_T76 l0 x5_1).f0) != a1) = true := bne_iff_ne.mpr c5
      have H' := Aside0.mk H
      clear H
      have p110 : 0 ≤ (x5_1 : Int) := of_decide_eq_true (by first | (with_reducible assumption) | assumption)
      have q110 : x5_1 < (l0.length : Int) := of_decide_eq_true (by first | (with_reducible assumption) | assumption)
      obtain ⟨ad110, e110, hx110_0, hx110_1⟩ := at_T76 HR0.out x5_1 p110 q110
      cases e110
      replace p110 := eq_true p110
      replace q110 := eq_true q110
      go_wp2
      go_roundg k1
      case measure => have := HK1.out; omega
      case rel => exact ⟨(wrap64 (x5_1 + 1)), (by first | rfl | (simp; done) | (simp only [emptyNe_, emptyEq_]; done) | (simp [*]; done)), H', ⟨by have := HK1.out; omega⟩, by repeat (first | exact Drawn0.refl _ | apply Drawn0.step)⟩
    ·rw [if_neg c4] at H
     exact absurd H (by simp)
   ·rw [if_neg c3] at H
    have c3b0 : decide (x5_1 < (l0.length : Int)) = false := decide_eq_false c3
    clear c3
    obtain rfl := Option.some.inj H
    go_wp2
    go_ret
    exact ⟨by first | rfl | (simp; done) | (simp only [emptyNe_, emptyEq_]; done) | (simp [*]; done), by repeat (first | exact Drawn0.refl _ | apply Drawn0.step)⟩
def logjamref22_Set.f (k : Nat) (l0 : List (S76)) (a1 : Int) (a2 : Int) : Option ((List (S76))) := (some (([] : List (S76)) : List (S76))).bind fun y111 => (if y111.length + l0.length < 8796093022208 then ((some (y111 ++ l0 : List (S76))).bind fun y114 => ((logjamref22_Find.f k l0 a1).bind fun t117 => (if t117 ≥ 0 then ((logjamref03_Low.f a2).bind fun t118 => (if 0 ≤ t117 then (if t117 < (y114.length : Int) then (some (y114.set (t117 : Int).toNat (⟨(rd_T76 y114 t117).f0, t118⟩ : S76))) else (none)) else (none))) else (some y114)))) else (none))
set_option maxHeartbeats 8000000 in
set_option maxRecDepth 100000 in
theorem logjamref22_Set.calls (k : Nat) (A0 : Option Addr) (c0 : Nat) (l0 : List (S76)) (a1 : Int) (a2 : Int) (r : List (S76)) (w : World) (hr0 : Kd.C k76 w A0 l0.length l0) (hc0 : l0.length ≤ c0) (h : logjamref22_Set.f k l0 a1 a2 = some r) :
  Calls Try.prog 45 #[.slice A0 l0.length c0, .int .i64 a1, .int .i64 a2] w fun e w' => ∃ v0_ : Value, e = .returned (v0_) ∧ Kd.R k76 76 w' w.heap.size (fun _ => True) v0_ r ∧ Below w.heap.size w w' := by
 have HR0 := Aside0.mk hr0
 have HC0 := Aside0.mk hc0
 clear hr0 hc0
 have HB := Aside0.mk (Below.refl w.heap.size w)
 have H : ((some (([] : List (S76)) : List (S76))).bind fun y111 => (if y111.length + l0.length < 8796093022208 then ((some (y111 ++ l0 : List (S76))).bind fun y114 => ((logjamref22_Find.f k l0 a1).bind fun t117 => (if t117 ≥ 0 then ((logjamref03_Low.f a2).bind fun t118 => (if 0 ≤ t117 then (if t117 < (y114.length : Int) then (some (y114.set (t117 : Int).toNat (⟨(rd_T76 y114 t117).f0, t118⟩ : S76))) else (none)) else (none))) else (some y114)))) else (none))) = some r := h
 clear h
 obtain ⟨y111, hy111⟩ : ∃ y_ : List (S76), y_ = (([] : List (S76))) := ⟨_, rfl⟩
 replace H : (if y111.length + l0.length < 8796093022208 then ((some (y111 ++ l0 : List (S76))).bind fun y114 => ((logjamref22_Find.f k l0 a1).bind fun t117 => (if t117 ≥ 0 then ((logjamref03_Low.f a2).bind fun t118 => (if 0 ≤ t117 then (if t117 < (y114.length : Int) then (some (y114.set (t117 : Int).toNat (⟨(rd_T76 y114 t117).f0, t118⟩ : S76))) else (none)) else (none))) else (some y114)))) else (none)) = some r := by first | (rw [hy111]; with_reducible exact H) | (have H2_ := (Option.bind_some _ _).symm.trans H; rw [hy111]; with_reducible exact H2_) | (have H2_ := (Option.bind_some _ _).symm.trans H; with_reducible exact H2_) | with_reducible exact H | (rw [hy111]; exact H) | exact H
 have Ny111 := Aside0.mk hy111
 clear hy111
 by_cases c4 : y111.length + l0.length < 8796093022208
 ·rw [if_pos c4] at H
  have LMc4 := Aside0.mk c4
  clear c4
  obtain ⟨y114, hy114⟩ : ∃ y_ : List (S76), y_ = (y111 ++ l0) := ⟨_, rfl⟩
  replace H : ((logjamref22_Find.f k l0 a1).bind fun t117 => (if t117 ≥ 0 then ((logjamref03_Low.f a2).bind fun t118 => (if 0 ≤ t117 then (if t117 < (y114.length : Int) then (some (y114.set (t117 : Int).toNat (⟨(rd_T76 y114 t117).f0, t118⟩ : S76))) else (none)) else (none))) else (some y114))) = some r := by first | (rw [hy114]; with_reducible exact H) | (have H2_ := (Option.bind_some _ _).symm.trans H; rw [hy114]; with_reducible exact H2_) | (have H2_ := (Option.bind_some _ _).symm.trans H; with_reducible exact H2_) | with_reducible exact H | (rw [hy114]; exact H) | exact H
  have Ny114 := Aside0.mk hy114
  clear hy114
  replace H := Option.bind_eq_some_iff.mp H
  obtain ⟨t117, A50, H⟩ := H
  replace H : (if t117 ≥ 0 then ((logjamref03_Low.f a2).bind fun t118 => (if 0 ≤ t117 then (if t117 < (y114.length : Int) then (some (y114.set (t117 : Int).toNat (⟨(rd_T76 y114 t117).f0, t118⟩ : S76))) else (none)) else (none))) else (some y114)) = some r := H
  have A5 := Aside0.mk A50
  clear A50
  by_cases c6 : t117 ≥ 0
  ·rw [if_pos c6] at H
   have c6b0 : decide (0 ≤ t117) = true := decide_eq_true c6
   clear c6
   replace H := Option.bind_eq_some_iff.mp H
   obtain ⟨t118, A70, H⟩ := H
   replace H : (if 0 ≤ t117 then (if t117 < (y114.length : Int) then (some (y114.set (t117 : Int).toNat (⟨(rd_T76 y114 t117).f0, t118⟩ : S76))) else (none)) else (none)) = some r := H
   have A7 := Aside0.mk A70
   clear A70
   by_cases c8 : 0 ≤ t117
   ·rw [if_pos c8] at H
    have c8b0 : decide (0 ≤ t117) = true := decide_eq_true c8
    clear c8
    by_cases c9 : t117 < (y114.length : Int)
    ·rw [if_pos c9] at H
     have c9b0 : decide (t117 < (y114.length : Int)) = true := decide_eq_true c9
     clear c9
     obtain ⟨y119, hy119⟩ : ∃ y_ : List (S76), y_ = (y114.set (t117 : Int).toNat (⟨(rd_T76 y114 t117).f0, t118⟩ : S76)) := ⟨_, rfl⟩
     replace H : (some y119) = some r := by first | (rw [hy119]; with_reducible exact H) | (have H2_ := (Option.bind_some _ _).symm.trans H; rw [hy119]; with_reducible exact H2_) | (have H2_ := (Option.bind_some _ _).symm.trans H; with_reducible exact H2_) | with_reducible exact H | (rw [hy119]; exact H) | exact H
     have Ny119 := Aside0.mk hy119
     clear hy119
     obtain rfl := Option.some.inj H
     go_enter Try.func45, Try.ntmps45
     go_wp2_with (first | ((with_reducible refine gate_dst (N := 9) rfl ?_); refine Kd.R_lit k76 _ 76 ?hg (N := 9) ?hd (xs := ([] : List (S76))) (inner := []) (ok := fun _ => True) (okp := fun _ => True) ?hr ?hp (fun _ hk => hk) trivial (Below.refl _ _) (Nat.le_refl _) (by simp) ?_; (case hd => rfl); (case hg => rfl); (case hr => first | (go_simp; done) | (go_simp; rfl)); (case hp => exact (Reps.none _ _)); intro v112 w11 ho12 hb hg_ hnew_; clear hg_ hnew_; (first | rw [← Ny111.out] at ho12 | (simp only [Int.reduceToNat] at ho12; rw [← Ny111.out] at ho12)); have n0_ := Aside0.mk (Kd.R_lower ho12 (below_size (by repeat (first | (with_reducible first | exact HB.out | apply below_alloc | apply pw_below_drewN | apply below_drew1) | exact HB.out)))); have n1_ := Aside0.mk (below_step (by repeat (first | (with_reducible first | exact HB.out | apply below_alloc | apply pw_below_drewN | apply below_drew1) | exact HB.out)) hb); clear HB; have HO113 := n0_; have HB := n1_; clear n0_ n1_; clear hb ho12) | ((with_reducible refine gate_builtin (b := .append) (xs := #[.tmp 9, .tmp 10]) rfl ?_); at_builtin; refine Kd.R_append_rows k76 (w0 := w) w.heap.size rfl (.tmp 9) (.tmp 10) 39 76 (.agg #[(.int .i64 0), (.int .i64 0)]) 16 rfl Try.underlying39 info76 rfl (by decide) (by omega) v112 y111 l0 _ _ _ (fun _ => True) (fun _ => False) rfl rfl ?aO ?aR (fun _ _ h => h) (fun _ h => h.elim) ?aF ?aB ?aS ?aL ?_; (case aR => repeat (first | exact (Kd.C_below HR0.out HB.out) | (with_reducible refine Kd.C_alloc ?_ _) | (with_reducible refine Kd.C_drewN ?_ _) | (with_reducible refine Kd.C_drew ?_))); (case aB => exact (by repeat (first | (with_reducible first | exact HB.out | apply below_alloc | apply pw_below_drewN | apply below_drew1) | exact HB.out))); (case aF => exact (fun _ _ => trivial)); (case aO => exact (by (with_reducible repeat (first | apply Kd.R_alloc | apply Kd.R_drewN | apply Kd.R_drew)); exact HO113.out)); (case aS => exact (below_size (by repeat (first | (with_reducible first | exact HB.out | apply below_alloc | apply pw_below_drewN | apply below_drew1) | exact HB.out)))); (case aL => have := LMc4.out; omega); intro v115 w13 ho hb hg hat; rw [← Ny114.out] at ho; have n0_ := Aside0.mk (hb); have n1_ := Aside0.mk (ho); clear HB; clear HO113; have HB := n0_; have HO116 := n1_; clear n0_ n1_; clear ho hb hg hat) | ((with_reducible refine gate_callee (f := 47) rfl ?_); refine goesL_ (some 14) rfl rfl Try.func47 (by kernel_rfl) rfl #[.slice A0 l0.length c0, .int .i64 a1] rfl (by (try simp only [List.map_toArray, List.map_cons, List.map_nil]); first | done | rfl | (simp only [List.length_drop, List.length_take]; rfl)) ?_; (with_reducible refine (logjamref22_Find.calls k _ _ l0 a1 t117 _ ?side1 ?side2 A5.out).mono ?_); (case side1 => repeat (first | exact (Kd.C_below HR0.out HB.out) | (with_reducible refine Kd.C_alloc ?_ _) | (with_reducible refine Kd.C_drewN ?_ _) | (with_reducible refine Kd.C_drew ?_))); (case side2 => exact HC0.out); rintro e w' ⟨rfl, ⟨nd, rfl⟩⟩; refine ⟨_, rfl, ?_⟩; (try (rw [drewN_self w13]; generalize hq_ : World.drewN w13 _ = w13; have n0_ : Aside0 (Kd.R k76 76 w13 w.heap.size (fun _ => True) v115 y114) := ⟨by rw [← hq_]; exact (by (with_reducible repeat (first | apply Kd.R_alloc | apply Kd.R_drewN | apply Kd.R_drew)); exact HO116.out)⟩; have n1_ : Aside0 (Below w.heap.size w w13) := ⟨by rw [← hq_]; exact (by repeat (first | (with_reducible first | exact HB.out | apply below_alloc | apply pw_below_drewN | apply below_drew1) | exact HB.out))⟩; clear HO116 HB hq_; have HO116 := n0_; have HB := n1_; clear n0_ n1_))) | ((with_reducible refine gate_callee (f := 56) rfl ?_); refine goesL_ (some 20) rfl rfl Try.func56 (by kernel_rfl) rfl #[.int .i64 a2] rfl (by (try simp only [List.map_toArray, List.map_cons, List.map_nil]); first | done | rfl | (simp only [List.length_drop, List.length_take]; rfl)) ?_; (with_reducible refine (logjamref03_Low.calls a2 t118 _ A7.out).mono ?_); rintro e w' ⟨rfl, ⟨nd, rfl⟩⟩; refine ⟨_, rfl, ?_⟩; (try (rw [drewN_self w13]; generalize hq_ : World.drewN w13 _ = w13; have n0_ : Aside0 (Kd.R k76 76 w13 w.heap.size (fun _ => True) v115 y114) := ⟨by rw [← hq_]; exact (by (with_reducible repeat (first | apply Kd.R_alloc | apply Kd.R_drewN | apply Kd.R_drew)); exact HO116.out)⟩; have n1_ : Aside0 (Below w.heap.size w w13) := ⟨by rw [← hq_]; exact (by repeat (first | (with_reducible first | exact HB.out | apply below_alloc | apply pw_below_drewN | apply below_drew1) | exact HB.out))⟩; clear HO116 HB hq_; have HO116 := n0_; have HB := n1_; clear n0_ n1_)); have p10 : 0 ≤ (t117 : Int) := of_decide_eq_true (by first | (with_reducible assumption) | assumption); have q10 : (t117 : Int) < ((y114.length : Int) : Int) := of_decide_eq_true (by first | (with_reducible assumption) | assumption); obtain ⟨go10, co10, eo10, gb10, gl10, cl10, HG10⟩ := Kd.R_form HO116.out (by omega); (first | cases eo10 | (injection eo10 with ea_ en_ ec_; (first | subst ea_ | (injection ea_ with ea_; subst ea_)); subst ec_; clear en_)); have GB10 := Aside0.mk gb10; have GG10 := Aside0.mk HG10; clear gb10 gl10 HG10; obtain ⟨ce10, hcl10, hM10, hcc10, hfr10⟩ := Kd.R_elem HO116.out z76 (t117 : Int) p10 q10; obtain rfl := k76_openM hM10; have hx10_0 : w13.cell? ⟨go10, (t117 : Int).toNat * 2, none⟩ = some (.int .i64 ((rd_T76 y114 t117).f0)) := hcc10 0 _ rfl; have hx10_1 : w13.cell? ⟨go10, (t117 : Int).toNat * 2 + 1, none⟩ = some (.int .i64 ((rd_T76 y114 t117).f1)) := hcc10 1 _ rfl; have hf10_0 : w13.frozen? ⟨go10, (t117 : Int).toNat * 2, none⟩ = false := hfr10 0; have hf10_1 : w13.frozen? ⟨go10, (t117 : Int).toNat * 2 + 1, none⟩ = false := hfr10 1; clear hcl10 hcc10 hfr10 hM10; replace p10 := eq_true p10; replace q10 := eq_true q10; have HX14 := Aside0.mk (show Kd.R k76 76 w13 w.heap.size (fun _ => True) (.slice (some ⟨go10, 0, none⟩) y114.length co10) y114 from (by (with_reducible repeat (first | apply Kd.R_alloc | apply Kd.R_drewN | apply Kd.R_drew)); exact HO116.out)); obtain ⟨ce14, hcl14, hM14, hcc14, hfr14⟩ := Kd.R_elem HX14.out z76 (t117 : Int) (of_decide_eq_true (by first | (with_reducible assumption) | assumption)) (by have h_ : (t117 : Int) < ((y114.length : Int) : Int) := of_decide_eq_true (by first | (with_reducible assumption) | assumption); first | exact h_ | (have e_ := (Kd.R_reads' HO116.out).1; omega) | simpa using h_); obtain rfl := k76_openM hM14; have HP14 := Kd.R_seg HX14.out (t117 : Int) (of_decide_eq_true (by first | (with_reducible assumption) | assumption)) (by have h_ : (t117 : Int) < ((y114.length : Int) : Int) := of_decide_eq_true (by first | (with_reducible assumption) | assumption); first | exact h_ | (have e_ := (Kd.R_reads' HO116.out).1; omega) | simpa using h_) (seg := [.int .i64 t118]) (j := 1) hcl14 hcc14 (show 2 ≤ 2 from by decide) (x' := (⟨(rd_T76 y114 t117).f0, t118⟩ : S76)) (k76_mkM _ _ _ (⟨(rd_T76 y114 t117).f0, t118⟩ : S76) ) (fun _ hk => hk); have hx14_1 := hcc14 1 _ rfl; (try simp only [show (k76).sz = 2 from rfl, Nat.mul_one, Nat.add_zero] at hx14_1); have hf14_1 := hfr14 1; (try simp only [show (k76).sz = 2 from rfl, Nat.mul_one, Nat.add_zero] at hf14_1); clear hcl14 hcc14 hfr14 hM14) | ((with_reducible refine gate_store (t := 3) (p := 22) rfl ?_); refine store_event (t := 3) (p := 22) (v := ?vo_w15) (w1 := (w13.setCell ⟨go10, (t117 : Int).toNat * 2 + 1, none⟩ (.int .i64 t118))) ?hg ?ho ?hn ?hr ?_; (case ho => rfl); (case hg => rfl); (case hn => rfl); (case hr => first | (go_simp; done) | (go_simp; rfl)); intro w15 hw; have hg : w13.grownBy w15 (some go10) := (by rw [hw]; exact HP14.2); have hp_ : Kd.R k76 76 w15 w.heap.size (fun _ => True) (.slice (some ⟨go10, 0, none⟩) y114.length co10) y119 := (by rw [hw, Ny119.out]; exact HP14.1); clear HP14; have n0_ := Aside0.mk (hp_); have n1_ := Aside0.mk ((by rw [hw]; exact below_set (HB.out) GB10.out : Below w.heap.size w w15)); clear HO116; clear HB; have HO116 := n0_; have HB := n1_; clear n0_ n1_; clear hg hw hp_))
     go_ret
     exact ⟨_, by first | rfl | (simp [errW_none, errW_some] <;> rfl) | (simp [*, errW_none, errW_some] <;> rfl), by (with_reducible repeat (first | apply Kd.R_alloc | apply Kd.R_drewN | apply Kd.R_drew)); exact HO116.out, by repeat (first | (with_reducible first | exact HB.out | apply below_alloc | apply pw_below_drewN | apply below_drew1) | exact HB.out)⟩
    ·rw [if_neg c9] at H
     exact absurd H (by simp)
   ·rw [if_neg c8] at H
    exact absurd H (by simp)
  ·rw [if_neg c6] at H
   have c6b0 : decide (0 ≤ t117) = false := decide_eq_false c6
   clear c6
   obtain rfl := Option.some.inj H
   go_enter Try.func45, Try.ntmps45
   go_wp2_with (first | ((with_reducible refine gate_dst (N := 9) rfl ?_); refine Kd.R_lit k76 _ 76 ?hg (N := 9) ?hd (xs := ([] : List (S76))) (inner := []) (ok := fun _ => True) (okp := fun _ => True) ?hr ?hp (fun _ hk => hk) trivial (Below.refl _ _) (Nat.le_refl _) (by simp) ?_; (case hd => rfl); (case hg => rfl); (case hr => first | (go_simp; done) | (go_simp; rfl)); (case hp => exact (Reps.none _ _)); intro v112 w16 ho17 hb hg_ hnew_; clear hg_ hnew_; (first | rw [← Ny111.out] at ho17 | (simp only [Int.reduceToNat] at ho17; rw [← Ny111.out] at ho17)); have n0_ := Aside0.mk (Kd.R_lower ho17 (below_size (by repeat (first | (with_reducible first | exact HB.out | apply below_alloc | apply pw_below_drewN | apply below_drew1) | exact HB.out)))); have n1_ := Aside0.mk (below_step (by repeat (first | (with_reducible first | exact HB.out | apply below_alloc | apply pw_below_drewN | apply below_drew1) | exact HB.out)) hb); clear HB; have HO113 := n0_; have HB := n1_; clear n0_ n1_; clear hb ho17) | ((with_reducible refine gate_builtin (b := .append) (xs := #[.tmp 9, .tmp 10]) rfl ?_); at_builtin; refine Kd.R_append_rows k76 (w0 := w) w.heap.size rfl (.tmp 9) (.tmp 10) 39 76 (.agg #[(.int .i64 0), (.int .i64 0)]) 16 rfl Try.underlying39 info76 rfl (by decide) (by omega) v112 y111 l0 _ _ _ (fun _ => True) (fun _ => False) rfl rfl ?aO ?aR (fun _ _ h => h) (fun _ h => h.elim) ?aF ?aB ?aS ?aL ?_; (case aR => repeat (first | exact (Kd.C_below HR0.out HB.out) | (with_reducible refine Kd.C_alloc ?_ _) | (with_reducible refine Kd.C_drewN ?_ _) | (with_reducible refine Kd.C_drew ?_))); (case aB => exact (by repeat (first | (with_reducible first | exact HB.out | apply below_alloc | apply pw_below_drewN | apply below_drew1) | exact HB.out))); (case aF => exact (fun _ _ => trivial)); (case aO => exact (by (with_reducible repeat (first | apply Kd.R_alloc | apply Kd.R_drewN | apply Kd.R_drew)); exact HO113.out)); (case aS => exact (below_size (by repeat (first | (with_reducible first | exact HB.out | apply below_alloc | apply pw_below_drewN | apply below_drew1) | exact HB.out)))); (case aL => have := LMc4.out; omega); intro v115 w18 ho hb hg hat; rw [← Ny114.out] at ho; have n0_ := Aside0.mk (hb); have n1_ := Aside0.mk (ho); clear HB; clear HO113; have HB := n0_; have HO116 := n1_; clear n0_ n1_; clear ho hb hg hat) | ((with_reducible refine gate_callee (f := 47) rfl ?_); refine goesL_ (some 14) rfl rfl Try.func47 (by kernel_rfl) rfl #[.slice A0 l0.length c0, .int .i64 a1] rfl (by (try simp only [List.map_toArray, List.map_cons, List.map_nil]); first | done | rfl | (simp only [List.length_drop, List.length_take]; rfl)) ?_; (with_reducible refine (logjamref22_Find.calls k _ _ l0 a1 t117 _ ?side1 ?side2 A5.out).mono ?_); (case side1 => repeat (first | exact (Kd.C_below HR0.out HB.out) | (with_reducible refine Kd.C_alloc ?_ _) | (with_reducible refine Kd.C_drewN ?_ _) | (with_reducible refine Kd.C_drew ?_))); (case side2 => exact HC0.out); rintro e w' ⟨rfl, ⟨nd, rfl⟩⟩; refine ⟨_, rfl, ?_⟩))
   go_ret
   exact ⟨_, by first | rfl | (simp [errW_none, errW_some] <;> rfl) | (simp [*, errW_none, errW_some] <;> rfl), by (with_reducible repeat (first | apply Kd.R_alloc | apply Kd.R_drewN | apply Kd.R_drew)); exact HO116.out, by repeat (first | (with_reducible first | exact HB.out | apply below_alloc | apply pw_below_drewN | apply below_drew1) | exact HB.out)⟩
 ·rw [if_neg c4] at H
  exact absurd H (by simp)
def logjamref23_Has.l0 : Nat → List (S76) → Int → Int → Option (Bool)
 | 0, _, _, _ => none
 | k + 1, x0, x1, x5 => if x5 < (x0.length : Int) then (if 0 ≤ x5 then (if ((rd_T76 x0 x5).f0) = x1 then (some true) else (logjamref23_Has.l0 k x0 x1 (wrap64 (x5 + 1)))) else (none)) else (some false)
def logjamref23_Has.f (k : Nat) (l0 : List (S76)) (a1 : Int) : Option (Bool) := logjamref23_Has.l0 k l0 a1 0
set_option maxHeartbeats 8000000 in
set_option maxRecDepth 100000 in
theorem logjamref23_Has.calls (k : Nat) (A0 : Option Addr) (c0 : Nat) (l0 : List (S76)) (a1 : Int) (r : Bool) (w : World) (hr0 : Kd.C k76 w A0 l0.length l0) (hc0 : l0.length ≤ c0) (h : logjamref23_Has.f k l0 a1 = some r) :
  Calls Try.prog 57 #[.slice A0 l0.length c0, .int .i64 a1] w fun e w' => e = .returned (.bool r) ∧ Drawn0 w w' := by
 have HR0 := Aside0.mk hr0
 have HC0 := Aside0.mk hc0
 clear hr0 hc0
 have H : (logjamref23_Has.l0 k l0 a1 0) = some r := h
 clear h
 have H' := Aside0.mk H
 clear H
 go_enter Try.func57, Try.ntmps57
 go_wp2
 go_loopg [5] k (fun kq v5 w' => ∃ (x5_1 : Int), v5 = .int .i64 x5_1 ∧ Aside0 (logjamref23_Has.l0 kq l0 a1 x5_1 = some r) ∧ Aside0 (kq ≤ k) ∧ Drawn0 w w')
 case atStart => exact ⟨(0), (by first | rfl | (simp; done) | (simp only [emptyNe_, emptyEq_]; done) | (simp [*]; done)), H', ⟨Nat.le_refl _⟩, by repeat (first | exact Drawn0.refl _ | apply Drawn0.step)⟩
 case round =>
  clear H'; try clear p2
  obtain ⟨x5_1, rfl, HA, HK1, ⟨m1, rfl⟩⟩ := hrel
  cases gk with
  | zero => exact absurd HA.out (by simp [logjamref23_Has.l0])
  | succ k1 =>
   have H := HA.out
   clear HA
   simp only [logjamref23_Has.l0] at H
   by_cases c3 : x5_1 < (l0.length : Int)
   ·rw [if_pos c3] at H
    have c3b0 : decide (x5_1 < (l0.length : Int)) = true := decide_eq_true c3
    clear c3
    by_cases c4 : 0 ≤ x5_1
    ·rw [if_pos c4] at H
     have c4b0 : decide (0 ≤ x5_1) = true := decide_eq_true c4
     clear c4
     by_cases c5 : ((rd_T76 l0 x5_1).f0) = a1
     ·rw [if_pos c5] at H
      have c5b0 : (((rd_T76 l0 x5_1).f0) == a1) = true := beq_iff_eq.mpr c5
      have c5b1 : (((rd_T76 l0 x5_1).f0) != a1) = false := bne_eq_false_iff_eq.mpr c5
      clear c5
      obtain rfl := Option.some.inj H
      have p120 : 0 ≤ (x5_1 : Int) := of_decide_eq_true (by first | (with_reducible assumption) | assumption)
      have q120 : x5_1 < (l0.length : Int) := of_decide_eq_true (by first | (with_reducible assumption) | assumption)
      obtain ⟨ad120, e120, hx120_0, hx120_1⟩ := at_T76 HR0.out x5_1 p120 q120
      cases e120
      replace p120 := eq_true p120
      replace q120 := eq_true q120
      go_wp2
      go_ret
      exact ⟨by first | rfl | (simp; done) | (simp only [emptyNe_, emptyEq_]; done) | (simp [*]; done), by repeat (first | exact Drawn0.refl _ | apply Drawn0.step)⟩
     ·rw [if_neg c5] at H
      have c5b0 : (((rd_T76 l0 x5_1).f0) == a1) = false := beq_eq_false_iff_ne.mpr c5
      have c5b1 : (((rd_T76 l0 x5_1).f0) != a1) = true := bne_iff_ne.mpr c5
      have H' := Aside0.mk H
      clear H
      have p120 : 0 ≤ (x5_1 : Int) := of_decide_eq_true (by first | (with_reducible assumption) | assumption)
      have q120 : x5_1 < (l0.length : Int) := of_decide_eq_true (by first | (with_reducible assumption) | assumption)
      obtain ⟨ad120, e120, hx120_0, hx120_1⟩ := at_T76 HR0.out x5_1 p120 q120
      cases e120
      replace p120 := eq_true p120
      replace q120 := eq_true q120
      go_wp2
      go_roundg k1
      case measure => have := HK1.out; omega
      case rel => exact ⟨(wrap64 (x5_1 + 1)), (by first | rfl | (simp; done) | (simp only [emptyNe_, emptyEq_]; done) | (simp [*]; done)), H', ⟨by have := HK1.out; omega⟩, by repeat (first | exact Drawn0.refl _ | apply Drawn0.step)⟩
    ·rw [if_neg c4] at H
     exact absurd H (by simp)
   ·rw [if_neg c3] at H
    have c3b0 : decide (x5_1 < (l0.length : Int)) = false := decide_eq_false c3
    clear c3
    obtain rfl := Option.some.inj H
    go_wp2
    go_ret
    exact ⟨by first | rfl | (simp; done) | (simp only [emptyNe_, emptyEq_]; done) | (simp [*]; done), by repeat (first | exact Drawn0.refl _ | apply Drawn0.step)⟩
def logjamlaw20_Same.l0 : Nat → List (S76) → List (S76) → Int → Option (Bool)
 | 0, _, _, _ => none
 | k + 1, x0, x1, x5 => if x5 < (x0.length : Int) then (if 0 ≤ x5 then (if x5 < (x1.length : Int) then (if (!(((rd_T76 x0 x5).f0) == ((rd_T76 x1 x5).f0)) || (!(((rd_T76 x0 x5).f1) == ((rd_T76 x1 x5).f1)))) = true then (some false) else (logjamlaw20_Same.l0 k x0 x1 (wrap64 (x5 + 1)))) else (none)) else (none)) else (some true)
def logjamlaw20_Same.f (k : Nat) (l0 : List (S76)) (l1 : List (S76)) : Option (Bool) := if (l0.length : Int) = (l1.length : Int) then (logjamlaw20_Same.l0 k l0 l1 0) else (some false)
set_option maxHeartbeats 8000000 in
set_option maxRecDepth 100000 in
theorem logjamlaw20_Same.calls (k : Nat) (A0 : Option Addr) (c0 : Nat) (l0 : List (S76)) (A1 : Option Addr) (c1 : Nat) (l1 : List (S76)) (r : Bool) (w : World) (hr0 : Kd.C k76 w A0 l0.length l0) (hc0 : l0.length ≤ c0) (hr1 : Kd.C k76 w A1 l1.length l1) (hc1 : l1.length ≤ c1) (h : logjamlaw20_Same.f k l0 l1 = some r) :
  Calls Try.prog 19 #[.slice A0 l0.length c0, .slice A1 l1.length c1] w fun e w' => e = .returned (.bool r) ∧ Drawn0 w w' := by
 have hu76 := Try.underlying76
 have HR0 := Aside0.mk hr0
 have HC0 := Aside0.mk hc0
 clear hr0 hc0
 have HR1 := Aside0.mk hr1
 have HC1 := Aside0.mk hc1
 clear hr1 hc1
 have H : (if (l0.length : Int) = (l1.length : Int) then (logjamlaw20_Same.l0 k l0 l1 0) else (some false)) = some r := h
 clear h
 by_cases c3 : (l0.length : Int) = (l1.length : Int)
 ·rw [if_pos c3] at H
  have c3b0 : ((l0.length : Int) == (l1.length : Int)) = true := beq_iff_eq.mpr c3
  have c3b1 : ((l0.length : Int) != (l1.length : Int)) = false := bne_eq_false_iff_eq.mpr c3
  have c3b2 : (l0.length == l1.length) = true := by first | simpa using c3 | (simp at c3 ⊢; omega)
  clear c3
  have H' := Aside0.mk H
  clear H
  go_enter Try.func19, Try.ntmps19
  go_wp2
  repeat (go_quiet (fail); try go_wp2)
  go_loopg [5] k (fun kq v5 w' => ∃ (x5_1 : Int), v5 = .int .i64 x5_1 ∧ Aside0 (logjamlaw20_Same.l0 kq l0 l1 x5_1 = some r) ∧ Aside0 (kq ≤ k) ∧ Drawn0 w w')
  case atStart => exact ⟨(0), (by first | rfl | (simp; done) | (simp only [emptyNe_, emptyEq_]; done) | (simp [*]; done)), H', ⟨Nat.le_refl _⟩, by repeat (first | exact Drawn0.refl _ | apply Drawn0.step)⟩
  case round =>
   clear H'; try clear c1; try clear p2; try clear c3; try clear c3b0; try clear c3b1; try clear c3b2
   obtain ⟨x5_1, rfl, HA, HK1, ⟨m1, rfl⟩⟩ := hrel
   cases gk with
   | zero => exact absurd HA.out (by simp [logjamlaw20_Same.l0])
   | succ k1 =>
    have H := HA.out
    clear HA
    simp only [logjamlaw20_Same.l0] at H
    by_cases c4 : x5_1 < (l0.length : Int)
    ·rw [if_pos c4] at H
     have c4b0 : decide (x5_1 < (l0.length : Int)) = true := decide_eq_true c4
     clear c4
     by_cases c5 : 0 ≤ x5_1
     ·rw [if_pos c5] at H
      have c5b0 : decide (0 ≤ x5_1) = true := decide_eq_true c5
      clear c5
      by_cases c6 : x5_1 < (l1.length : Int)
      ·rw [if_pos c6] at H
       have c6b0 : decide (x5_1 < (l1.length : Int)) = true := decide_eq_true c6
       clear c6
       by_cases c7 : (!(((rd_T76 l0 x5_1).f0) == ((rd_T76 l1 x5_1).f0)) || (!(((rd_T76 l0 x5_1).f1) == ((rd_T76 l1 x5_1).f1)))) = true
       ·rw [if_pos c7] at H
        have c7b0 : (!(((rd_T76 l0 x5_1).f0) == ((rd_T76 l1 x5_1).f0)) || (!(((rd_T76 l0 x5_1).f1) == ((rd_T76 l1 x5_1).f1)))) = true := c7
        clear c7
        obtain rfl := Option.some.inj H
        have p121 : 0 ≤ (x5_1 : Int) := of_decide_eq_true (by first | (with_reducible assumption) | assumption)
        have q121 : x5_1 < (l0.length : Int) := of_decide_eq_true (by first | (with_reducible assumption) | assumption)
        obtain ⟨ad121, e121, hx121_0, hx121_1⟩ := at_T76 HR0.out x5_1 p121 q121
        cases e121
        replace p121 := eq_true p121
        replace q121 := eq_true q121
        have p122 : 0 ≤ (x5_1 : Int) := of_decide_eq_true (by first | (with_reducible assumption) | assumption)
        have q122 : x5_1 < (l1.length : Int) := of_decide_eq_true (by first | (with_reducible assumption) | assumption)
        obtain ⟨ad122, e122, hx122_0, hx122_1⟩ := at_T76 HR1.out x5_1 p122 q122
        cases e122
        replace p122 := eq_true p122
        replace q122 := eq_true q122
        go_wp2
        repeat (go_quiet (fail); try go_wp2)
        go_ret
        exact ⟨by first | rfl | (simp; done) | (simp only [emptyNe_, emptyEq_]; done) | (simp [*]; done), by repeat (first | exact Drawn0.refl _ | apply Drawn0.step)⟩
       ·rw [if_neg c7] at H
        have c7b0 : (!(((rd_T76 l0 x5_1).f0) == ((rd_T76 l1 x5_1).f0)) || (!(((rd_T76 l0 x5_1).f1) == ((rd_T76 l1 x5_1).f1)))) = false := by simpa using c7
        clear c7
        have H' := Aside0.mk H
        clear H
        have p121 : 0 ≤ (x5_1 : Int) := of_decide_eq_true (by first | (with_reducible assumption) | assumption)
        have q121 : x5_1 < (l0.length : Int) := of_decide_eq_true (by first | (with_reducible assumption) | assumption)
        obtain ⟨ad121, e121, hx121_0, hx121_1⟩ := at_T76 HR0.out x5_1 p121 q121
        cases e121
        replace p121 := eq_true p121
        replace q121 := eq_true q121
        have p122 : 0 ≤ (x5_1 : Int) := of_decide_eq_true (by first | (with_reducible assumption) | assumption)
        have q122 : x5_1 < (l1.length : Int) := of_decide_eq_true (by first | (with_reducible assumption) | assumption)
        obtain ⟨ad122, e122, hx122_0, hx122_1⟩ := at_T76 HR1.out x5_1 p122 q122
        cases e122
        replace p122 := eq_true p122
        replace q122 := eq_true q122
        go_wp2
        repeat (go_quiet (fail); try go_wp2)
        go_roundg k1
        case measure => have := HK1.out; omega
        case rel => exact ⟨(wrap64 (x5_1 + 1)), (by first | rfl | (simp; done) | (simp only [emptyNe_, emptyEq_]; done) | (simp [*]; done)), H', ⟨by have := HK1.out; omega⟩, by repeat (first | exact Drawn0.refl _ | apply Drawn0.step)⟩
      ·rw [if_neg c6] at H
       exact absurd H (by simp)
     ·rw [if_neg c5] at H
      exact absurd H (by simp)
    ·rw [if_neg c4] at H
     have c4b0 : decide (x5_1 < (l0.length : Int)) = false := decide_eq_false c4
     clear c4
     obtain rfl := Option.some.inj H
     go_wp2
     repeat (go_quiet (fail); try go_wp2)
     go_ret
     exact ⟨by first | rfl | (simp; done) | (simp only [emptyNe_, emptyEq_]; done) | (simp [*]; done), by repeat (first | exact Drawn0.refl _ | apply Drawn0.step)⟩
 ·rw [if_neg c3] at H
  have c3b0 : ((l0.length : Int) == (l1.length : Int)) = false := beq_eq_false_iff_ne.mpr c3
  have c3b1 : ((l0.length : Int) != (l1.length : Int)) = true := bne_iff_ne.mpr c3
  have c3b2 : (l0.length == l1.length) = false := by first | simpa using c3 | (simp at c3 ⊢; omega)
  obtain rfl := Option.some.inj H
  go_enter Try.func19, Try.ntmps19
  go_wp2
  repeat (go_quiet (fail); try go_wp2)
  go_ret
  exact ⟨by first | rfl | (simp; done) | (simp only [emptyNe_, emptyEq_]; done) | (simp [*]; done), by repeat (first | exact Drawn0.refl _ | apply Drawn0.step)⟩
end Go.Proofs.Ytadepdeckapgcaa.PHj
end

section
namespace Go.Proofs.Ytadepdeckapgcaa
open Go.RowKit Go.Proofs.YtadepdeckapgcaaW.PrintWords Go.Proofs.YtadepdeckapgcaaW.PrintLast Go.Proofs.YtadepdeckapgcaaW.PrintMore PHj
set_option linter.unusedSimpArgs false
set_option linter.unusedVariables false
def enc3 (l : List (Int × Int × Int)) : List Value := l.flatMap fun x => [.int .i64 x.1, .int .i64 x.2.1, .int .i64 x.2.2]
theorem enc3_cons (x : Int × Int × Int) (l : List (Int × Int × Int)) : enc3 (x :: l) = .int .i64 x.1 :: .int .i64 x.2.1 :: .int .i64 x.2.2 :: enc3 l := by simp [enc3]
theorem enc3_append (l m : List (Int × Int × Int)) : enc3 (l ++ m) = enc3 l ++ enc3 m := by simp [enc3]
theorem enc3_get (l : List (Int × Int × Int)) : ∀ i (h : i < l.length), (enc3 l)[i * 3]? = some (.int .i64 l[i].1) ∧ (enc3 l)[i * 3 + 1]? = some (.int .i64 l[i].2.1) ∧ (enc3 l)[i * 3 + 2]? = some (.int .i64 l[i].2.2) := by
  induction l with
  | nil => intro i h; simp at h
  | cons x l ih =>
    intro i h
    rw [enc3_cons]
    cases i with
    | zero => simp
    | succ i =>
      have := ih i (by simpa using h)
      rw [show (i + 1) * 3 = i * 3 + 1 + 1 + 1 by omega]
      simpa using this
theorem enc3_set (l : List (Int × Int × Int)) (v : Int) : ∀ i (h : i < l.length), (enc3 l).set (i * 3 + 2) (.int .i64 v) = enc3 (l.set i (l[i].1, l[i].2.1, v)) := by
  induction l with
  | nil => intro i h; simp at h
  | cons x l ih =>
    intro i h
    cases i with
    | zero => simp [enc3_cons]
    | succ i =>
      have := ih i (by simpa using h)
      rw [show (i + 1) * 3 + 2 = i * 3 + 2 + 1 + 1 + 1 by omega, enc3_cons]
      simp [enc3_cons, this]
theorem Fr.owns {F : Nat → Prop} {w w' : World} {base : Nat} {e : TypeId} {size n : Nat} {v : Value} {xs : List Value} (h : w.ownsRow base e size v n xs) (hf : Fr F w w') (hF : ∀ k, v.ownBlock = some k → ¬ F k) : w'.ownsRow base e size v n xs :=
  own_move h (fun k hk => hf.block k (h.lt k hk).2 (hF k hk))
theorem own_ne {w : World} {base : Nat} {e : TypeId} {size n : Nat} {v : Value} {xs : List Value} (h : w.ownsRow base e size v n xs) {g : Nat} {cs : Array Value} {t : TypeId} (hb : Blk w g cs t) (ht : e ≠ t) : v.ownBlock ≠ some g := fun q => by
  obtain ⟨cells, hc⟩ := own_typed h g q
  unfold Blk at hb
  rw [hc] at hb
  injection hb with hb
  injection hb with _ hb
  exact ht hb
def low (n : Int) : Int := wrap32 (n % 4294967296)
theorem wLow (w : World) (n : Int) : Calls Try.prog 51 #[.int .i64 n] w fun e w' => e = .returned (.int .i64 (low n)) ∧ Quiet w w' :=
  (word_Low.calls n (low n) w (by unfold word_Low.f low; congr 1; unfold wrap32 wrap64; omega)).mono fun e w' ⟨h1, h2⟩ => ⟨h1, by obtain ⟨n, rfl⟩ := h2; exact (Fr.refl _ _).drewN n⟩
theorem rLow_f (n : Int) : logjamref03_Low.f n = some (low n) := by
  have h1 : Int.tmod n 4294967296 = if 0 ≤ n then n % 4294967296 else -((-n) % 4294967296) := by
    split
    · rename_i h; exact Int.tmod_eq_emod_of_nonneg h
    · rename_i h
      have e : n = -(-n) := by omega
      conv => lhs; rw [e, Int.neg_tmod]
      rw [Int.tmod_eq_emod_of_nonneg (by omega)]
  unfold logjamref03_Low.f low wrap32 wrap64
  rw [h1]
  by_cases h0 : 0 ≤ n
  · simp only [h0, if_true]
    repeat' split
    all_goals (congr 1; omega)
  · simp only [h0, if_false]
    repeat' split
    all_goals (congr 1; omega)
def CeAt (w : World) (b base : Nat) (l : List (Int × Int × Int)) : Prop := ∃ v, Blk w b #[v] 84 ∧ w.ownsRow base 89 3 v l.length (enc3 l)
def fidx (obj : Int) : List (Int × Int × Int) → Option Nat
  | [] => none
  | x :: xs => if x.1 = obj then some 0 else (fidx obj xs).map (· + 1)
theorem fidx_some (obj : Int) : ∀ (l : List (Int × Int × Int)) (k : Nat) (h : k < l.length), l[k].1 = obj → (∀ j (hj : j < k), (l[j]'(by omega)).1 ≠ obj) → fidx obj l = some k
  | [], k, h, _, _ => by simp at h
  | x :: xs, 0, h, h1, _ => by simp at h1; simp [fidx, h1]
  | x :: xs, k + 1, h, h1, h2 => by
    have h0 := h2 0 (by omega)
    simp at h0
    simp only [fidx, h0, if_false]
    rw [fidx_some obj xs k (by simpa using h) (by simpa using h1) (fun j hj => by have := h2 (j + 1) (by omega); simpa using this)]
    rfl
theorem fidx_none (obj : Int) : ∀ (l : List (Int × Int × Int)), (∀ j (hj : j < l.length), l[j].1 ≠ obj) → fidx obj l = none
  | [], _ => rfl
  | x :: xs, h => by
    have h0 := h 0 (by simp)
    simp at h0
    simp only [fidx, h0, if_false]
    rw [fidx_none obj xs (fun j hj => by have := h (j + 1) (by simpa using hj); simpa using this)]
    rfl
theorem fidx_lt (obj : Int) : ∀ (l : List (Int × Int × Int)) (k : Nat), fidx obj l = some k → ∃ h : k < l.length, l[k].1 = obj
  | [], k, h => by simp [fidx] at h
  | x :: xs, k, h => by
    simp only [fidx] at h
    split at h
    · rename_i c; simp at h; subst h; exact ⟨by simp, by simpa using c⟩
    · rw [Option.map_eq_some_iff] at h
      obtain ⟨j, hj, rfl⟩ := h
      obtain ⟨h1, h2⟩ := fidx_lt obj xs j hj
      exact ⟨by simpa using h1, by simpa using h2⟩
set_option maxHeartbeats 1000000 in
theorem ceFind (w : World) (b g cap : Nat) (base : Nat) (l : List (Int × Int × Int)) (hb : Blk w b #[.slice (some ⟨g, 0, none⟩) l.length cap] 84) (ho : w.ownsRow base 89 3 (.slice (some ⟨g, 0, none⟩) l.length cap) l.length (enc3 l)) (hl : l.length ≤ 1000) (obj : Int) :
    Calls Try.prog 54 #[.pointer (some ⟨b, 0, none⟩), .int .i64 obj] w fun e w' => e = .returned (.pointer ((fidx obj l).map fun i => ⟨g, i * 3, none⟩)) ∧ w = w' := by
  have h0 := hb.cell 0; simp at h0
  have HO := Lib.hid ho; have HB := Lib.hid hb; clear ho hb
  go_enter Try.func54, Try.ntmps54
  go_wp2
  go_loop [5, 13] (fun _ i => ∃ k : Nat, k ≤ l.length ∧ i = .int .i64 k ∧ ∀ j (hj : j < l.length), j < k → l[j].1 ≠ obj) (fun _ i => l.length - (intOf i).toNat)
  case atStart => exact ⟨0, by omega, rfl, fun j _ h => by omega⟩
  case round =>
    obtain ⟨k, hk, rfl, hno⟩ := hrel
    have HN := Lib.hid hno; clear hno
    by_cases hlt : k < l.length
    · have hc : w.cell? ⟨g, k * 3, none⟩ = some (.int .i64 l[k].1) := by
        rw [HO.out.cellAt (k * 3) (by omega)]; exact (enc3_get l k hlt).1
      by_cases hx : l[k].1 = obj
      · have E : Hid (fidx obj l = some k) := fidx_some obj l k hlt hx (fun j hj => HN.out j (by omega) hj)
        have hx' : (l[k].1 == obj) = true := by simpa using hx
        clear hx
        generalize l[k].1 = x at *
        go_wp2
        go_ret
        rw [E.out]
        exact ⟨rfl, rfl⟩
      · have hx' : (l[k].1 == obj) = false := by simpa using hx
        have R : Hid (∀ j (hj : j < l.length), j < k + 1 → l[j].1 ≠ obj) := fun j hj h => by
          by_cases e : j = k
          · subst e; exact hx
          · exact HN.out j hj (by omega)
        clear hx
        generalize l[k].1 = x at hc hx'
        go_wp2
        go_round
        case rel => exact ⟨k + 1, by omega, by go_num, R.out⟩
        case measure => simp [intOf]; omega
    · obtain rfl : k = l.length := by omega
      have E : Hid (fidx obj l = none) := fidx_none obj l (fun j hj => HN.out j hj hj)
      go_wp2
      go_ret
      rw [E.out]
      exact ⟨rfl, rfl⟩
def TFr (t : TypeId) (base : Nat) (w w' : World) : Prop := Fr (fun k => base ≤ k ∧ ∃ cells, w.heap[k]? = some (.cells cells t (0, 0))) w w'
theorem TFr.refl (t : TypeId) (base : Nat) (w : World) : TFr t base w w := Fr.refl _ _
theorem TFr.trans {t : TypeId} {base : Nat} {a b c : World} (h : TFr t base a b) (k : TFr t base b c) : TFr t base a c :=
  Fr.trans h k (fun i ⟨h1, cells, hc⟩ => by
    by_cases hi : i < a.heap.size
    · left
      by_cases q : base ≤ i ∧ ∃ cells, a.heap[i]? = some (.cells cells t (0, 0))
      · exact q
      · exact ⟨h1, cells, by rw [← h.block i hi q]; exact hc⟩
    · right; omega)
theorem TFr.quiet {t : TypeId} {base : Nat} {a b c : World} (h : TFr t base a b) (k : Quiet b c) : TFr t base a c := Fr.quiet h k
theorem TFr.of_quiet {t : TypeId} {base : Nat} {a b : World} (k : Quiet a b) : TFr t base a b := (TFr.refl t base a).quiet k
theorem TFr.blk {t t' : TypeId} {base : Nat} {w w' : World} (h : TFr t base w w') {b : Nat} {cs : Array Value} (hb : Blk w b cs t') (ht : t ≠ t') : Blk w' b cs t' :=
  Fr.blk h hb (fun ⟨_, cells, hc⟩ => by
    unfold Blk at hb
    rw [hc] at hb
    injection hb with hb
    injection hb with _ hb
    exact ht hb)
theorem TFr.owns {t : TypeId} {base : Nat} {w w' : World} (h : TFr t base w w') {b2 : Nat} {e : TypeId} {size n : Nat} {v : Value} {xs : List Value} (ho : w.ownsRow b2 e size v n xs) (ht : t ≠ e) : w'.ownsRow b2 e size v n xs :=
  Fr.owns ho h (fun k hk ⟨_, cells, hc⟩ => by
    obtain ⟨c2, hc2⟩ := own_typed ho k hk
    rw [hc] at hc2
    injection hc2 with hc2
    injection hc2 with _ hc2
    exact ht hc2)
theorem TFr.old {t : TypeId} {base : Nat} {w0 w w' : World} (h : TFr t base w w') (hq : Quiet w0 w) (hb : w0.heap.size ≤ base) : Quiet w0 w' :=
  hq.trans h (fun i ⟨h1, _⟩ => .inr (by omega))
theorem TFr.set {t : TypeId} {base : Nat} {w : World} {g : Nat} {cs : Array Value} (hg : Blk w g cs t) (hb : base ≤ g) (j : Nat) (v : Value) : TFr t base w (w.setCell ⟨g, j, none⟩ v) :=
  Fr.setCell (p := ⟨g, j, none⟩) (Fr.refl _ _) (.inl ⟨hb, _, hg⟩) v
def cAt (l : List (Int × Int × Int)) (i : Nat) : Int × Int × Int := l.getD i (0, 0, 0)
def cGet (obj : Int) (l : List (Int × Int × Int)) : Int × Bool := match fidx obj l with | some i => ((cAt l i).2.2, true) | none => (0, false)
def cSet (obj v : Int) (l : List (Int × Int × Int)) : List (Int × Int × Int) × Bool := match fidx obj l with | some i => (l.set i ((cAt l i).1, (cAt l i).2.1, low v), true) | none => (l, false)
theorem cAt_lt (l : List (Int × Int × Int)) (i : Nat) (h : i < l.length) : cAt l i = l[i] := by unfold cAt; simp [h]
theorem ceOpenV {w : World} {b base : Nat} {v : Value} {l : List (Int × Int × Int)} (hb : Blk w b #[v] 84) (ho : w.ownsRow base 89 3 v l.length (enc3 l)) (hl : l.length ≤ 1000) :
    ∃ g, (l ≠ [] → ∃ cap, v = .slice (some ⟨g, 0, none⟩) l.length cap) ∧
      ∀ obj, Calls Try.prog 54 #[.pointer (some ⟨b, 0, none⟩), .int .i64 obj] w fun e w' => e = .returned (.pointer ((fidx obj l).map fun i => ⟨g, i * 3, none⟩)) ∧ w = w' := by
  rcases ho.2 with ⟨e, hn⟩ | ⟨g, cap, cur, e, _⟩
  · subst e
    have : l = [] := List.eq_nil_of_length_eq_zero hn
    subst this
    refine ⟨0, fun q => absurd rfl q, fun obj => ?_⟩
    have h0 := hb.cell 0; simp at h0
    have HO := Lib.hid ho; have HB := Lib.hid hb; clear ho hb hn hl
    go_enter Try.func54, Try.ntmps54
    go_wp2
    refine wp_loop_rounds 1 ?_; rw [rounds_succ]
    go_wp2
    go_ret
    exact ⟨rfl, rfl⟩
  · subst e
    exact ⟨g, fun _ => ⟨cap, rfl⟩, fun obj => ceFind w b g cap base l hb ho hl obj⟩
theorem ceOpen {w : World} {b base : Nat} {l : List (Int × Int × Int)} (h : CeAt w b base l) (hl : l.length ≤ 1000) :
    ∃ g v, Blk w b #[v] 84 ∧ w.ownsRow base 89 3 v l.length (enc3 l) ∧ (l ≠ [] → ∃ cap, v = .slice (some ⟨g, 0, none⟩) l.length cap) ∧
      ∀ obj, Calls Try.prog 54 #[.pointer (some ⟨b, 0, none⟩), .int .i64 obj] w fun e w' => e = .returned (.pointer ((fidx obj l).map fun i => ⟨g, i * 3, none⟩)) ∧ w = w' := by
  obtain ⟨v, hb, ho⟩ := h
  obtain ⟨g, h1, h2⟩ := ceOpenV hb ho hl
  exact ⟨g, v, hb, ho, h1, h2⟩
theorem ceGet {w : World} {b base : Nat} {l : List (Int × Int × Int)} (h : CeAt w b base l) (hl : l.length ≤ 1000) (obj : Int) :
    Calls Try.prog 39 #[.pointer (some ⟨b, 0, none⟩), .int .i64 obj] w fun e w' => e = .returned (.tuple #[.int .i64 (cGet obj l).1, .bool (cGet obj l).2]) ∧ w = w' := by
  obtain ⟨g, v, hb, ho, hv, hf⟩ := ceOpen h hl
  have HF := Lib.hid (hf obj); clear hf h
  cases hi : fidx obj l with
  | none =>
    have E : Hid (cGet obj l = (0, false)) := by unfold cGet Hid; rw [hi]
    rw [hi] at HF
    clear hi hb ho hv
    go_enter Try.func39, Try.ntmps39
    go_wp2_with ((go_at_call 54; refine HF.out.mono ?_; rintro e w' ⟨rfl, rfl⟩))
    go_ret2
    rw [E.out]
    exact ⟨rfl, rfl⟩
  | some i =>
    obtain ⟨hlt, _⟩ := fidx_lt obj l i hi
    have E : Hid (cGet obj l = (l[i].2.2, true)) := by unfold cGet Hid; rw [hi]; simp only [cAt_lt l i hlt]
    rw [hi] at HF
    obtain ⟨cap, rfl⟩ := hv (by intro q; subst q; simp at hlt)
    have hc : w.cell? ⟨g, i * 3 + 2, none⟩ = some (.int .i64 l[i].2.2) := by rw [ho.cellAt (i * 3 + 2) (by omega)]; exact (enc3_get l i hlt).2.2
    clear hi hb ho hv
    generalize l[i].2.2 = x at *
    go_enter Try.func39, Try.ntmps39
    go_wp2_with ((go_at_call 54; refine HF.out.mono ?_; rintro e w' ⟨rfl, rfl⟩))
    go_ret2
    rw [E.out]
    exact ⟨rfl, rfl⟩
theorem ceSetV {w : World} {b base : Nat} {vv : Value} {l : List (Int × Int × Int)} (hb : Blk w b #[vv] 84) (ho : w.ownsRow base 89 3 vv l.length (enc3 l)) (hl : l.length ≤ 1000) (obj v : Int) :
    Calls Try.prog 38 #[.pointer (some ⟨b, 0, none⟩), .int .i64 obj, .int .i64 v] w fun e w' => e = .returned (.bool (cSet obj v l).2) ∧ (Blk w' b #[vv] 84 ∧ w'.ownsRow base 89 3 vv (cSet obj v l).1.length (enc3 (cSet obj v l).1)) ∧ Fr (fun k => vv.ownBlock = some k) w w' := by
  have H := Lib.hid (And.intro hb ho)
  obtain ⟨g, hv, hf⟩ := ceOpenV hb ho hl
  have HF := Lib.hid (hf obj); clear hf
  cases hi : fidx obj l with
  | none =>
    have E : Hid (cSet obj v l = (l, false)) := by unfold cSet Hid; rw [hi]
    rw [hi] at HF
    clear hi hb ho hv
    go_enter Try.func38, Try.ntmps38
    go_wp2_with ((go_at_call 54; refine HF.out.mono ?_; rintro e w' ⟨rfl, rfl⟩))
    go_ret
    rw [E.out]
    exact ⟨rfl, H.out, Fr.refl _ _⟩
  | some i =>
    obtain ⟨hlt, _⟩ := fidx_lt obj l i hi
    have E : Hid (cSet obj v l = (l.set i (l[i].1, l[i].2.1, low v), true)) := by unfold cSet Hid; rw [hi]; simp only [cAt_lt l i hlt]
    rw [hi] at HF
    obtain ⟨cap, rfl⟩ := hv (by intro q; subst q; simp at hlt)
    have hc : w.cell? ⟨g, i * 3 + 2, none⟩ = some (.int .i64 l[i].2.2) := by rw [ho.cellAt (i * 3 + 2) (by omega)]; exact (enc3_get l i hlt).2.2
    have fz := ho.frozenAt (i * 3 + 2)
    have HB := Lib.hid hb; have HO := Lib.hid ho
    clear hi hb ho hv
    generalize l[i].2.2 = x at hc
    go_enter Try.func38, Try.ntmps38
    go_wp2_with (first
      | (go_at_call 54; refine HF.out.mono ?_; rintro e w' ⟨rfl, rfl⟩)
      | (go_at_call 51; refine (wLow _ v).mono ?_; rintro e w1 ⟨rfl, hf⟩; have hc1 := hf.cell hc (fun q => q); have fz1 : w1.frozen? ⟨g, i * 3 + 2, none⟩ = false := (hf.rules.2 g _ (World.block_lt_of_cell? _ _ hc)).trans fz; have HQ := Lib.hid hf; clear hf))
    go_ret
    rw [E.out]
    have hb1 := HQ.out.blk HB.out (fun q => q)
    have ho1 := Fr.owns HO.out HQ.out (fun _ _ q => q)
    have hne := own_ne ho1 hb1 (by decide)
    refine ⟨rfl, ⟨hb1.set_other (a := ⟨g, i * 3 + 2, none⟩) (fun q => hne (by rw [← q]; rfl)) _, ?_⟩, ?_⟩
    · have q := (ho1.stored (i * 3 + 2) (.int .i64 (low v))).1
      rw [enc3_set l (low v) i hlt] at q
      simpa using q
    · exact Fr.setCell (F := fun k => (Value.slice (some ⟨g, 0, none⟩) l.length cap).ownBlock = some k) (p := ⟨g, i * 3 + 2, none⟩) (HQ.out.mono (fun _ q => q.elim)) (.inl rfl) _
theorem ceSet {w : World} {b base : Nat} {l : List (Int × Int × Int)} (h : CeAt w b base l) (hl : l.length ≤ 1000) (obj v : Int) :
    Calls Try.prog 38 #[.pointer (some ⟨b, 0, none⟩), .int .i64 obj, .int .i64 v] w fun e w' => e = .returned (.bool (cSet obj v l).2) ∧ CeAt w' b base (cSet obj v l).1 ∧ TFr 89 base w w' := by
  obtain ⟨vv, hb, ho⟩ := h
  refine (ceSetV hb ho hl obj v).mono ?_
  rintro e w' ⟨h1, ⟨h2, h3⟩, h4⟩
  exact ⟨h1, ⟨vv, h2, h3⟩, h4.mono (fun k hk => .inl ⟨(ho.lt k hk).1, own_typed ho k hk⟩)⟩
end Go.Proofs.Ytadepdeckapgcaa
end

section
namespace Go.Proofs.Ytadepdeckapgcaa
open Go.RowKit Go.Proofs.YtadepdeckapgcaaW.PrintWords Go.Proofs.YtadepdeckapgcaaW.PrintLast Go.Proofs.YtadepdeckapgcaaW.PrintMore PHj
set_option linter.unusedSimpArgs false
set_option linter.unusedVariables false
abbrev Sh22 := S76
def allL (l : List (Int × Int × Int)) : List Sh22 := l.map fun x => ⟨x.1, x.2.2⟩
def AllRel (w : World) (l : List (Int × Int × Int)) (v i : Value) (wr : World) : Prop :=
  ∃ k : Nat, k ≤ l.length ∧ i = .int .i64 k ∧ Kd.R k76 76 wr w.heap.size (fun _ => True) v (allL (l.take k)) ∧ Below w.heap.size w wr
set_option maxRecDepth 100000 in
set_option maxHeartbeats 1000000 in
theorem ceAll {w : World} {b base : Nat} {l : List (Int × Int × Int)} (h : CeAt w b base l) (hl : l.length ≤ 1000) : Calls Try.prog 42 #[.pointer (some ⟨b, 0, none⟩)] w fun e w' =>
    ∃ v, e = .returned v ∧ Kd.R k76 76 w' w.heap.size (fun _ => True) v (allL l) ∧ Quiet w w' := by
  obtain ⟨v, hb, ho⟩ := h
  have h0 := hb.cell 0; simp at h0
  have hlt := hb.lt
  rcases ho.2 with ⟨rfl, hn⟩ | ⟨g, cap, cur, rfl, _⟩
  · have : l = [] := List.eq_nil_of_length_eq_zero hn
    subst this
    clear hb ho hn hl
    go_enter Try.func42, Try.ntmps42
    go_wp2
    refine wp_loop_rounds 1 ?_; rw [rounds_succ]
    go_wp2
    go_ret
    exact ⟨_, rfl, Kd.R_nil _ _ _ _ _, Fr.refl _ _⟩
  · have hgl := (ho.lt g rfl).2
    have HO := Lib.hid ho; have HB := Lib.hid hb; clear ho hb
    go_enter Try.func42, Try.ntmps42
    go_wp2
    go_loopw [3, 13] (fun v i wr => AllRel w l v i wr) (fun _ i _ => l.length - (intOf i).toNat)
    case atStart => exact ⟨0, by omega, rfl, by simpa [allL] using Kd.R_nil _ _ _ _ _, Below.refl _ _⟩
    case round =>
      obtain ⟨k, hk, rfl, hR, hB⟩ := hrel
      by_cases hlt2 : k < l.length
      · have hg := enc3_get l k hlt2
        have e1 : wr.cell? ⟨g, k * 3, none⟩ = some (.int .i64 l[k].1) := by rw [hB.cell hgl, HO.out.cellAt (k * 3) (by omega)]; exact hg.1
        have e2 : wr.cell? ⟨g, k * 3 + 1, none⟩ = some (.int .i64 l[k].2.1) := by rw [hB.cell hgl, HO.out.cellAt (k * 3 + 1) (by omega)]; exact hg.2.1
        have e3 : wr.cell? ⟨g, k * 3 + 2, none⟩ = some (.int .i64 l[k].2.2) := by rw [hB.cell hgl, HO.out.cellAt (k * 3 + 2) (by omega)]; exact hg.2.2
        have hgr : g < wr.heap.size := Nat.lt_of_lt_of_le hgl hB.size
        clear hg
        have ST : Hid (allL (l.take (k + 1)) = allL (l.take k) ++ [⟨l[k].1, l[k].2.2⟩]) := by unfold Hid allL; rw [List.take_succ_eq_append_getElem hlt2, List.map_append]; rfl
        have hlen : (allL (l.take k)).length ≤ 1000 := by unfold allL; simp; omega
        generalize l[k] = x at *
        obtain ⟨x1, x2, x3⟩ := x
        simp only at *
        go_upto_region 6 with fail
        obtain ⟨w2, hw2⟩ : ∃ w2, w2 = wr.alloc (.cells #[.int .i64 x1, .int .i64 x2, .int .i64 x3] 89) := ⟨_, rfl⟩
        have hX := Blk.new wr #[.int .i64 x1, .int .i64 x2, .int .i64 x3] 89
        have hR2 := Kd.R_below hR ((Below.refl _ wr).alloc (Nat.le_refl _) (.cells #[.int .i64 x1, .int .i64 x2, .int .i64 x3] 89))
        have hB2 := hB.alloc hB.size (.cells #[.int .i64 x1, .int .i64 x2, .int .i64 x3] 89)
        rw [← hw2] at hX hR2 hB2 ⊢
        clear hw2 hR hB e1 e2 e3
        generalize wr.heap.size = gx at *
        have x1' := hX.cell 0; simp at x1'
        have x3' := hX.cell 2; simp at x3'
        have HR := Lib.hid hR2; have HBB := Lib.hid hB2; clear hR2 hB2 hX
        go_wp2_with (at_builtin; refine Kd.R_append k76 (w0 := w) w.heap.size rfl (.tmp 17) (.tmp 23) 39 76 (.agg #[.int .i64 0, .int .i64 0]) 16 rfl Try.underlying39 info76 rfl (by decide) (by decide) _ (allL (l.take k)) ⟨x1, x3⟩ [.int .i64 x1, .int .i64 x3] (fun _ => True) (fun _ => False) rfl rfl (k76_mkM _ _ _ _) (fun _ q => q.elim) (fun _ _ => trivial) HR.out HBB.out HBB.out.size (by omega) ?_; intro v1 w1 hR1 hB1 _ _; have HR1 := Lib.hid hR1; have HB1 := Lib.hid hB1; clear hR1 hB1)
        go_roundw
        case rel => exact ⟨k + 1, by omega, by go_num, by rw [ST.out]; exact HR1.out, HB1.out⟩
        case measure => simp [intOf]; omega
      · obtain rfl : k = l.length := by omega
        have E : Hid (allL (l.take l.length) = allL l) := by unfold Hid; rw [List.take_of_length_le (Nat.le_refl _)]
        have HR := Lib.hid hR; have HBB := Lib.hid hB; clear hR hB
        go_wp2
        go_ret
        rw [← E.out]
        exact ⟨_, rfl, HR.out, Fr.of_below HBB.out⟩
theorem info81 : (Try.prog.info? 89).map (fun i => (i.zero, i.size, i.bytes)) = some (some (.agg #[.int .i64 0, .int .i64 0, .int .i64 0]), 3, 24) := by kernel_rfl
def newL (ks ts ns : Nat → Int) : Nat → List (Int × Int × Int)
  | 0 => []
  | k + 1 => if ks k = 7 then newL ks ts ns k ++ [((k : Int), ns k, low (ts k))] else newL ks ts ns k
theorem newL_len (ks ts ns : Nat → Int) : ∀ k, (newL ks ts ns k).length ≤ k
  | 0 => by simp [newL]
  | k + 1 => by
    have := newL_len ks ts ns k
    simp only [newL]
    split
    · simp; omega
    · omega
def NewRel (w : World) (ks ts ns : Nat → Int) (len : Nat) (i : Value) (wr : World) : Prop :=
  ∃ (k : Nat) (v : Value), k ≤ len ∧ i = .int .i64 k ∧ Blk wr w.heap.size #[v] 84 ∧ wr.ownsRow w.heap.size 89 3 v (newL ks ts ns k).length (enc3 (newL ks ts ns k)) ∧ Below w.heap.size w wr
def opD (ks ts ns : Nat → Int) (i j : Nat) : Value := if j = 0 then .int .i64 (ks i) else if j = 1 then .int .i64 (ts i) else .int .i64 (ns i)
theorem TFr.grow {t : TypeId} {base : Nat} {w w' : World} {size n : Nat} {v : Value} {xs : List Value} (ho : w.ownsRow base t size v n xs) (hg : w.grownBy w' v.ownBlock) : TFr t base w w' :=
  Fr.grown (Fr.refl _ _) hg (fun k hk => .inl ⟨(ho.lt k hk).1, own_typed ho k hk⟩)
theorem own_shape {t : TypeId} {base : Nat} {w : World} {size n : Nat} {v : Value} {xs : List Value} (ho : w.ownsRow base t size v (n + 1) xs) : ∃ g cap, v = .slice (some ⟨g, 0, none⟩) (n + 1) cap := by
  rcases ho.2 with ⟨_, h⟩ | ⟨g, cap, cur, e, _⟩
  · omega
  · exact ⟨g, cap, e⟩
set_option maxRecDepth 100000 in
set_option maxHeartbeats 2000000 in
theorem ceNew (w : World) (v : Value) (len : Nat) (hlen : len ≤ 60) (ks ts ns : Nat → Int) (hv : (len = 0 ∧ ∃ a c, v = .slice a 0 c) ∨ ∃ b o cap : Nat, b < w.heap.size ∧ len ≤ 9223372036854775807 ∧ v = .slice (some ⟨b, o, none⟩) len cap ∧ ∀ i j, i < len → j < 3 → w.cell? ⟨b, o + i * 3 + j, none⟩ = some (opD ks ts ns i j)) :
    Calls Try.prog 36 #[v] w fun e w' => e = .returned (.pointer (some ⟨w.heap.size, 0, none⟩)) ∧ CeAt w' w.heap.size w.heap.size (newL ks ts ns len) ∧ Quiet w w' := by
  rcases hv with ⟨rfl, av, acap, rfl⟩ | ⟨b, o, cap, hb, hl, rfl, hc⟩
  · go_enter Try.func36, Try.ntmps36
    go_wp2
    refine wp_loop_rounds 1 ?_; rw [rounds_succ]
    go_wp2
    go_ret
    exact ⟨rfl, ⟨_, Blk.new _ _ _, World.ownsRow_nil _ _ _ _⟩, by (repeat (first | exact Fr.refl _ _ | assumption | (refine Fr.quiet ?_ (by assumption)) | refine Fr.quiet ?_ HF.out | refine Fr.quiet ?_ HF2.out | refine Fr.drew ?_ | refine Fr.drewN ?_ _ | refine Fr.alloc ?_ _ | refine Fr.setCell ?_ (.inr (by first | omega | (simp; done) | (simp; omega))) _))⟩
  have HC := Lib.hid hc; clear hc
  go_enter Try.func36, Try.ntmps36
  go_wp2
  go_loopw [10] (fun i wr => NewRel w ks ts ns len i wr) (fun i _ => len - (intOf i).toNat)
  case atStart => exact ⟨0, _, by omega, rfl, Blk.new _ _ _, World.ownsRow_nil _ _ _ _, (Below.refl _ _).alloc (Nat.le_refl _) _⟩
  case round =>
    obtain ⟨k, v, hk, rfl, hB, hO, hQ⟩ := hrel
    by_cases hlt : k < len
    · have hc0 : wr.cell? ⟨b, o + k * 3, none⟩ = some (.int .i64 (ks k)) := by rw [hQ.cell hb]; exact HC.out k 0 hlt (by omega)
      have hc1 : wr.cell? ⟨b, o + k * 3 + 1, none⟩ = some (.int .i64 (ts k)) := by rw [hQ.cell hb]; exact HC.out k 1 hlt (by omega)
      have hc2 : wr.cell? ⟨b, o + k * 3 + 2, none⟩ = some (.int .i64 (ns k)) := by rw [hQ.cell hb]; exact HC.out k 2 hlt (by omega)
      have ST : Hid (newL ks ts ns (k + 1) = if ks k = 7 then newL ks ts ns k ++ [((k : Int), ns k, low (ts k))] else newL ks ts ns k) := rfl
      have hll := newL_len ks ts ns k
      go_upto_region 5 with fail
      obtain ⟨w2, hw2⟩ : ∃ w2, w2 = wr.alloc (.cells #[.int .i64 (ks k), .int .i64 (ts k), .int .i64 (ns k)] 86) := ⟨_, rfl⟩
      have hX := Blk.new wr #[.int .i64 (ks k), .int .i64 (ts k), .int .i64 (ns k)] 86
      have hB2 := hB.alloc (.cells #[.int .i64 (ks k), .int .i64 (ts k), .int .i64 (ns k)] 86)
      have hO2 := hO.alloc (.cells #[.int .i64 (ks k), .int .i64 (ts k), .int .i64 (ns k)] 86)
      have hQ2 := hQ.alloc hQ.size (.cells #[.int .i64 (ks k), .int .i64 (ts k), .int .i64 (ns k)] 86)
      rw [← hw2] at hX hB2 hO2 hQ2 ⊢
      clear hw2 hB hO hQ hc0 hc1 hc2
      generalize wr.heap.size = gx at *
      have x0 := hX.cell 0; simp at x0
      have x1 := hX.cell 1; simp at x1
      have x2 := hX.cell 2; simp at x2
      have hb0 := hB2.cell 0; simp at hb0
      have HB := Lib.hid hB2; have HO := Lib.hid hO2; have HQ := Lib.hid hQ2; have HX := Lib.hid hX; clear hB2 hO2 hQ2 hX
      by_cases h7 : ks k = 7
      · rw [if_pos h7] at ST
        generalize newL ks ts ns k = l at *
        have h7' : (ks k == 7) = true := by simpa using h7
        clear h7
        go_wp2_with fail
        go_region_law (first
          | (go_simp; go_at_call 51; refine (wLow _ _).mono ?_; rintro e w3 ⟨rfl, hf⟩; have hL : Quiet w2 w3 := hf.undrew; have hF1 : TFr 89 w.heap.size w2 w3 := TFr.of_quiet hL; have k0 := hL.cell hb0 (fun q => q); have k2 := hL.cell x2 (fun q => q); have k1 : ∀ o, (w3.alloc o).cell? ⟨w.heap.size, 0, none⟩ = some v := (fun o => by simpa using ((hL.blk HB.out (fun q => q)).alloc o).cell 0))
          | (refine step_append_cells (w0 := w) w.heap.size rfl (.tmp 22) (.tmp 30) 82 89 (.agg #[.int .i64 0, .int .i64 0, .int .i64 0]) 3 24 rfl Try.underlying82 info81 rfl (by decide) (by decide) v l.length (enc3 l) [.int .i64 k, .int .i64 (ns k), .int .i64 (low (ts k))] rfl rfl rfl (by intro u hu; simp at hu; rcases hu with rfl | rfl | rfl <;> rfl) (Fr.owns HO.out hL (fun _ _ q => q)) (HQ.out.trans ((hL.below (fun _ _ q => q)).mono HQ.out.size)) (Nat.le_trans HQ.out.size hL.size) (by omega) ?_; intro v1 w4 ho1 hb1 hg1 hat; have hF2 : TFr 89 w.heap.size w2 w4 := hF1.trans (TFr.grow (Fr.owns HO.out hL (fun _ _ q => q)) hg1); obtain ⟨g1, cap1, rfl⟩ := own_shape ho1; have HO1 := Lib.hid ho1; have HB1 := Lib.hid hb1; clear ho1 hb1 hg1 hat; have HB4 := Lib.hid (hF2.blk HB.out (by decide)); have k3 := HB4.out.cell 0; have k4 := HB4.out.free 0; simp at k3))
        all_goals
          go_wp2_with fail
          go_roundw
          case rel =>
            refine ⟨k + 1, _, by omega, by go_num, by simpa using HB4.out.set 0 _, ?_, HB1.out.setCell (Nat.le_refl _) _⟩
            rw [ST.out, enc3_append]
            have hne := own_ne HO1.out HB4.out (by decide)
            exact by simpa [enc3] using own_setCell HO1.out (fun q => hne q.symm) _
          case measure => simp [intOf]; omega
      · rw [if_neg h7] at ST
        have h7' : (ks k == 7) = false := by simpa using h7
        clear h7
        go_wp2_with fail
        go_roundw
        case rel => exact ⟨k + 1, v, by omega, by go_num, HB.out, by rw [ST.out]; exact HO.out, HQ.out⟩
        case measure => simp [intOf]; omega
    · obtain rfl : k = len := by omega
      have HB := Lib.hid hB; have HO := Lib.hid hO; have HQ := Lib.hid hQ
      clear hB hO hQ
      go_wp2
      go_ret
      exact ⟨rfl, ⟨_, HB.out, HO.out⟩, Fr.of_below HQ.out⟩
end Go.Proofs.Ytadepdeckapgcaa
end

section
namespace Go.Proofs.Ytadepdeckapgcaa
open Go.RowKit Go.Proofs.YtadepdeckapgcaaW.PrintWords Go.Proofs.YtadepdeckapgcaaW.PrintLast Go.Proofs.YtadepdeckapgcaaW.PrintMore PHj
set_option linter.unusedSimpArgs false
set_option linter.unusedVariables false
abbrev De22 := S86
def dk (d : List De22) (i : Nat) : Int := (d.getD i z86).f0
def da (d : List De22) (i : Nat) : Int := (d.getD i z86).f1
def db (d : List De22) (i : Nat) : Int := (d.getD i z86).f2
def newOf (d : List De22) : List (Int × Int × Int) := newL (dk d) (da d) (db d) d.length
theorem allL_len (l : List (Int × Int × Int)) : (allL l).length = l.length := by simp [allL]
theorem new_l0 (d : List De22) (hd : d.length ≤ 60) : ∀ n k (i : Nat), d.length - i = n → i ≤ d.length → n < k → logjamref22_New.l0 k d (allL (newL (dk d) (da d) (db d) i)) (i : Int) = some (allL (newOf d))
  | 0, 0, i, _, _, h => by omega
  | n + 1, 0, i, _, _, h => by omega
  | 0, k + 1, i, h, hi, _ => by
    obtain rfl : i = d.length := by omega
    simp only [logjamref22_New.l0]
    rw [if_neg (by omega)]
    rfl
  | n + 1, k + 1, i, h, hi, hk => by
    have ih := new_l0 d hd n k (i + 1) (by omega) (by omega) (by omega)
    have hl := newL_len (dk d) (da d) (db d) i
    have e : wrap64 ((i : Int) + 1) = ((i + 1 : Nat) : Int) := by unfold wrap64; omega
    simp only [logjamref22_New.l0]
    rw [if_pos (by omega), if_pos (by omega), e]
    have e0 : (rd_T86 d (i : Int)).f0 = dk d i := rfl
    have e1 : (rd_T86 d (i : Int)).f1 = da d i := rfl
    rw [e0, e1]
    by_cases h7 : dk d i = 7
    · rw [if_pos h7, rLow_f, Option.bind_some, if_pos (by rw [allL_len]; omega)]
      rw [← ih]
      simp only [newL, if_pos h7]
      simp [allL]
    · rw [if_neg h7, ← ih]
      simp only [newL, if_neg h7]
theorem new_f (d : List De22) (hd : d.length ≤ 60) : logjamref22_New.f 100 d = some (allL (newOf d)) :=
  new_l0 d hd _ 100 0 rfl (by omega) (by omega)
def fI (obj : Int) (l : List (Int × Int × Int)) : Int := match fidx obj l with | some i => i | none => -1
theorem rd_allL (l : List (Int × Int × Int)) (i : Nat) (h : i < l.length) : rd_T76 (allL l) (i : Int) = ⟨l[i].1, l[i].2.2⟩ := by
  unfold rd_T76 allL
  simp [h]
theorem find_l0 (obj : Int) (l : List (Int × Int × Int)) (hl : l.length ≤ 1000) : ∀ n k (i : Nat), l.length - i = n → i ≤ l.length → (∀ j (hj : j < l.length), j < i → l[j].1 ≠ obj) → n < k → logjamref22_Find.l0 k (allL l) obj (i : Int) = some (fI obj l)
  | 0, 0, i, _, _, _, h => by omega
  | n + 1, 0, i, _, _, _, h => by omega
  | 0, k + 1, i, h, hi, hno, _ => by
    obtain rfl : i = l.length := by omega
    simp only [logjamref22_Find.l0]
    rw [if_neg (by rw [allL_len]; omega)]
    unfold fI
    rw [fidx_none obj l (fun j hj => hno j hj hj)]
  | n + 1, k + 1, i, h, hi, hno, hk => by
    have e : wrap64 ((i : Int) + 1) = ((i + 1 : Nat) : Int) := by unfold wrap64; omega
    simp only [logjamref22_Find.l0]
    rw [if_pos (by rw [allL_len]; omega), if_pos (by omega), e, rd_allL l i (by omega)]
    by_cases hx : l[i].1 = obj
    · rw [if_pos hx]
      unfold fI
      rw [fidx_some obj l i (by omega) hx (fun j hj => hno j (by omega) hj)]
    · rw [if_neg hx]
      exact find_l0 obj l hl n k (i + 1) (by omega) (by omega) (fun j hj h => by
        by_cases e : j = i
        · subst e; exact hx
        · exact hno j hj (by omega)) (by omega)
theorem find_f (obj : Int) (l : List (Int × Int × Int)) (hl : l.length ≤ 1000) : logjamref22_Find.f 1001 (allL l) obj = some (fI obj l) :=
  find_l0 obj l hl _ 1001 0 rfl (by omega) (fun j _ h => by omega) (by omega)
theorem set_f (obj v : Int) (l : List (Int × Int × Int)) (hl : l.length ≤ 1000) : logjamref22_Set.f 1001 (allL l) obj v = some (allL (cSet obj v l).1) := by
  unfold logjamref22_Set.f
  rw [Option.bind_some, if_pos (by rw [allL_len]; simp; omega), Option.bind_some, find_f obj l hl, Option.bind_some, List.nil_append]
  unfold fI cSet
  cases hi : fidx obj l with
  | none => simp
  | some i =>
    obtain ⟨hlt, hx⟩ := fidx_lt obj l i hi
    simp only
    rw [if_pos (by omega), rLow_f, Option.bind_some, if_pos (by omega), if_pos (by rw [allL_len]; omega), rd_allL l i hlt]
    simp [allL, List.map_set, cAt_lt l i hlt]
theorem same22_l0 (l : List Sh22) (hl : l.length ≤ 1000) : ∀ n k (i : Nat), l.length - i = n → i ≤ l.length → n < k → logjamlaw20_Same.l0 k l l (i : Int) = some true
  | 0, 0, i, _, _, h => by omega
  | n + 1, 0, i, _, _, h => by omega
  | 0, k + 1, i, h, hi, _ => by
    simp only [logjamlaw20_Same.l0]
    rw [if_neg (by omega)]
  | n + 1, k + 1, i, h, hi, hk => by
    have e : wrap64 ((i : Int) + 1) = ((i + 1 : Nat) : Int) := by unfold wrap64; omega
    simp only [logjamlaw20_Same.l0]
    rw [if_pos (by omega), if_pos (by omega), if_pos (by omega), if_neg (by simp), e]
    exact same22_l0 l hl n k (i + 1) (by omega) (by omega) (by omega)
theorem same22_f (l : List Sh22) (hl : l.length ≤ 1000) : logjamlaw20_Same.f 1001 l l = some true := by
  unfold logjamlaw20_Same.f
  rw [if_pos rfl]
  exact same22_l0 l hl _ 1001 0 rfl (by omega) (by omega)
def R22 (w : World) (base : Nat) (v : Value) (l : List Sh22) : Prop := Kd.R k76 76 w base (fun k => v.ownBlock = some k) v l
theorem R22.of {w : World} {base : Nat} {ok : Nat → Prop} {v : Value} {l : List Sh22} (h : Kd.R k76 76 w base ok v l) : R22 w base v l :=
  ⟨fun k hk => hk, h.2.imp_ (fun _ _ q => q)⟩
theorem R22.fr {w w1 : World} {base : Nat} {v : Value} {l : List Sh22} {F : Nat → Prop} (h : R22 w base v l) (hf : Fr F w w1) (hF : ∀ k, v.ownBlock = some k → ¬ F k) : R22 w1 base v l :=
  Kd.R_step h (fun k ho hk => hf.block k hk (hF k ho))
theorem R22.reads {w : World} {base : Nat} {v : Value} {l : List Sh22} (h : R22 w base v l) : ∃ A c, v = .slice A l.length c ∧ l.length ≤ c ∧ Kd.C k76 w A l.length l := Kd.R_reads h
theorem R22.tfr {w w1 : World} {base b2 : Nat} {v : Value} {l : List Sh22} (h : R22 w base v l) (hf : TFr 89 b2 w w1) : R22 w1 base v l :=
  h.fr hf (fun k hk ⟨_, cells, hc⟩ => by
    obtain ⟨inner, ho⟩ := Kd.R_own h
    obtain ⟨c2, hc2⟩ := own_typed ho k hk
    rw [hc] at hc2
    injection hc2 with hc2
    injection hc2 with _ hc2
    exact absurd hc2 (by decide))
theorem Fr.of_drawn22 {w w' : World} (h : Drawn0 w w') : Quiet w w' := by
  obtain ⟨n, rfl⟩ := h
  exact (Fr.refl _ _).drewN n
def D22 (w : World) (v : Value) (d : List De22) : Prop := ∃ A c, v = .slice A d.length c ∧ d.length ≤ c ∧ Kd.C k86 w A d.length d ∧ (d ≠ [] → ∃ g o, A = some ⟨g, o, none⟩ ∧ g < w.heap.size)
theorem D22.quiet {w w' : World} {v : Value} {d : List De22} (h : D22 w v d) (hq : Quiet w w') : D22 w' v d := by
  obtain ⟨A, c, h1, h2, h3, h4⟩ := h
  exact ⟨A, c, h1, h2, Kd.C_below h3 (hq.below (fun _ _ q => q)), fun q => by obtain ⟨g, o, e, hg⟩ := h4 q; exact ⟨g, o, e, Nat.lt_of_lt_of_le hg hq.size⟩⟩
theorem rNew22 (w : World) (v : Value) (d : List De22) (hd : d.length ≤ 60) (hD : D22 w v d) :
    Calls Try.prog 43 #[v] w fun e w' => ∃ A' c', e = .returned (.slice A' (allL (newOf d)).length c') ∧ R22 w' w.heap.size (.slice A' (allL (newOf d)).length c') (allL (newOf d)) ∧ Quiet w w' := by
  obtain ⟨A, c, rfl, hc, hC, _⟩ := hD
  refine (logjamref22_New.calls 100 A c d _ w hC hc (new_f d hd)).mono fun e w' ⟨v, h1, h2, h3⟩ => ?_
  obtain ⟨A', c', rfl⟩ := Kd.R_slice h2
  exact ⟨A', c', h1, R22.of h2, Fr.of_below h3⟩
theorem rFind22 (w : World) (base : Nat) (A : Option Addr) (c : Nat) (l : List (Int × Int × Int)) (hl : l.length ≤ 1000) (hR : R22 w base (.slice A (allL l).length c) (allL l)) (obj : Int) :
    Calls Try.prog 47 #[.slice A (allL l).length c, .int .i64 obj] w fun e w' => e = .returned (.int .i64 (fI obj l)) ∧ Quiet w w' := by
  obtain ⟨A', c', he, hc, hC⟩ := hR.reads
  simp only [Value.slice.injEq, true_and] at he
  obtain ⟨rfl, rfl⟩ := he
  exact (logjamref22_Find.calls 1001 _ _ _ _ _ w hC hc (find_f obj l hl)).mono fun e w' ⟨h1, h2⟩ => ⟨h1, Fr.of_drawn22 h2⟩
theorem rSet22 (w : World) (base : Nat) (A : Option Addr) (c : Nat) (l : List (Int × Int × Int)) (hl : l.length ≤ 1000) (hR : R22 w base (.slice A (allL l).length c) (allL l)) (obj v : Int) :
    Calls Try.prog 45 #[.slice A (allL l).length c, .int .i64 obj, .int .i64 v] w fun e w' => ∃ A' c', e = .returned (.slice A' (allL (cSet obj v l).1).length c') ∧ R22 w' w.heap.size (.slice A' (allL (cSet obj v l).1).length c') (allL (cSet obj v l).1) ∧ Quiet w w' := by
  obtain ⟨A', c', he, hc, hC⟩ := hR.reads
  simp only [Value.slice.injEq, true_and] at he
  obtain ⟨rfl, rfl⟩ := he
  exact (logjamref22_Set.calls 1001 _ _ _ _ _ _ w hC hc (set_f obj v l hl)).mono fun e w' ⟨v, h1, h2, h3⟩ => by
    obtain ⟨A', c', rfl⟩ := Kd.R_slice h2
    exact ⟨A', c', h1, R22.of h2, Fr.of_below h3⟩
theorem sameYes22 (w : World) (base base' : Nat) (l : List Sh22) (hl : l.length ≤ 1000) (v v' : Value) (h : R22 w base v l) (h' : R22 w base' v' l) :
    Calls Try.prog 19 #[v, v'] w fun e w' => e = .returned (.bool true) ∧ Quiet w w' := by
  obtain ⟨A, c, rfl, hc, hC⟩ := h.reads
  obtain ⟨A', c', rfl, hc', hC'⟩ := h'.reads
  exact (logjamlaw20_Same.calls 1001 _ _ l _ _ l true w hC hc hC' hc' (same22_f l hl)).mono fun e w' ⟨h1, h2⟩ => ⟨h1, Fr.of_drawn22 h2⟩
theorem ceNewD (w : World) (v : Value) (d : List De22) (hd : d.length ≤ 60) (hD : D22 w v d) :
    Calls Try.prog 36 #[v] w fun e w' => e = .returned (.pointer (some ⟨w.heap.size, 0, none⟩)) ∧ CeAt w' w.heap.size w.heap.size (newOf d) ∧ Quiet w w' := by
  obtain ⟨A, c, rfl, hc, hC, hA⟩ := hD
  refine ceNew w _ d.length hd (dk d) (da d) (db d) ?_
  by_cases h0 : d = []
  · subst h0
    exact .inl ⟨rfl, A, c, rfl⟩
  · right
    obtain ⟨g, o, rfl, hg⟩ := hA h0
    refine ⟨g, o, c, hg, by omega, rfl, fun i j hi hj => ?_⟩
    obtain ⟨ad, e, h1, h2, h3⟩ := at_T86 hC i (by omega) (by omega)
    simp only [Option.some.injEq] at e
    subst e
    have ea : (⟨g, o, none⟩ : Addr).add ((i : Int).toNat * 3) = ⟨g, o + i * 3, none⟩ := by
      rw [addr_add]; simp
    rw [ea] at h1 h2 h3
    unfold opD
    match j, hj with
    | 0, _ => exact h1
    | 1, _ => exact h2
    | 2, _ => exact h3
theorem newOf_len (d : List De22) : (newOf d).length ≤ d.length := newL_len _ _ _ _
theorem cSet_len (obj v : Int) (l : List (Int × Int × Int)) : (cSet obj v l).1.length = l.length := by
  unfold cSet
  split <;> simp
end Go.Proofs.Ytadepdeckapgcaa
end

section
namespace Go.Proofs.Ytadepdeckapgcaa.Hi
open Go.Proofs.Ytadepdeckapgcaa Go.RowKit Go.Maps Go.Proofs.YtadepdeckapgcaaW.PrintWords Go.Proofs.YtadepdeckapgcaaW.PrintLast Go.Proofs.YtadepdeckapgcaaW.PrintMore Go.Proofs.Ytadepdeckapgcaa.PHj Go.Proofs.Ytadepdeckapgcaa.PHi
set_option linter.unusedVariables false
set_option linter.unusedSimpArgs false
abbrev Pr := S76
abbrev kPr : Kd Pr := k76
def pidx (obj : Int) : Nat → List Pr → Int
  | _, [] => -1
  | k, x :: r => if x.f0 = obj then (k : Int) else pidx obj (k + 1) r
theorem pidx_neg (obj : Int) : ∀ (l : List Pr) (k : Nat), decide (pidx obj k l < 0) = !l.any (fun x => x.f0 == obj)
  | [], k => rfl
  | x :: r, k => by
    rw [List.any_cons]
    by_cases h : x.f0 = obj
    · have e : pidx obj k (x :: r) = (k : Int) := by simp only [pidx]; exact if_pos h
      rw [decide_eq_false (by rw [e]; omega), h]; simp
    · have e : pidx obj k (x :: r) = pidx obj (k + 1) r := by simp only [pidx]; exact if_neg h
      rw [show decide (pidx obj k (x :: r) < 0) = decide (pidx obj (k + 1) r < 0) from by simp only [e], pidx_neg obj r (k + 1), beq_eq_false_iff_ne.2 h, Bool.false_or]
theorem wFind1 (w : World) (p : Pr) (pc : Nat) (obj : Int) (hc : w.cell? ⟨pc, 0, none⟩ = some (.int .i64 obj)) :
    Calls Try.prog 61 #[.agg #[.int .i64 p.f0, .int .i64 p.f1], .pointer (some ⟨pc, 0, none⟩)] w fun e w' => e = .returned (.bool (p.f0 == obj)) ∧ Below w.heap.size w w' := by
  have hb : Hid (∀ o, Below w.heap.size w (w.alloc o)) := Lib.hid (fun o => (Below.refl _ _).alloc (Nat.le_refl _) _)
  have hl := World.block_lt_of_cell? _ _ hc
  go_enter Try.func61, Try.ntmps61
  go_wp2
  go_ret
  exact ⟨rfl, hb.out _⟩
theorem wIdxPr (w : World) (A : Option Addr) (c : Nat) (l : List Pr) (hC : Kd.C kPr w A l.length l) (hl : l.length ≤ 1000000) (pc : Nat) (obj : Int) (hc : w.cell? ⟨pc, 0, none⟩ = some (.int .i64 obj)) (hpl : pc < w.heap.size) :
    Calls Try.prog 60 #[.slice A l.length c, .func (.func 61) #[] #[.pointer (some ⟨pc, 0, none⟩)]] w fun e w' => e = .returned (.int .i64 (pidx obj 0 l)) ∧ Below w.heap.size w w' := by
  have HC := Lib.hid hC; have HK := Lib.hid hc
  clear hC hc
  have eg : ∀ args w, (callFunc 61 args).run Try.prog w = .ok (.enter 61 args) w := enters_of Try.func61 (by kernel_rfl) rfl
  go_enter Try.func60, Try.ntmps60
  go_wp2
  go_loopw [8] (fun i wr => ∃ k : Nat, k ≤ l.length ∧ i = .int .i64 k ∧ Hid (pidx obj k (l.drop k) = pidx obj 0 l ∧ Below w.heap.size w wr)) (fun i _ => l.length - (intOf i).toNat)
  case atStart => exact ⟨0, Nat.zero_le _, rfl, Lib.hid ⟨rfl, Below.refl _ _⟩⟩
  case round =>
    obtain ⟨k, hk, rfl, HR⟩ := hrel
    obtain ⟨hx, hB⟩ := HR.out
    by_cases hlt : k < l.length
    · obtain ⟨ad, eA, x0, x1⟩ := at_T76 HC.out (k : Int) (by omega) (by omega)
      cases eA
      have hr : rd_T76 l (k : Int) = l[k] := by unfold rd_T76; simp [hlt]
      rw [hr] at x0 x1
      simp only [Int.toNat_natCast] at x0 x1
      rw [List.drop_eq_getElem_cons hlt] at hx
      generalize l[k] = x at x0 x1 hx
      have HF1 := Lib.hid (wFind1 wr x pc obj ((hB.cell (p := ⟨pc, 0, none⟩) hpl).trans HK.out))
      replace x0 := (hB.cell (World.block_lt_of_cell? w _ x0)).trans x0
      replace x1 := (hB.cell (World.block_lt_of_cell? w _ x1)).trans x1
      simp only [pidx] at hx
      have HX := Lib.hid hx; have HBL := Lib.hid hB
      clear hx hB HR hr
      obtain ⟨px, hpx⟩ : ∃ b, b = (x.f0 == obj) := ⟨_, rfl⟩
      rw [← hpx] at HF1
      cases px
      · rw [if_neg (by intro e; rw [e] at hpx; simp at hpx)] at HX
        clear hpx
        go_wp2_with (go_at_call 61; refine HF1.out.mono ?_; rintro e w' ⟨rfl, hf⟩; have HF := Lib.hid hf; clear hf)
        go_roundw
        case rel => exact ⟨k + 1, by omega, by go_num, Lib.hid ⟨HX.out, HBL.out.trans (HF.out.mono HBL.out.size)⟩⟩
        case measure => simp [intOf]; omega
      · rw [if_pos (beq_iff_eq.1 hpx.symm)] at HX
        clear hpx
        go_wp2_with (go_at_call 61; refine HF1.out.mono ?_; rintro e w' ⟨rfl, hf⟩; have HF := Lib.hid hf; clear hf)
        go_ret
        rw [← HX.out]
        exact ⟨rfl, HBL.out.trans (HF.out.mono HBL.out.size)⟩
    · have hx' : pidx obj 0 l = -1 := by rw [← hx, List.drop_of_length_le (by omega)]; rfl
      have HX := Lib.hid hx'; have HBL := Lib.hid hB
      clear hx hx' hB HR
      go_wp2
      go_ret
      rw [HX.out]
      exact ⟨rfl, HBL.out⟩
theorem wFind (w : World) (A : Option Addr) (c : Nat) (l : List Pr) (hC : Kd.C kPr w A l.length l) (hl : l.length ≤ 1000000) (obj : Int) :
    Calls Try.prog 55 #[.slice A l.length c, .int .i64 obj] w fun e w' => e = .returned (.int .i64 (pidx obj 0 l)) ∧ Below w.heap.size w w' := by
  have HB := Lib.hid ((Below.refl w.heap.size w).alloc (Nat.le_refl _) (.cells #[.int .i64 obj] 3))
  have HX := Lib.hid (wIdxPr (w.alloc (.cells #[.int .i64 obj] 3)) A c l (Kd.C_below hC HB.out) hl w.heap.size obj (by simp) (by simp))
  clear hC
  go_enter Try.func55, Try.ntmps55
  go_wp2_with (go_at_call 60; refine HX.out.mono ?_; rintro e w' ⟨rfl, hf⟩; have HF := Lib.hid hf; clear hf)
  go_ret
  exact ⟨rfl, HB.out.trans (HF.out.mono HB.out.size)⟩
theorem infoPr : (Try.prog.info? 62).map (fun i => (i.zero, i.size, i.bytes)) = some (some (.agg #[.int .i64 0, .int .i64 0]), 2, 16) := by kernel_rfl
structure LgAt (w : World) (base pb : Nat) (L : List Pr) (uv : Value) : Prop where
  blk : ∃ fv n, Blk w pb #[fv, .int .i64 n, .int .i64 0, uv, .slice none 0 0] 92
  row : Kd.R kPr 62 w base (fun _ => True) uv L
  at_ : base ≤ pb
def wroteL (L : List Pr) (c was : Int) : List Pr := if L.any (fun x => x.f0 == c) then L else L ++ [⟨c, was⟩]
theorem wWroteNil (w : World) (c was : Int) : Calls Try.prog 41 #[.pointer none, .int .i64 c, .int .i64 was] w fun e w' => e = .returned (.tuple #[]) ∧ w' = w := by
  go_enter Try.func41, Try.ntmps41
  go_wp2
  go_end0
  exact ⟨rfl, rfl⟩
theorem wWrote (w : World) (base pb : Nat) (L : List Pr) (uv : Value) (h : LgAt w base pb L uv) (hl : L.length ≤ 1000000) (c was : Int) :
    Calls Try.prog 41 #[.pointer (some ⟨pb, 0, none⟩), .int .i64 c, .int .i64 was] w fun e w' => e = .returned (.tuple #[]) ∧ ∃ uv', LgAt w' base pb (wroteL L c was) uv' ∧ (uv'.ownBlock = uv.ownBlock ∨ ∃ g, uv'.ownBlock = some g ∧ w.heap.size ≤ g) ∧ Fr (fun k => k = pb ∨ uv.ownBlock = some k) w w' := by
  obtain ⟨⟨fv, n, hb⟩, hr, hat⟩ := h
  obtain ⟨A, cc, rfl, hcc, hC⟩ := Kd.R_reads hr
  have y3 := hb.cell 3
  simp at y3
  have HF := Lib.hid (wFind w A cc L hC hl c)
  have hneg := pidx_neg c L 0
  have HB := Lib.hid hb; have HR := Lib.hid hr
  unfold wroteL
  generalize pidx c 0 L = ix at HF hneg
  by_cases hin : L.any (fun x => x.f0 == c) = true
  · rw [if_pos hin]
    rw [hin] at hneg
    have hd : decide (ix < 0) = false := hneg
    clear hneg hin hb hr hC
    go_enter Try.func41, Try.ntmps41
    go_wp2_with (go_at_call 55; refine HF.out.mono ?_; rintro e w' ⟨rfl, hf⟩; have HFF := Lib.hid hf; clear hf)
    go_end0
    have q : Quiet w _ := Fr.of_below HFF.out
    exact ⟨rfl, _, ⟨⟨fv, n, q.blk HB.out (fun x => x)⟩, Kd.R_below HR.out HFF.out, hat⟩, .inl rfl, Fr.of_below HFF.out⟩
  · rw [if_neg hin]
    rw [Bool.eq_false_iff.2 hin] at hneg
    have hd : decide (ix < 0) = true := hneg
    clear hneg hin hb hr hC
    go_enter Try.func41, Try.ntmps41
    go_wp2_with fail
    refine HF.out.mono ?_
    rintro e w5 ⟨rfl, hf⟩
    have hb5 : Blk w5 pb #[fv, .int .i64 n, .int .i64 0, .slice A L.length cc, .slice none 0 0] 92 := (hf.block _ HB.out.lt).trans HB.out
    have z3 := hb5.cell 3
    simp at z3
    have HB5 := Lib.hid hb5; have HR5 := Lib.hid (Kd.R_below HR.out hf); have HFF := Lib.hid hf
    have hs5 := hf.size
    have hbs : base ≤ w5.heap.size := by have := HB.out.lt; omega
    clear hf hb5 HF
    go_wp2_with ((with_reducible refine gate_builtin (b := .append) (xs := #[.tmp 21, .tmp 25]) rfl ?_); at_builtin; refine Kd.R_append kPr (w0 := w5) base rfl (.tmp 21) (.tmp 25) 58 62 (.agg #[.int .i64 0, .int .i64 0]) 16 rfl Try.underlying58 infoPr rfl (by decide) (by omega) _ L ⟨c, was⟩ [.int .i64 c, .int .i64 was] (fun _ => True) (fun _ => False) rfl rfl ?aP (fun _ hk => hk.elim) ?aF HR5.out (Below.refl _ _) ?aS ?aL ?_; (case aP => exact k76_mkM _ _ _ _); (case aF => intro k hk; trivial); (case aS => omega); (case aL => omega); intro v7 w7 ho7 hb7 hg7 hat7; have hb8 : Blk w7 pb #[fv, .int .i64 n, .int .i64 0, .slice A L.length cc, .slice none 0 0] 92 := (hg7.block _ HB5.out.lt (Kd.R_ne HR5.out HB5.out (by decide))).trans HB5.out; have f7 := hb8.free 3; have z7 := hb8.cell 3; simp at z7; have HB7 := Lib.hid hb8; have HR7 := Lib.hid ho7; have HG7 : Hid (w5.grownBy w7 (Value.slice A L.length cc).ownBlock) := Lib.hid hg7; have HA7 : Hid (v7.ownBlock = (Value.slice A L.length cc).ownBlock ∨ ∃ b, v7.ownBlock = some b ∧ w5.heap.size ≤ b) := Lib.hid hat7; obtain ⟨L7, hL7⟩ : ∃ z : List Pr, z = L ++ [⟨c, was⟩] := ⟨_, rfl⟩; rw [← hL7] at ho7 HR7; have HL7 := Lib.hid hL7; clear hL7; obtain ⟨A7, c7, rfl⟩ := Kd.R_slice ho7; clear hb8 ho7 hb7 hg7 hat7)
    go_end0
    rw [← HL7.out]
    refine ⟨rfl, _, ⟨⟨fv, n, HB7.out.set 3 _⟩, ?_, hat⟩, ?_, ?_⟩
    · exact Kd.R_mono (Kd.R_far (p := ⟨pb, 3, none⟩) (Kd.R_types HR7.out HB7.out (by decide)) (fun _ hk => hk.2) _) (fun _ _ => trivial)
    · rcases HA7.out with e | ⟨g, e, hg⟩
      · exact .inl e
      · exact .inr ⟨g, e, by omega⟩
    · exact ((Fr.of_below HFF.out).grown HG7.out (fun k hk => .inl (.inr hk))).setCell (p := ⟨pb, 3, none⟩) (.inl (.inl rfl)) _
end Go.Proofs.Ytadepdeckapgcaa.Hi
end

section
namespace Go.Proofs.Ytadepdeckapgcaa.Hi
open Go.Proofs.Ytadepdeckapgcaa Go.RowKit Go.Maps Go.Proofs.YtadepdeckapgcaaW.PrintWords Go.Proofs.YtadepdeckapgcaaW.PrintLast Go.Proofs.YtadepdeckapgcaaW.PrintMore Go.Proofs.Ytadepdeckapgcaa.PHj Go.Proofs.Ytadepdeckapgcaa.PHi
set_option linter.unusedVariables false
set_option linter.unusedSimpArgs false
def enc2 (l : List Pr) : List Value := l.flatMap fun x => [.int .i64 x.f0, .int .i64 x.f1]
theorem enc2_cons (x : Pr) (l : List Pr) : enc2 (x :: l) = .int .i64 x.f0 :: .int .i64 x.f1 :: enc2 l := by simp [enc2]
theorem enc2_len (l : List Pr) : (enc2 l).length = l.length * 2 := by
  induction l with
  | nil => rfl
  | cons x l ih => rw [enc2_cons]; simp [ih]; omega
theorem enc2_get (l : List Pr) : ∀ i (h : i < l.length), (enc2 l)[i * 2]? = some (.int .i64 (l.getD i z76).f0) ∧ (enc2 l)[i * 2 + 1]? = some (.int .i64 (l.getD i z76).f1) := by
  induction l with
  | nil => intro i h; simp at h
  | cons x l ih =>
    intro i h
    rw [enc2_cons]
    cases i with
    | zero => simp
    | succ i =>
      have := ih i (by simpa using h)
      rw [show (i + 1) * 2 = i * 2 + 1 + 1 by omega]
      simpa using this
theorem enc2_set (l : List Pr) (p : Pr) : ∀ i (h : i < l.length), ((enc2 l).set (i * 2) (.int .i64 p.f0)).set (i * 2 + 1) (.int .i64 p.f1) = enc2 (l.set i p) := by
  induction l with
  | nil => intro i h; simp at h
  | cons x l ih =>
    intro i h
    cases i with
    | zero => simp [enc2_cons]
    | succ i =>
      have := ih i (by simpa using h)
      rw [enc2_cons, show (i + 1) * 2 = i * 2 + 1 + 1 by omega]
      simp only [List.set_cons_succ, enc2_cons, List.cons.injEq, true_and]
      exact this
theorem reps2 {w : World} {base : Nat} {ok : Nat → Prop} : ∀ (L : List Pr) (inner : List Value), Reps (kPr.M w base ok) 2 L inner → inner = enc2 L
  | [], inner, h => by
    have := h.1
    simp at this; subst this; rfl
  | x :: r, inner, h => by
    have h0 := h.2 0 x rfl
    have hl := h.1
    simp only [List.length_cons] at hl
    have h1 := k76_open (Kd.K_of_M _ h0)
    rw [enc2_cons, ← reps2 r (inner.drop 2) ⟨by simp; omega, fun j p hj => by
      have := h.2 (j + 1) p (by simpa using hj)
      rw [List.drop_drop]
      rwa [show 2 + j * 2 = (j + 1) * 2 by omega]⟩]
    have e : inner = inner.take 2 ++ inner.drop 2 := (List.take_append_drop 2 inner).symm
    rw [show (inner.drop (0 * 2)).take 2 = inner.take 2 from by simp] at h1
    rw [h1] at e
    exact e
theorem own2_of_R {w : World} {base : Nat} {ok : Nat → Prop} {v : Value} {L : List Pr} (h : Kd.R kPr 62 w base ok v L) : w.ownsRow base 62 2 v L.length (enc2 L) := by
  obtain ⟨_, inner, ho, hr⟩ := h
  rw [← reps2 L inner hr]
  exact ho
theorem R_of_own2 {w : World} {base : Nat} {v : Value} {L : List Pr} (h : w.ownsRow base 62 2 v L.length (enc2 L)) : Kd.R kPr 62 w base (fun _ => True) v L := by
  refine ⟨fun _ _ => trivial, enc2 L, h, enc2_len L, fun j p hj => ?_⟩
  obtain ⟨hl, rfl⟩ := List.getElem?_eq_some_iff.1 hj
  have e : ((enc2 L).drop (j * 2)).take 2 = [.int .i64 L[j].f0, .int .i64 L[j].f1] := by
    clear h hj
    induction L generalizing j with
    | nil => simp at hl
    | cons x r ih =>
      rw [enc2_cons]
      cases j with
      | zero => simp
      | succ j =>
        rw [show (j + 1) * 2 = j * 2 + 1 + 1 by omega]
        simp only [List.drop_succ_cons, List.getElem_cons_succ]
        exact ih j (by simpa using hl)
  rw [show kPr.sz = 2 from rfl, e]
  exact k76_mkM _ _ _ _
theorem wClonePr (w : World) (A : Option Addr) (c : Nat) (l : List Pr) (hC : Kd.C kPr w A l.length l) (hl : l.length ≤ 1000000) :
    Calls Try.prog 52 #[.slice A l.length c] w fun e w' => ∃ v, e = .returned v ∧ Kd.R kPr 62 w' w.heap.size (fun _ => True) v l ∧ Below w.heap.size w w' := by
  have hn : ∀ wz, (binOp .eql 58 (.slice A l.length c) (.slice none 0 0)).run Try.prog wz = .ok (.bool A.isNone) wz := fun wz => Lib.run_eql_slice_nil wz 58 62 A l.length c 0 0 Try.underlying58
  cases A with
  | none =>
    have hl0 : l = [] := by
      by_cases q : 0 < l.length
      · obtain ⟨ad, e, _⟩ := hC.2.2 q; cases e
      · exact List.length_eq_zero_iff.1 (by omega)
    subst hl0
    have hn' : ∀ wz, (binOp .eql 58 (.slice none 0 c) (.slice none 0 0)).run Try.prog wz = .ok (.bool true) wz := hn
    clear hC hn hl
    show Calls _ _ #[.slice none 0 c] _ _
    go_enter Try.func52, Try.ntmps52
    go_wp2
    go_ret
    exact ⟨_, rfl, Kd.R_nil _ _ _ _ _, Below.refl _ _⟩
  | some ad =>
    have HB : Hid (Below w.heap.size w (w.alloc (.cells #[] 62))) := (Below.refl _ _).alloc (Nat.le_refl _) _
    have HC := Lib.hid (Kd.C_below hC HB.out)
    have HR : Hid (Kd.R kPr 62 (w.alloc (.cells #[] 62)) w.heap.size (fun _ => True) (.slice (some ⟨w.heap.size, 0, none⟩) 0 0) []) :=
      ⟨fun _ _ => trivial, [], World.ownsRow_lit (base := w.heap.size) (e := 62) (size := 2) w #[] 0 (Nat.le_refl _) (by simp) (by simp), Reps.none _ _⟩
    have hn' : ∀ wz, (binOp .eql 58 (.slice (some ad) l.length c) (.slice none 0 0)).run Try.prog wz = .ok (.bool false) wz := hn
    clear hC hn
    go_enter Try.func52, Try.ntmps52
    go_wp2_with (at_builtin; refine Kd.R_append_rows kPr (Rr := kPr.K (w.alloc (.cells #[] 62))) (w0 := w) w.heap.size rfl _ _ 58 62 _ 16 rfl Try.underlying58 infoPr rfl (by decide) (by decide) _ [] l (some ad) l.length c (fun _ => True) (fun _ => False) rfl rfl HR.out HC.out (fun x cs hk => by have := k76_open hk; rw [this]; exact k76_mkM _ _ _ x) (fun _ q => q.elim) (fun _ _ => trivial) HB.out HB.out.size (by simp; omega) ?_; intro v1 w1 ho hb hg hat; have HO1 := Lib.hid ho; have HB1 := Lib.hid hb; clear ho hb hg hat)
    go_ret
    exact ⟨_, rfl, HO1.out, HB1.out⟩
end Go.Proofs.Ytadepdeckapgcaa.Hi
end

section
namespace Go.Proofs.Ytadepdeckapgcaa.Hi
open Go.Proofs.Ytadepdeckapgcaa Go.RowKit Go.Maps Go.Proofs.YtadepdeckapgcaaW.PrintWords Go.Proofs.YtadepdeckapgcaaW.PrintLast Go.Proofs.YtadepdeckapgcaaW.PrintMore Go.Proofs.Ytadepdeckapgcaa.PHj Go.Proofs.Ytadepdeckapgcaa.PHi
set_option linter.unusedVariables false
set_option linter.unusedSimpArgs false
def TurnAt (L M : List Pr) (k : Nat) : Prop := M.length = L.length ∧ ∀ x, x < L.length → M.getD x z76 = if x < k ∨ L.length - k ≤ x then L.getD (L.length - 1 - x) z76 else L.getD x z76
theorem TurnAt.done {L M : List Pr} {k : Nat} (h : TurnAt L M k) (hk : L.length ≤ 2 * k + 1) : M = L.reverse := by
  refine List.ext_getElem (by rw [h.1, List.length_reverse]) (fun x h1 h2 => ?_)
  have hx : x < L.length := by rw [← h.1]; exact h1
  have q := h.2 x hx
  rw [show M.getD x z76 = M[x] from by simp [h1]] at q
  rw [q, List.getElem_reverse]
  split
  · simp [show L.length - 1 - x < L.length by omega]
  · rename_i hn
    have : x = L.length - 1 - x := by omega
    rw [show L.getD x z76 = L[x] from by simp [hx]]
    congr 1
theorem TurnAt.step {L M : List Pr} {k : Nat} (h : TurnAt L M k) (hk : 2 * k + 1 < L.length) : TurnAt L ((M.set k (M.getD (L.length - 1 - k) z76)).set (L.length - 1 - k) (M.getD k z76)) (k + 1) := by
  have q1 := h.2 k (by omega)
  have q2 := h.2 (L.length - 1 - k) (by omega)
  rw [if_neg (by omega)] at q1 q2
  refine ⟨by simp [h.1], fun x hx => ?_⟩
  by_cases e2 : x = L.length - 1 - k
  · subst e2
    rw [if_pos (by omega), show L.length - 1 - (L.length - 1 - k) = k by omega, ← q1]
    have : L.length - 1 - k < M.length := by rw [h.1]; omega
    simp [this]
  · by_cases e1 : x = k
    · subst e1
      rw [if_pos (by omega), ← q2]
      have : x < M.length := by rw [h.1]; omega
      simp [this, Ne.symm e2]
    · have e : ((M.set k (M.getD (L.length - 1 - k) z76)).set (L.length - 1 - k) (M.getD k z76)).getD x z76 = M.getD x z76 := by
        simp only [List.getD_eq_getElem?_getD]
        rw [List.getElem?_set_ne (Ne.symm e2), List.getElem?_set_ne (Ne.symm e1)]
      rw [e, h.2 x hx]
      by_cases c : x < k ∨ L.length - k ≤ x
      · rw [if_pos c, if_pos (by omega)]
      · rw [if_neg c, if_neg (by omega)]
set_option maxRecDepth 100000 in
set_option maxHeartbeats 4000000 in
theorem wRev (w : World) (base : Nat) (v : Value) (L : List Pr) (h : Kd.R kPr 62 w base (fun _ => True) v L) (hl : L.length ≤ 1000000) :
    Calls Try.prog 53 #[v] w fun e w' => e = .returned (.tuple #[]) ∧ Kd.R kPr 62 w' base (fun _ => True) v L.reverse ∧ w.grownBy w' v.ownBlock := by
  have ho := own2_of_R h
  obtain ⟨A, c, rfl, hcc, hC⟩ := Kd.R_reads h
  by_cases h1 : L.length ≤ 1
  · have hrev : L.reverse = L := by
      match L, h1 with
      | [], _ => rfl
      | [x], _ => rfl
      | _ :: _ :: _, h1 => simp at h1
    rw [hrev]
    have HR := Lib.hid h
    clear ho hC h hrev
    go_enter Try.func53, Try.ntmps53
    go_wp2
    refine wp_loop_rounds 1 ?_; rw [rounds_succ]
    have hd : decide ((0 : Int) < (L.length : Int) - 1) = false := decide_eq_false (by omega)
    have hd2 : decide ((0 : Int) < wrap64 ((L.length : Int) - 1)) = false := decide_eq_false (by unfold wrap64; omega)
    go_wp2
    go_end0
    exact ⟨rfl, HR.out, ⟨rfl, rfl, rfl, Nat.le_refl _, fun _ _ _ => rfl⟩⟩
  · obtain ⟨g, eA⟩ : ∃ g, A = some ⟨g, 0, none⟩ := by
      rcases ho.2 with ⟨e, hn⟩ | ⟨g, cap, cur, e, _⟩
      · exact absurd hn (by omega)
      · injection e with e _ _; exact ⟨g, e⟩
    subst eA
    have HO := Lib.hid ho
    clear hC h ho
    go_enter Try.func53, Try.ntmps53
    go_wp2
    go_loopw [2, 3] (fun v2 v3 wr => ∃ (k : Nat) (M : List Pr), v2 = .int .i64 k ∧ v3 = .int .i64 ((L.length : Int) - 1 - k) ∧ 2 * k ≤ L.length ∧ Hid (TurnAt L M k) ∧ Hid (wr.ownsRow base 62 2 (.slice (some ⟨g, 0, none⟩) L.length c) L.length (enc2 M)) ∧ Hid (w.grownBy wr (some g))) (fun v2 _ _ => L.length - (intOf v2).toNat)
    case atStart =>
      refine ⟨0, L, rfl, by go_num, by omega, ⟨rfl, fun x hx => by rw [if_neg (by omega)]⟩, HO, ⟨rfl, rfl, rfl, Nat.le_refl _, fun _ _ _ => rfl⟩⟩
    case round =>
      obtain ⟨k, M, rfl, rfl, hk, HT, HM, HG⟩ := hrel
      by_cases hlt : 2 * k + 1 < L.length
      · have hlt2 : decide ((k : Int) < (L.length : Int) - 1 - k) = true := decide_eq_true (by omega)
        have hml : M.length = L.length := HT.out.1
        obtain ⟨j, hj⟩ : ∃ j : Nat, j = L.length - 1 - k := ⟨_, rfl⟩
        have hje : (L.length : Int) - 1 - k = (j : Int) := by omega
        have hjl : j < L.length := by omega
        have hkj : k < j := by omega
        rw [hje] at hlt2 ⊢
        have gk := enc2_get M k (by omega); have gj := enc2_get M j (by omega)
        have a0 := (HM.out.cellAt (k * 2) (by omega)).trans gk.1; have a1 := (HM.out.cellAt (k * 2 + 1) (by omega)).trans gk.2
        have b0 := (HM.out.cellAt (j * 2) (by omega)).trans gj.1; have b1 := (HM.out.cellAt (j * 2 + 1) (by omega)).trans gj.2
        have fz := fun i => HM.out.frozenAt i
        have HT1 := Lib.hid (HT.out.step hlt)
        rw [← hj] at HT1
        have S1 := HM.out.stored (k * 2) (.int .i64 (M.getD j z76).f0)
        have S2 := S1.1.stored (k * 2 + 1) (.int .i64 (M.getD j z76).f1)
        have S3 := S2.1.stored (j * 2) (.int .i64 (M.getD k z76).f0)
        have S4 := S3.1.stored (j * 2 + 1) (.int .i64 (M.getD k z76).f1)
        have e4 : ((((enc2 M).set (k * 2) (.int .i64 (M.getD j z76).f0)).set (k * 2 + 1) (.int .i64 (M.getD j z76).f1)).set (j * 2) (.int .i64 (M.getD k z76).f0)).set (j * 2 + 1) (.int .i64 (M.getD k z76).f1) = enc2 ((M.set k (M.getD j z76)).set j (M.getD k z76)) := by
          rw [enc2_set M _ k (by omega), enc2_set _ _ j (by simp; omega)]
        have HS := Lib.hid S4.1; have HG1 := Lib.hid S1.2; have HG2 := Lib.hid S2.2; have HG3 := Lib.hid S3.2; have HG4 := Lib.hid S4.2
        rw [e4] at HS
        clear S1 S2 S3 S4 e4 gk gj hj
        generalize M.getD j z76 = pj at *
        generalize M.getD k z76 = pk at *
        have mixed := (Try.l10).mixed
        go_wp2_with fail
        go_region_o
        go_wp2
        go_roundw
        case rel =>
          refine ⟨k + 1, _, by go_num, by go_num, by omega, HT1, ?_, ?_⟩
          · exact HS.out
          · have q := (((HG.out.trans HG1.out).trans HG2.out).trans HG3.out).trans HG4.out
            exact ⟨q.os, q.tape, q.output, q.size, q.block⟩
        case measure => simp [intOf]; omega
      · have HD := Lib.hid (HT.out.done (by omega))
        have hlt2 : decide ((k : Int) < (L.length : Int) - 1 - k) = false := decide_eq_false (by omega)
        go_wp2
        go_end0
        rw [HD.out] at HM
        refine ⟨rfl, ?_, HG.out⟩
        have := R_of_own2 (v := .slice (some ⟨g, 0, none⟩) L.length c) (L := L.reverse) (by rw [List.length_reverse]; exact HM.out)
        exact this
theorem wUndoNil (w : World) : Calls Try.prog 37 #[.pointer none] w fun e w' => e = .returned (.slice none 0 0) ∧ w' = w := by
  go_enter Try.func37, Try.ntmps37
  go_wp2
  go_ret
  exact ⟨rfl, rfl⟩
theorem wUndo (w : World) (base pb : Nat) (L : List Pr) (uv : Value) (h : LgAt w base pb L uv) (hl : L.length ≤ 1000000) :
    Calls Try.prog 37 #[.pointer (some ⟨pb, 0, none⟩)] w fun e w' => ∃ v, e = .returned v ∧ Kd.R kPr 62 w' w.heap.size (fun _ => True) v L.reverse ∧ Below w.heap.size w w' := by
  obtain ⟨⟨fv, n, hb⟩, hr, hat⟩ := h
  obtain ⟨A, cc, rfl, hcc, hC⟩ := Kd.R_reads hr
  have y3 := hb.cell 3
  simp at y3
  have HF := Lib.hid (wClonePr w A cc L hC hl)
  have HR := Lib.hid (fun w2 v2 h2 => wRev w2 w.heap.size v2 L h2 hl)
  clear hb hr hC
  go_enter Try.func37, Try.ntmps37
  go_wp2_with fail
  refine HF.out.mono ?_
  rintro e w2 ⟨v2, rfl, hr2, hb2⟩
  obtain ⟨A2, c2, rfl⟩ := Kd.R_slice hr2
  have HR2 := Lib.hid (HR.out w2 _ hr2)
  have HB2 := Lib.hid hb2
  have HBD := Lib.hid (fun k (hk : (Value.slice A2 L.length c2).ownBlock = some k) => ((Kd.R_bound hr2).1 k hk).2.1)
  clear hr2 hb2 HF HR
  go_wp2_with fail
  refine HR2.out.mono ?_
  rintro e w3 ⟨rfl, hr3, hg3⟩
  have HR3 := Lib.hid hr3; have HG3 := Lib.hid hg3
  clear hr3 hg3 HR2
  go_wp2
  go_ret
  exact ⟨_, rfl, HR3.out, HB2.out.grown HG3.out HB2.out.size (fun k hk => HBD.out k hk)⟩
theorem wBegin (w : World) (n : Int) : Calls Try.prog 40 #[.slice none 0 0, .int .i64 n] w fun e w' => ∃ pb, e = .returned (.pointer (some ⟨pb, 0, none⟩)) ∧ w.heap.size ≤ pb ∧ LgAt w' w.heap.size pb [] (.slice none 0 0) ∧ Below w.heap.size w w' := by
  go_enter Try.func40, Try.ntmps40
  go_wp2
  go_ret
  exact ⟨_, rfl, by simp, ⟨⟨_, _, by have q := Blk.new (w.alloc (.cells #[] 141)) #[.slice (some ⟨w.heap.size, 0, none⟩) 0 0, .int .i64 n, .int .i64 0, .slice none 0 0, .slice none 0 0] 92; simp only [World.size_alloc] at q; exact q⟩, Kd.R_nil _ _ _ _ _, by simp⟩, ((Below.refl _ _).alloc (Nat.le_refl _) _).alloc (by simp) _⟩
end Go.Proofs.Ytadepdeckapgcaa.Hi
end

section
namespace Go.Proofs.Ytadepdeckapgcaa.Hi
open Go.Proofs.Ytadepdeckapgcaa Go.RowKit Go.Maps Go.Proofs.YtadepdeckapgcaaW.PrintWords Go.Proofs.YtadepdeckapgcaaW.PrintLast Go.Proofs.YtadepdeckapgcaaW.PrintMore Go.Proofs.Ytadepdeckapgcaa.PHj Go.Proofs.Ytadepdeckapgcaa.PHi
open Go.ChangeMaps Go.MapKept
set_option linter.unusedVariables false
set_option linter.unusedSimpArgs false
theorem EM.uniq {w : World} {b : Nat} {es : Array MapEntry} {ck : Nat} (h : EM w b es ck) {x y : MapEntry} (hx : x ∈ es.toList) (hy : y ∈ es.toList) (hk : x.key = y.key) : x = y := by
  obtain ⟨i, hi, rfl⟩ := List.getElem_of_mem hx
  obtain ⟨j, hj, rfl⟩ := List.getElem_of_mem hy
  have := (List.getElem_inj (xs := es.toList.map (fun x => x.key)) (i := i) (j := j) (h₀ := by simpa using hi) (h₁ := by simpa using hj) h.st.2.2).1 (by simpa using hk)
  subst this; rfl
theorem EM.drop {w : World} {b : Nat} {es : Array MapEntry} {ck : Nat} (h : EM w b es ck) {T E : TypeId} (ht : (Try.prog).underlying T = some (.map 3 E)) (k : Int) (hk : in64 k) (ty : TypeId) :
    ∃ es', (Builtin.delete_ #[T, 3] ty #[.map (some b), iK k]).run Try.prog w = .ok (.tuple #[]) (setBlock w b (.map es' ck)) ∧ EM (setBlock w b (.map es' ck)) b es' ck ∧ ∀ x, x ∈ es'.toList ↔ x ∈ es.toList ∧ x.key ≠ iK k := by
  rcases h.find w k hk with ⟨h1, h2⟩ | ⟨j, e0, h1, h2, h3⟩
  · exact ⟨es, by simp [Builtin.delete_, run_underlying ht, MapKept.run_getObj_map h.heap, lawI.check w _ (kI hk), h1, MapKept.run_setObj_map _ h.heap, Result.andThen, setBlock], ⟨heap_setBlock_same h.heap _, h.st, h.key⟩, fun x => ⟨fun hx => ⟨hx, h2 x hx⟩, fun hx => hx.1⟩⟩
  · have hjl : j < es.toList.length := (List.getElem?_eq_some_iff.1 h2).1
    have hjs : j < es.size := by simpa using hjl
    have hsub : (es.eraseIdxIfInBounds j).toList = es.toList.eraseIdx j := by
      unfold Array.eraseIdxIfInBounds
      rw [dif_pos hjs]
      simp
    refine ⟨es.eraseIdxIfInBounds j, by simp [Builtin.delete_, run_underlying ht, MapKept.run_getObj_map h.heap, lawI.check w _ (kI hk), h1, MapKept.run_setObj_map _ h.heap, Result.andThen, setBlock], ⟨heap_setBlock_same h.heap _, stamped_erase h.st j, fun x hx => ?_⟩, fun x => ?_⟩
    · rw [hsub] at hx
      exact h.key x ((List.eraseIdx_sublist _ _).subset hx)
    · rw [hsub, List.mem_eraseIdx_iff_getElem?]
      constructor
      · rintro ⟨i, hij, hx⟩
        refine ⟨List.mem_of_getElem? hx, fun e => hij ?_⟩
        have : x = e0 := h.uniq (List.mem_of_getElem? hx) (List.mem_of_getElem? h2) (e.trans h3.symm)
        subst this
        obtain ⟨hi, hx'⟩ := List.getElem?_eq_some_iff.1 hx
        obtain ⟨_, h2'⟩ := List.getElem?_eq_some_iff.1 h2
        exact (List.getElem_inj (xs := es.toList.map (fun x => x.key)) (i := i) (j := j) (h₀ := by simpa using hi) (h₁ := by simpa using hjl) h.st.2.2).1 (by simp [hx', h2'])
      · rintro ⟨hx, hne⟩
        obtain ⟨i, hi⟩ := List.mem_iff_getElem?.1 hx
        refine ⟨i, fun e => ?_, hi⟩
        subst e
        rw [h2] at hi
        injection hi with hi
        exact hne (hi ▸ h3)
def updO {α : Type} (f : Int → α) (k : Int) (v : α) : Int → α := fun j => if j = k then v else f j
theorem updO_same {α : Type} (f : Int → α) (k : Int) (v : α) : updO f k v k = v := if_pos rfl
theorem updO_other {α : Type} (f : Int → α) {k j : Int} (h : j ≠ k) (v : α) : updO f k v j = f j := if_neg h
structure LM (base : Nat) (w : World) (b : Nat) (es : Array MapEntry) (ck : Nat) (lg : Int → Option (List Pr)) (P : Int → Nat) (U : Int → Value) : Prop where
  em : EM w b es ck
  row : ∀ x ∈ es.toList, ∀ k, x.key = iK k → x.val = .pointer (some ⟨P k, 0, none⟩) ∧ ∃ L, lg k = some L ∧ LgAt w base (P k) L (U k)
  apart : ∀ x ∈ es.toList, ∀ y ∈ es.toList, ∀ k q, x.key = iK k → y.key = iK q → k ≠ q → P k ≠ P q ∧ ∀ g, (U k).ownBlock = some g → (U q).ownBlock ≠ some g
  non : ∀ k, (∀ x ∈ es.toList, x.key ≠ iK k) → lg k = none
theorem LgAt.move {w w' : World} {base pb : Nat} {L : List Pr} {uv : Value} (h : LgAt w base pb L uv) (hb : w'.heap[pb]? = w.heap[pb]?) (hr : ∀ g, uv.ownBlock = some g → w'.heap[g]? = w.heap[g]?) : LgAt w' base pb L uv := by
  obtain ⟨⟨fv, n, h1⟩, h2, h3⟩ := h
  refine ⟨⟨fv, n, hb.trans h1⟩, ?_, h3⟩
  refine Kd.R_mono (Kd.R_move (ok := fun g => uv.ownBlock = some g) ⟨fun k hk => hk, h2.2.imp_ (fun _ _ q => q)⟩ (fun g hg => hr g hg)) (fun _ _ => trivial)
theorem LgAt.row_blk {w : World} {base pb : Nat} {L : List Pr} {uv : Value} (h : LgAt w base pb L uv) (g : Nat) (hg : uv.ownBlock = some g) : base ≤ g ∧ g < w.heap.size ∧ ∃ cells, w.heap[g]? = some (.cells cells 62 (0, 0)) := by
  obtain ⟨cells, hc⟩ := own_typed (own2_of_R h.row) g hg
  exact ⟨((own2_of_R h.row).lt g hg).1, ((own2_of_R h.row).lt g hg).2, cells, hc⟩
theorem LgAt.ne_row {w : World} {base pb pb2 : Nat} {L L2 : List Pr} {uv uv2 : Value} (h : LgAt w base pb L uv) (h2 : LgAt w base pb2 L2 uv2) : uv2.ownBlock ≠ some pb := by
  intro e
  obtain ⟨_, _, cells, hc⟩ := h2.row_blk pb e
  obtain ⟨fv, n, hb⟩ := h.blk
  unfold Blk at hb
  rw [hb] at hc
  injection hc with hc
  injection hc with _ hc
  exact absurd hc (by decide)
theorem LM.move {base : Nat} {w w' : World} {b : Nat} {es : Array MapEntry} {ck : Nat} {lg : Int → Option (List Pr)} {P : Int → Nat} {U : Int → Value} (h : LM base w b es ck lg P U)
    (hb : w'.heap[b]? = w.heap[b]?) (hm : ∀ j cells t, (t = 92 ∨ t = 62) → w.heap[j]? = some (.cells cells t (0, 0)) → base ≤ j → w'.heap[j]? = w.heap[j]?) : LM base w' b es ck lg P U := by
  refine ⟨⟨hb.trans h.em.heap, h.em.st, h.em.key⟩, fun x hx k hk => ?_, h.apart, h.non⟩
  obtain ⟨h1, L, h2, h3⟩ := h.row x hx k hk
  refine ⟨h1, L, h2, h3.move ?_ (fun g hg => ?_)⟩
  · obtain ⟨fv, n, hbk⟩ := h3.blk
    exact hm _ _ _ (.inl rfl) hbk h3.at_
  · obtain ⟨hg1, _, cells, hc⟩ := h3.row_blk g hg
    exact hm _ _ _ (.inr rfl) hc hg1
theorem LM.below {base : Nat} {w w' : World} {b : Nat} {es : Array MapEntry} {ck : Nat} {lg : Int → Option (List Pr)} {P : Int → Nat} {U : Int → Value} (h : LM base w b es ck lg P U) (hb : Below w.heap.size w w') : LM base w' b es ck lg P U :=
  h.move (hb.block _ h.em.lt) (fun j cells t _ hj _ => hb.block _ (Array.getElem?_eq_some_iff.1 hj).1)
theorem LM.tfr {base b2 : Nat} {w w' : World} {b : Nat} {es : Array MapEntry} {ck : Nat} {lg : Int → Option (List Pr)} {P : Int → Nat} {U : Int → Value} (h : LM base w b es ck lg P U) (hf : TFr 89 b2 w w') : LM base w' b es ck lg P U :=
  h.move (hf.block _ h.em.lt (fun ⟨_, cells, hc⟩ => by rw [h.em.heap] at hc; cases hc)) (fun j cells t ht hj _ => hf.block _ (Array.getElem?_eq_some_iff.1 hj).1 (fun ⟨_, c2, hc⟩ => by
    rw [hj] at hc
    injection hc with hc
    injection hc with _ hc
    rcases ht with rfl | rfl <;> exact absurd hc (by decide)))
theorem LM.look {base : Nat} {w : World} {b : Nat} {es : Array MapEntry} {ck : Nat} {lg : Int → Option (List Pr)} {P : Int → Nat} {U : Int → Value} (h : LM base w b es ck lg P U) (k : Int) (hk : in64 k) :
    (lg k = none ∧ (∀ x ∈ es.toList, x.key ≠ iK k) ∧ ∀ w', w'.heap[b]? = w.heap[b]? → (Instr.lookup 57 (.map (some b)) (iK k) false).run Try.prog w' = .ok (.pointer none) w') ∨
    ∃ L, lg k = some L ∧ (∃ x ∈ es.toList, x.key = iK k) ∧ LgAt w base (P k) L (U k) ∧ ∀ w', w'.heap[b]? = w.heap[b]? → (Instr.lookup 57 (.map (some b)) (iK k) false).run Try.prog w' = .ok (.pointer (some ⟨P k, 0, none⟩)) w' := by
  have hz : ∀ w', (zeroValue 59).run Try.prog w' = .ok (.pointer none) w' := fun w' => by kernel_rfl
  have hE : ∀ w', w'.heap[b]? = w.heap[b]? → EM w' b es ck := fun w' he => ⟨he.trans h.em.heap, h.em.st, h.em.key⟩
  rcases h.em.look Try.underlying57 (hz w) k hk with ⟨_, hno⟩ | ⟨e0, he0, hk0, _⟩
  · refine .inl ⟨h.non k hno, hno, fun w' he => ?_⟩
    rcases (hE w' he).look Try.underlying57 (hz w') k hk with ⟨hr, _⟩ | ⟨e1, he1, hk1, _⟩
    · exact hr
    · exact absurd hk1 (hno e1 he1)
  · obtain ⟨hv, L, h1, h2⟩ := h.row e0 he0 k hk0
    refine .inr ⟨L, h1, ⟨e0, he0, hk0⟩, h2, fun w' he => ?_⟩
    rcases (hE w' he).look Try.underlying57 (hz w') k hk with ⟨_, hno⟩ | ⟨e1, he1, hk1, hr⟩
    · exact absurd hk0 (hno e0 he0)
    · have : e1 = e0 := h.em.uniq he1 he0 (hk1.trans hk0.symm)
      rw [hr, this, hv]
end Go.Proofs.Ytadepdeckapgcaa.Hi
end

section
namespace Go.Proofs.Ytadepdeckapgcaa.Hi
open Go.Proofs.Ytadepdeckapgcaa Go.RowKit Go.Maps Go.Proofs.YtadepdeckapgcaaW.PrintWords Go.Proofs.YtadepdeckapgcaaW.PrintLast Go.Proofs.YtadepdeckapgcaaW.PrintMore Go.Proofs.Ytadepdeckapgcaa.PHj Go.Proofs.Ytadepdeckapgcaa.PHi
open Go.ChangeMaps Go.MapKept
set_option linter.unusedVariables false
set_option linter.unusedSimpArgs false
theorem block_grown {w1 : World} {b : Nat} {es : Array MapEntry} {ck : Nat} (hb1 : w1.heap[b]? = some (.map es ck)) (o : Obj) : w1.grownBy (setBlock w1 b o) (some b) := ⟨rfl, rfl, rfl, by simp [setBlock], fun i _ hi => heap_setBlock_other hb1 _ (fun e => hi (by rw [e]))⟩
theorem LgAt.setMap {w : World} {base pb : Nat} {L : List Pr} {uv : Value} {b : Nat} {es : Array MapEntry} {ck : Nat} (h : LgAt w base pb L uv) (hb : w.heap[b]? = some (.map es ck)) (o : Obj) : LgAt (setBlock w b o) base pb L uv := by
  refine h.move (heap_setBlock_other hb _ ?_) (fun g hg => heap_setBlock_other hb _ ?_)
  · rintro rfl
    obtain ⟨fv, n, h1⟩ := h.blk
    unfold Blk at h1
    rw [hb] at h1; cases h1
  · rintro rfl
    obtain ⟨_, _, cells, hc⟩ := h.row_blk _ hg
    rw [hb] at hc; cases hc
theorem LM.put {base : Nat} {w w1 : World} {b : Nat} {es : Array MapEntry} {ck : Nat} {lg : Int → Option (List Pr)} {P : Int → Nat} {U : Int → Value} (h : LM base w b es ck lg P U) (k : Int) (hk : in64 k) (hno : ∀ x ∈ es.toList, x.key ≠ iK k)
    (hb : Below w.heap.size w w1) (pb : Nat) (hpb : w.heap.size ≤ pb) (hl : LgAt w1 base pb [] (.slice none 0 0)) :
    ∃ w2 es2 ck2, (Instr.mapUpdate 57 (.map (some b)) (iK k) (.pointer (some ⟨pb, 0, none⟩))).run Try.prog w1 = .ok () w2 ∧ LM base w2 b es2 ck2 (updO lg k (some [])) (updO P k pb) (updO U k (.slice none 0 0)) ∧ w1.grownBy w2 (some b) := by
  have h1 := h.below hb
  rcases h1.em.store Try.underlying57 k hk (.pointer (some ⟨pb, 0, none⟩)) with ⟨_, hrun, hem⟩ | ⟨j, e0, h2, h3, _, _⟩
  · refine ⟨_, _, _, hrun, ⟨hem, fun x hx q hq => ?_, fun x hx y hy q r hq hr hqr => ?_, fun q hq => ?_⟩, block_grown h1.em.heap _⟩
    · simp only [Array.toList_push, List.mem_append, List.mem_singleton] at hx
      rcases hx with hx | rfl
      · have hqk : q ≠ k := by rintro rfl; exact hno x hx hq
        rw [updO_other _ hqk, updO_other _ hqk, updO_other _ hqk]
        obtain ⟨e1, L, e2, e3⟩ := h1.row x hx q hq
        exact ⟨e1, L, e2, e3.setMap h1.em.heap _⟩
      · have hqk : q = k := (iK_inj hq).symm
        subst hqk
        rw [updO_same, updO_same, updO_same]
        exact ⟨rfl, [], rfl, hl.setMap h1.em.heap _⟩
    · simp only [Array.toList_push, List.mem_append, List.mem_singleton] at hx hy
      rcases hx with hx | rfl <;> rcases hy with hy | rfl
      · have hqk : q ≠ k := by rintro rfl; exact hno x hx hq
        have hrk : r ≠ k := by rintro rfl; exact hno y hy hr
        rw [updO_other _ hqk, updO_other _ hrk, updO_other _ hqk, updO_other _ hrk]
        exact h1.apart x hx y hy q r hq hr hqr
      · have hqk : q ≠ k := by rintro rfl; exact hno x hx hq
        have hrk : r = k := (iK_inj hr).symm
        subst hrk
        rw [updO_other _ hqk, updO_other _ hqk, updO_same, updO_same]
        obtain ⟨e1, L, e2, e3⟩ := h.row x hx q hq
        obtain ⟨fv, n, hbk⟩ := e3.blk
        have := hbk.lt
        exact ⟨by omega, fun g _ => by simp [Value.ownBlock]⟩
      · have hrk : r ≠ k := by rintro rfl; exact hno y hy hr
        have hqk : q = k := (iK_inj hq).symm
        subst hqk
        rw [updO_other _ hrk, updO_other _ hrk, updO_same, updO_same]
        obtain ⟨e1, L, e2, e3⟩ := h.row y hy r hr
        obtain ⟨fv, n, hbk⟩ := e3.blk
        have := hbk.lt
        exact ⟨by omega, fun g hg => by simp [Value.ownBlock] at hg⟩
      · exact absurd ((iK_inj hq).symm.trans (iK_inj hr)) hqr
    · have hqk : q ≠ k := by rintro rfl; exact hq ⟨iK q, .pointer (some ⟨pb, 0, none⟩), ck⟩ (by simp) rfl
      rw [updO_other _ hqk]
      exact h1.non q (fun x hx => hq x (by simp; exact .inl (by simpa using hx)))
  · exact absurd h3 (hno e0 (List.mem_of_getElem? h2))
theorem LM.wrote {base : Nat} {w w1 : World} {b : Nat} {es : Array MapEntry} {ck : Nat} {lg : Int → Option (List Pr)} {P : Int → Nat} {U : Int → Value} (h : LM base w b es ck lg P U) (k : Int) (hx0 : ∃ x ∈ es.toList, x.key = iK k) (L2 : List Pr) (uv : Value)
    (hl : LgAt w1 base (P k) L2 uv) (hat : uv.ownBlock = (U k).ownBlock ∨ ∃ g, uv.ownBlock = some g ∧ w.heap.size ≤ g) (hf : Fr (fun j => j = P k ∨ (U k).ownBlock = some j) w w1) : LM base w1 b es ck (updO lg k (some L2)) P (updO U k uv) := by
  obtain ⟨x0, hx0, hk0⟩ := hx0
  obtain ⟨_, L0, _, hl0⟩ := h.row x0 hx0 k hk0
  obtain ⟨fv0, n0, hb0⟩ := hl0.blk
  have hbm : w1.heap[b]? = w.heap[b]? := hf.block b h.em.lt (by
    rintro (e | e)
    · subst e; unfold Blk at hb0; rw [h.em.heap] at hb0; cases hb0
    · obtain ⟨_, _, cells, hc⟩ := hl0.row_blk b e
      rw [h.em.heap] at hc; cases hc)
  refine ⟨⟨hbm.trans h.em.heap, h.em.st, h.em.key⟩, fun x hx q hq => ?_, fun x hx y hy q r hq hr hqr => ?_, fun q hq => ?_⟩
  · obtain ⟨e1, L, e2, e3⟩ := h.row x hx q hq
    refine ⟨e1, ?_⟩
    by_cases hqk : q = k
    · subst hqk
      rw [updO_same, updO_same]
      exact ⟨L2, rfl, hl⟩
    · rw [updO_other _ hqk, updO_other _ hqk]
      obtain ⟨a1, a2⟩ := h.apart x0 hx0 x hx k q hk0 hq (Ne.symm hqk)
      obtain ⟨fv, n, hbk⟩ := e3.blk
      refine ⟨L, e2, e3.move (hf.block _ hbk.lt ?_) (fun g hg => hf.block _ (e3.row_blk g hg).2.1 ?_)⟩
      · rintro (e | e)
        · exact a1 e.symm
        · exact e3.ne_row hl0 e
      · rintro (e | e)
        · subst e; exact hl0.ne_row e3 hg
        · exact a2 g e hg
  · by_cases hqk : q = k
    · subst hqk
      have hrq : r ≠ q := Ne.symm hqr
      rw [updO_same, updO_other _ hrq]
      obtain ⟨a1, a2⟩ := h.apart x hx y hy q r hq hr hqr
      obtain ⟨_, L, _, e3⟩ := h.row y hy r hr
      refine ⟨a1, fun g hg hgr => ?_⟩
      rcases hat with e | ⟨g', e, hg'⟩
      · exact a2 g (e ▸ hg) hgr
      · rw [hg] at e
        injection e with e
        have := (e3.row_blk g hgr).2.1
        omega
    · rw [updO_other _ hqk]
      by_cases hrk : r = k
      · subst hrk
        rw [updO_same]
        obtain ⟨a1, a2⟩ := h.apart x hx y hy q r hq hr hqr
        obtain ⟨_, L, _, e3⟩ := h.row x hx q hq
        refine ⟨a1, fun g hg hgr => ?_⟩
        rcases hat with e | ⟨g', e, hg'⟩
        · exact a2 g hg (e ▸ hgr)
        · rw [hgr] at e
          injection e with e
          have := (e3.row_blk g hg).2.1
          omega
      · rw [updO_other _ hrk]
        exact h.apart x hx y hy q r hq hr hqr
  · have hqk : q ≠ k := by rintro rfl; exact hq x0 hx0 hk0
    rw [updO_other _ hqk]
    exact h.non q hq
theorem LM.drop {base : Nat} {w : World} {b : Nat} {es : Array MapEntry} {ck : Nat} {lg : Int → Option (List Pr)} {P : Int → Nat} {U : Int → Value} (h : LM base w b es ck lg P U) (k : Int) (hk : in64 k) :
    ∃ w2 es2, (∀ ty, (Builtin.delete_ #[57, 3] ty #[.map (some b), iK k]).run Try.prog w = .ok (.tuple #[]) w2) ∧ LM base w2 b es2 ck (updO lg k none) P U ∧ w.grownBy w2 (some b) := by
  obtain ⟨es2, hrun, hem, hm⟩ := h.em.drop Try.underlying57 k hk 0
  refine ⟨_, es2, fun ty => hrun, ⟨hem, fun x hx q hq => ?_, fun x hx y hy q r hq hr hqr => h.apart x ((hm x).1 hx).1 y ((hm y).1 hy).1 q r hq hr hqr, fun q hq => ?_⟩, block_grown h.em.heap _⟩
  · obtain ⟨h1, h2⟩ := (hm x).1 hx
    have hqk : q ≠ k := by rintro rfl; exact h2 hq
    rw [updO_other _ hqk]
    obtain ⟨e1, L, e2, e3⟩ := h.row x h1 q hq
    exact ⟨e1, L, e2, e3.setMap h.em.heap _⟩
  · by_cases hqk : q = k
    · rw [hqk, updO_same]
    · rw [updO_other _ hqk]
      refine h.non q (fun x hx hxq => hq x ((hm x).2 ⟨hx, fun e => hqk ?_⟩) hxq)
      exact iK_inj (hxq.symm.trans e)
end Go.Proofs.Ytadepdeckapgcaa.Hi
end

section
namespace Go.Proofs.Ytadepdeckapgcaa.Hi
open Go.Proofs.Ytadepdeckapgcaa Go.RowKit Go.Maps Go.Proofs.YtadepdeckapgcaaW.PrintWords Go.Proofs.YtadepdeckapgcaaW.PrintLast Go.Proofs.YtadepdeckapgcaaW.PrintMore Go.Proofs.Ytadepdeckapgcaa.PHj Go.Proofs.Ytadepdeckapgcaa.PHi
open Go.ChangeMaps Go.MapKept
set_option linter.unusedVariables false
set_option linter.unusedSimpArgs false
abbrev Cs := List (Int × Int × Int)
def setAll : List Pr → Cs → Cs
  | [], cs => cs
  | x :: r, cs => setAll r (cSet x.f0 x.f1 cs).1
def repG : List Mk → Cs → (Int → List Pr) → Bool → Cs × Bool
  | [], cs, _, ok => (cs, ok)
  | m :: r, cs, g, ok =>
    if isEnd m = true then repG r (if m.f0 = 4 then setAll (g m.f2).reverse cs else cs) (updO g m.f2 []) ok
    else if acc m = true then
      if (cGet m.f3 cs).2 = false then repG r cs g false
      else if m.f0 = 1 then repG r cs g (ok && (cGet m.f3 cs).1 == m.f4)
      else repG r (cSet m.f3 m.f4 cs).1 (if m.f2 > 0 then updO g m.f2 (wroteL (g m.f2) m.f3 (cGet m.f3 cs).1) else g) ok
    else repG r cs g ok
end Go.Proofs.Ytadepdeckapgcaa.Hi
namespace Go.Proofs.Ytadepdeckapgcaa
open Go.Proofs.Ytadepdeckapgcaa.Hi
open Go.Proofs.Ytadepdeckapgcaa Go.RowKit Go.Maps Go.Proofs.YtadepdeckapgcaaW.PrintWords Go.Proofs.YtadepdeckapgcaaW.PrintLast Go.Proofs.YtadepdeckapgcaaW.PrintMore Go.Proofs.Ytadepdeckapgcaa.PHj Go.Proofs.Ytadepdeckapgcaa.PHi
open Go.ChangeMaps Go.MapKept
set_option linter.unusedVariables false
set_option linter.unusedSimpArgs false
theorem CeAt.move {w w' : World} {b base : Nat} {l : Cs} (h : CeAt w b base l) (hm : ∀ (j : Nat) cells t, (t = 84 ∨ t = 89) → w.heap[j]? = some (.cells cells t (0, 0)) → w'.heap[j]? = w.heap[j]?) : CeAt w' b base l := by
  obtain ⟨v, hb, ho⟩ := h
  refine ⟨v, (hm _ _ _ (.inl rfl) hb).trans hb, own_move ho (fun k hk => ?_)⟩
  obtain ⟨cells, hc⟩ := own_typed ho k hk
  exact hm _ _ _ (.inr rfl) hc
theorem CeAt.quiet {w w' : World} {b base : Nat} {l : Cs} (h : CeAt w b base l) (hq : Quiet w w') : CeAt w' b base l :=
  h.move (fun j _ _ _ hj => hq.block j (Array.getElem?_eq_some_iff.1 hj).1 (fun q => q))
theorem CeAt.below {w w' : World} {b base : Nat} {l : Cs} (h : CeAt w b base l) (hq : Below w.heap.size w w') : CeAt w' b base l := h.quiet (Fr.of_below hq)
theorem CeAt.map {w w' : World} {b base : Nat} {l : Cs} (h : CeAt w b base l) {bm : Nat} {es : Array MapEntry} {ck : Nat} (hm : w.heap[bm]? = some (.map es ck)) (hg : w.grownBy w' (some bm)) : CeAt w' b base l :=
  h.move (fun j _ _ _ hj => hg.block j (Array.getElem?_eq_some_iff.1 hj).1 (fun e => by cases e; rw [hm] at hj; cases hj))
theorem CeAt.log {w w' : World} {b base : Nat} {l : Cs} (h : CeAt w b base l) {b2 pb : Nat} {L : List Pr} {uv : Value} (hl : LgAt w b2 pb L uv) (hf : Fr (fun k => k = pb ∨ uv.ownBlock = some k) w w') : CeAt w' b base l :=
  h.move (fun j cells t ht hj => hf.block j (Array.getElem?_eq_some_iff.1 hj).1 (by
    rintro (rfl | e)
    · obtain ⟨fv, n, hb⟩ := hl.blk
      unfold Blk at hb
      rw [hb] at hj
      injection hj with hj
      injection hj with _ hj
      rcases ht with rfl | rfl <;> exact absurd hj (by decide)
    · obtain ⟨_, _, c2, hc⟩ := hl.row_blk j e
      rw [hc] at hj
      injection hj with hj
      injection hj with _ hj
      rcases ht with rfl | rfl <;> exact absurd hj (by decide)))
end Go.Proofs.Ytadepdeckapgcaa
namespace Go.Proofs.Ytadepdeckapgcaa.Hi
open Go.Proofs.Ytadepdeckapgcaa Go.RowKit Go.Maps Go.Proofs.YtadepdeckapgcaaW.PrintWords Go.Proofs.YtadepdeckapgcaaW.PrintLast Go.Proofs.YtadepdeckapgcaaW.PrintMore Go.Proofs.Ytadepdeckapgcaa.PHj Go.Proofs.Ytadepdeckapgcaa.PHi
open Go.ChangeMaps Go.MapKept
set_option linter.unusedVariables false
set_option linter.unusedSimpArgs false
theorem LM.quiet {base : Nat} {w w' : World} {b : Nat} {es : Array MapEntry} {ck : Nat} {lg : Int → Option (List Pr)} {P : Int → Nat} {U : Int → Value} (h : LM base w b es ck lg P U) (hb : Quiet w w') : LM base w' b es ck lg P U :=
  h.below (hb.below (fun _ _ q => q))
theorem LM.made (base : Nat) (w : World) : LM base (w.alloc (.map #[] 0)) w.heap.size #[] 0 (fun _ => none) (fun _ => 0) (fun _ => .slice none 0 0) :=
  ⟨⟨heap_alloc_new w _, stamped_empty 0, fun x hx => by simp at hx⟩, fun x hx => by simp at hx, fun x hx => by simp at hx, fun k _ => rfl⟩
structure RpAt (w : World) (bm i : Nat) (cs : Cs) (lg : Int → Option (List Pr)) (es : Array MapEntry) (ck : Nat) (P : Int → Nat) (U : Int → Value) (wr : World) : Prop where
  ce : CeAt wr w.heap.size w.heap.size cs
  lm : LM w.heap.size wr bm es ck lg P U
  bel : Quiet w wr
  csl : cs.length ≤ 60
  len : ∀ k L, lg k = some L → L.length ≤ i
  pos : ∀ k, k ≤ 0 → lg k = none
  at_ : w.heap.size ≤ bm
def gOf (lg : Int → Option (List Pr)) : Int → List Pr := fun k => (lg k).getD []
theorem gOf_upd (lg : Int → Option (List Pr)) (k : Int) (L : List Pr) : gOf (updO lg k (some L)) = updO (gOf lg) k L := by
  funext j; unfold gOf updO; split <;> rfl
theorem gOf_drop (lg : Int → Option (List Pr)) (k : Int) : gOf (updO lg k none) = updO (gOf lg) k [] := by
  funext j; unfold gOf updO; split <;> rfl
theorem RpAt.quiet {w : World} {bm i : Nat} {cs : Cs} {lg : Int → Option (List Pr)} {es : Array MapEntry} {ck : Nat} {P : Int → Nat} {U : Int → Value} {wr w' : World} (h : RpAt w bm i cs lg es ck P U wr) (hq : Quiet wr w') : RpAt w bm i cs lg es ck P U w' :=
  { h with ce := h.ce.quiet hq, lm := h.lm.quiet hq, bel := h.bel.quiet hq }
theorem RpAt.next {w : World} {bm i : Nat} {cs : Cs} {lg : Int → Option (List Pr)} {es : Array MapEntry} {ck : Nat} {P : Int → Nat} {U : Int → Value} {wr : World} (h : RpAt w bm i cs lg es ck P U wr) : RpAt w bm (i + 1) cs lg es ck P U wr :=
  { h with len := fun k L e => Nat.le_succ_of_le (h.len k L e) }
theorem RpAt.set {w : World} {bm i : Nat} {cs cs2 : Cs} {lg : Int → Option (List Pr)} {es : Array MapEntry} {ck : Nat} {P : Int → Nat} {U : Int → Value} {wr w' : World} (h : RpAt w bm i cs lg es ck P U wr) (hc : CeAt w' w.heap.size w.heap.size cs2) (hl : cs2.length = cs.length) (hf : TFr 89 w.heap.size wr w') : RpAt w bm i cs2 lg es ck P U w' :=
  { h with ce := hc, lm := h.lm.tfr hf, bel := hf.old h.bel (Nat.le_refl _), csl := by rw [hl]; exact h.csl }
theorem RpAt.drop {w : World} {bm i : Nat} {cs : Cs} {lg : Int → Option (List Pr)} {es : Array MapEntry} {ck : Nat} {P : Int → Nat} {U : Int → Value} {wr : World} (h : RpAt w bm i cs lg es ck P U wr) (k : Int) (hk : in64 k) :
    ∃ w2 es2, (∀ ty, (Builtin.delete_ #[57, 3] ty #[.map (some bm), iK k]).run Try.prog wr = .ok (.tuple #[]) w2) ∧ RpAt w bm (i + 1) cs (updO lg k none) es2 ck P U w2 := by
  obtain ⟨w2, es2, h1, h2, h3⟩ := h.lm.drop k hk
  refine ⟨w2, es2, h1, h.ce.map h.lm.em.heap h3, h2, h.bel.grown h3 (fun j hj => by cases hj; exact .inr h.at_), h.csl, fun j L e => ?_, fun j hj => ?_, h.at_⟩
  · unfold updO at e
    split at e
    · cases e
    · exact Nat.le_succ_of_le (h.len j L e)
  · unfold updO; split
    · rfl
    · exact h.pos j hj
theorem RpAt.put {w : World} {bm i : Nat} {cs : Cs} {lg : Int → Option (List Pr)} {es : Array MapEntry} {ck : Nat} {P : Int → Nat} {U : Int → Value} {wr w1 : World} (h : RpAt w bm i cs lg es ck P U wr) (k : Int) (hk : in64 k) (hp : 0 < k) (hno : ∀ x ∈ es.toList, x.key ≠ iK k)
    (hb : Below wr.heap.size wr w1) (pb : Nat) (hpb : wr.heap.size ≤ pb) (hl : LgAt w1 wr.heap.size pb [] (.slice none 0 0)) :
    ∃ w2 es2 ck2, (Instr.mapUpdate 57 (.map (some bm)) (iK k) (.pointer (some ⟨pb, 0, none⟩))).run Try.prog w1 = .ok () w2 ∧ RpAt w bm i cs (updO lg k (some [])) es2 ck2 (updO P k pb) (updO U k (.slice none 0 0)) w2 ∧ w1.grownBy w2 (some bm) := by
  have hsz := h.bel.size
  have hl2 : LgAt w1 w.heap.size pb [] (.slice none 0 0) := ⟨hl.blk, Kd.R_nil _ _ _ _ _, by omega⟩
  obtain ⟨w2, es2, ck2, h1, h2, h3⟩ := h.lm.put k hk hno hb pb hpb hl2
  have hm1 : w1.heap[bm]? = some (.map es ck) := (hb.block _ h.lm.em.lt).trans h.lm.em.heap
  refine ⟨w2, es2, ck2, h1, ⟨(h.ce.below hb).map hm1 h3, h2, (h.bel.quiet (Fr.of_below hb)).grown h3 (fun j hj => by cases hj; exact .inr h.at_), h.csl, fun j L e => ?_, fun j hj => ?_, h.at_⟩, h3⟩
  · unfold updO at e
    split at e
    · cases e; simp
    · exact h.len j L e
  · rw [updO_other _ (by omega)]
    exact h.pos j hj
theorem wroteL_len (L : List Pr) (c v : Int) : (wroteL L c v).length ≤ L.length + 1 := by
  unfold wroteL; split <;> simp
theorem RpAt.wrote {w : World} {bm i : Nat} {cs : Cs} {lg : Int → Option (List Pr)} {es : Array MapEntry} {ck : Nat} {P : Int → Nat} {U : Int → Value} {wr w1 : World} (h : RpAt w bm i cs lg es ck P U wr) (k : Int) (hx0 : ∃ x ∈ es.toList, x.key = iK k) (L : List Pr) (hL : lg k = some L) (c v : Int) (uv : Value)
    (hl0 : LgAt wr w.heap.size (P k) L (U k)) (hl : LgAt w1 w.heap.size (P k) (wroteL L c v) uv) (hat : uv.ownBlock = (U k).ownBlock ∨ ∃ g, uv.ownBlock = some g ∧ wr.heap.size ≤ g) (hf : Fr (fun j => j = P k ∨ (U k).ownBlock = some j) wr w1) : RpAt w bm (i + 1) cs (updO lg k (some (wroteL L c v))) es ck P (updO U k uv) w1 := by
  refine ⟨h.ce.log hl0 hf, h.lm.wrote k hx0 _ uv hl hat hf, h.bel.trans hf ?_, h.csl, fun j M e => ?_, fun j hj => ?_, h.at_⟩
  · rintro j (rfl | e)
    · exact .inr hl0.at_
    · exact .inr (hl0.row_blk j e).1
  · unfold updO at e
    split at e
    · injection e with e; subst e
      have := wroteL_len L c v
      have := h.len k L hL
      omega
    · exact Nat.le_succ_of_le (h.len j M e)
  · rw [updO_other _ (fun e => by subst e; rw [h.pos _ hj] at hL; cases hL)]
    exact h.pos j hj
theorem updO_updO {α : Type} (f : Int → α) (k : Int) (u v : α) : updO (updO f k u) k v = updO f k v := by
  funext j; unfold updO; split <;> rfl
theorem gOf_none {lg : Int → Option (List Pr)} {k : Int} (h : lg k = none) : gOf lg k = [] := by unfold gOf; rw [h]; rfl
theorem gOf_some {lg : Int → Option (List Pr)} {k : Int} {L : List Pr} (h : lg k = some L) : gOf lg k = L := by unfold gOf; rw [h]; rfl
theorem RpAt.glen {w : World} {bm i : Nat} {cs : Cs} {lg : Int → Option (List Pr)} {es : Array MapEntry} {ck : Nat} {P : Int → Nat} {U : Int → Value} {wr : World} (h : RpAt w bm i cs lg es ck P U wr) (k : Int) : (gOf lg k).length ≤ i := by
  unfold gOf
  cases e : lg k with
  | none => exact Nat.zero_le _
  | some L => exact h.len k L e
theorem RpAt.undo {w : World} {bm i : Nat} {cs : Cs} {lg : Int → Option (List Pr)} {es : Array MapEntry} {ck : Nat} {P : Int → Nat} {U : Int → Value} {wr : World} (h : RpAt w bm i cs lg es ck P U wr) (hi : i ≤ 1000000) (k : Int) (hk : in64 k) :
    ∃ pv, (∀ w', w'.heap[bm]? = wr.heap[bm]? → (Instr.lookup 57 (.map (some bm)) (iK k) false).run Try.prog w' = .ok pv w') ∧
      Calls Try.prog 37 #[pv] wr fun e w' => ∃ A c, e = .returned (.slice A (gOf lg k).reverse.length c) ∧ Kd.R kPr 62 w' wr.heap.size (fun _ => True) (.slice A (gOf lg k).reverse.length c) (gOf lg k).reverse ∧ Below wr.heap.size wr w' := by
  rcases h.lm.look k hk with ⟨h1, _, h3⟩ | ⟨L, h1, _, h3, h4⟩
  · refine ⟨_, h3, (wUndoNil wr).mono ?_⟩
    rintro e w' ⟨rfl, rfl⟩
    rw [gOf_none h1]
    exact ⟨none, 0, rfl, Kd.R_nil _ _ _ _ _, Below.refl _ _⟩
  · refine ⟨_, h4, (wUndo wr _ _ L _ h3 (Nat.le_trans (h.len k L h1) hi)).mono ?_⟩
    rintro e w' ⟨v, rfl, hr, hb⟩
    rw [gOf_some h1]
    obtain ⟨A, c, rfl⟩ := Kd.R_slice hr
    exact ⟨A, c, rfl, hr, hb⟩
theorem Pr_tfr {w w1 : World} {base b2 : Nat} {v : Value} {L : List Pr} (h : Kd.R kPr 62 w base (fun _ => True) v L) (hf : TFr 89 b2 w w1) : Kd.R kPr 62 w1 base (fun _ => True) v L := by
  refine Kd.R_mono (Kd.R_move (ok := fun g => v.ownBlock = some g) ⟨fun k hk => hk, h.2.imp_ (fun _ _ q => q)⟩ (fun g hg => ?_)) (fun _ _ => trivial)
  refine hf.block g ((own2_of_R h).lt g hg).2 (fun ⟨_, cells, hc⟩ => ?_)
  obtain ⟨c2, hc2⟩ := own_typed (own2_of_R h) g hg
  rw [hc] at hc2
  injection hc2 with hc2
  injection hc2 with _ hc2
  exact absurd hc2 (by decide)
theorem logKeeps {w w' : World} {base pb : Nat} {L : List Pr} {uv : Value} (hl : LgAt w base pb L uv) (hf : Fr (fun k => k = pb ∨ uv.ownBlock = some k) w w') {g : Nat} {cs : Array Value} {t : TypeId} (hb : Blk w g cs t) (h1 : t ≠ 92) (h2 : t ≠ 62) : Blk w' g cs t :=
  hf.blk hb (by
    unfold Blk at hb
    rintro (rfl | e)
    · obtain ⟨fv, n, hb2⟩ := hl.blk
      unfold Blk at hb2
      rw [hb2] at hb
      injection hb with hb
      injection hb with _ hb
      exact h1 hb.symm
    · obtain ⟨_, _, c2, hc⟩ := hl.row_blk g e
      rw [hc] at hb
      injection hb with hb
      injection hb with _ hb
      exact h2 hb.symm)
theorem RpAt.fresh {w : World} {bm i : Nat} {cs : Cs} {lg : Int → Option (List Pr)} {es : Array MapEntry} {ck : Nat} {P : Int → Nat} {U : Int → Value} {wr w1 : World} (h : RpAt w bm i cs lg es ck P U wr) (k : Int) (hk : in64 k) (hp : 0 < k) (hno : ∀ x ∈ es.toList, x.key ≠ iK k)
    (hb : Below wr.heap.size wr w1) (pb : Nat) (hpb : wr.heap.size ≤ pb) (hl : LgAt w1 wr.heap.size pb [] (.slice none 0 0)) {pm : Nat} {ms : Array Value} (hbk : Blk wr pm ms 29) :
    ∃ w2, (Instr.mapUpdate 57 (.map (some bm)) (iK k) (.pointer (some ⟨pb, 0, none⟩))).run Try.prog w1 = .ok () w2 ∧ Blk w2 pm ms 29 ∧ 
      (Instr.lookup 57 (.map (some bm)) (iK k) false).run Try.prog w2 = .ok (.pointer (some ⟨pb, 0, none⟩)) w2 ∧
      ∀ c v, Calls Try.prog 41 #[.pointer (some ⟨pb, 0, none⟩), .int .i64 c, .int .i64 v] w2 fun e w' => e = .returned (.tuple #[]) ∧ (∃ es2 ck2 P2 U2, RpAt w bm (i + 1) cs (updO lg k (some (wroteL [] c v))) es2 ck2 P2 U2 w') ∧ Blk w' pm ms 29 := by
  obtain ⟨w2, es2, ck2, h1, h2, h3⟩ := h.put k hk hp hno hb pb hpb hl
  have hne : bm ≠ pm := by
    rintro rfl
    have := h.lm.em.heap
    unfold Blk at hbk
    rw [hbk] at this; cases this
  have hb1 : Blk w1 pm ms 29 := (hb.block _ hbk.lt).trans hbk
  have hb2 : Blk w2 pm ms 29 := (h3.block _ hb1.lt (fun e => hne (Option.some.inj e).symm)).trans hb1
  have hlook := h2.lm.look k hk
  rcases hlook with ⟨q, _⟩ | ⟨L, q1, q2, q3, q4⟩
  · rw [updO_same] at q; cases q
  · have h00 : ([] : List Pr).length ≤ 1000000 := by rw [List.length_nil]; omega
    rw [updO_same] at q1 q3 q3
    injection q1 with q1
    subst q1
    have q5 := q4 w2 rfl
    rw [updO_same] at q5
    refine ⟨w2, h1, hb2, q5, fun c v => (wWrote w2 w.heap.size pb [] _ q3 h00 c v).mono ?_⟩
    rintro e w' ⟨rfl, uv, hl7, hat7, hf7⟩
    have q3' : LgAt w2 w.heap.size (updO P k pb k) [] (updO U k (.slice none 0 0) k) := by rw [updO_same, updO_same]; exact q3
    have hw := h2.wrote k q2 [] (updO_same _ _ _) c v uv q3' (by rw [updO_same]; exact hl7) (by rw [updO_same]; exact hat7) (by rw [updO_same, updO_same]; exact hf7)
    rw [updO_updO] at hw
    exact ⟨rfl, ⟨_, _, _, _, hw⟩, logKeeps q3 hf7 hb2 (by decide) (by decide)⟩
structure InAt (w : World) (bm i : Nat) (cs0 : Cs) (lg : Int → Option (List Pr)) (es : Array MapEntry) (ck : Nat) (P : Int → Nat) (U : Int → Value) (Lr : List Pr) (v : Value) (bs pm : Nat) (ms : Array Value) (j : Nat) (cs : Cs) (wi : World) : Prop where
  eq : setAll (Lr.drop j) cs = setAll Lr cs0
  rp : RpAt w bm i cs lg es ck P U wi
  row : Kd.R kPr 62 wi bs (fun _ => True) v Lr
  blk : Blk wi pm ms 29
end Go.Proofs.Ytadepdeckapgcaa.Hi
end

section
namespace Go.Proofs.Ytadepdeckapgcaa.Hi
open Go.Proofs.Ytadepdeckapgcaa Go.RowKit Go.Proofs.YtadepdeckapgcaaW.PrintWords Go.Proofs.Ytadepdeckapgcaa.PHj Go.Proofs.Ytadepdeckapgcaa.PHi
set_option linter.unusedVariables false
set_option linter.unusedSimpArgs false
structure Og where
  n : Int
  u : List Pr
  v : Value
def gL : List Og → Int → List Pr
  | [], _ => []
  | x :: r, k => if x.n = k then x.u else gL r k
def atF (O : List Og) (k : Int) : Nat → Int
  | 0 => -1
  | j + 1 => if (O.getD j ⟨0, [], .int .i64 0⟩).n = k then (j : Int) else atF O k j
def UnO (O : List Og) : Prop := (O.map (·.n)).Nodup
theorem atF_none (O : List Og) (k : Int) : ∀ j, j ≤ O.length → atF O k j = -1 → ∀ i (h : i < O.length), i < j → O[i].n ≠ k
  | 0, _, _, i, h, hi => by omega
  | j + 1, hj, e, i, h, hi => by
    have q : O.getD j ⟨0, [], .int .i64 0⟩ = O[j] := by simp [show j < O.length by omega]
    simp only [atF] at e
    rw [q] at e
    split at e
    · omega
    · rename_i hn
      by_cases c : i = j
      · subst c; exact hn
      · exact atF_none O k j (by omega) e i h (by omega)
theorem atF_cases (O : List Og) (k : Int) : ∀ j, j ≤ O.length → atF O k j = -1 ∨ ∃ i : Nat, ∃ h : i < O.length, i < j ∧ atF O k j = (i : Int) ∧ O[i].n = k
  | 0, _ => .inl rfl
  | j + 1, hj => by
    have q : O.getD j ⟨0, [], .int .i64 0⟩ = O[j] := by simp [show j < O.length by omega]
    simp only [atF]
    rw [q]
    split
    · rename_i e; exact .inr ⟨j, by omega, by omega, rfl, e⟩
    · rcases atF_cases O k j (by omega) with e | ⟨i, h, hi, e, en⟩
      · exact .inl e
      · exact .inr ⟨i, h, by omega, e, en⟩
theorem gL_none (k : Int) : ∀ (O : List Og), (∀ i (h : i < O.length), O[i].n ≠ k) → gL O k = []
  | [], _ => rfl
  | x :: r, h => by
    have h0 := h 0 (by simp)
    simp only [List.getElem_cons_zero] at h0
    simp only [gL]
    rw [if_neg h0]
    exact gL_none k r (fun i hi => by have := h (i + 1) (by simp; omega); simpa using this)
theorem gL_at : ∀ (O : List Og), UnO O → ∀ i (h : i < O.length), gL O O[i].n = O[i].u
  | [], _, i, h => by simp at h
  | x :: r, hu, 0, h => by simp [gL]
  | x :: r, hu, i + 1, h => by
    have hu' := List.nodup_cons.1 (show (x.n :: r.map (·.n)).Nodup from hu)
    have hi : i < r.length := by simpa using h
    simp only [gL, List.getElem_cons_succ]
    rw [if_neg (fun e => hu'.1 (by rw [e]; exact List.mem_map.2 ⟨r[i], List.getElem_mem hi, rfl⟩))]
    exact gL_at r hu'.2 i hi
theorem map_set_n (O : List Og) (i : Nat) (h : i < O.length) (y : Og) (hy : y.n = O[i].n) : (O.set i y).map (·.n) = O.map (·.n) := by
  have hl : i < (O.map (·.n)).length := by simpa using h
  have : (O.map (·.n)).set i ((O.map (·.n))[i]'hl) = O.map (·.n) := List.set_getElem_self hl
  rw [List.map_set, hy]
  simpa using this
theorem gL_set : ∀ (O : List Og) (i : Nat) (h : i < O.length) (y : Og), UnO O → y.n = O[i].n → gL (O.set i y) = updO (gL O) y.n y.u
  | [], i, h, _, _, _ => by simp at h
  | x :: r, 0, h, y, hu, hy => by
    simp only [List.getElem_cons_zero] at hy
    funext k
    simp only [List.set_cons_zero, gL, updO]
    by_cases c : k = y.n
    · rw [if_pos c.symm, if_pos c]
    · rw [if_neg (fun e => c e.symm), if_neg c, if_neg (fun e => c (by rw [← e, hy]))]
  | x :: r, i + 1, h, y, hu, hy => by
    have hu' := List.nodup_cons.1 (show (x.n :: r.map (·.n)).Nodup from hu)
    have hi : i < r.length := by simpa using h
    simp only [List.getElem_cons_succ] at hy
    funext k
    simp only [List.set_cons_succ, gL, updO]
    rw [gL_set r i hi y hu'.2 hy]
    have hx : x.n ≠ y.n := fun e => hu'.1 (by rw [e, hy]; exact List.mem_map.2 ⟨r[i], List.getElem_mem hi, rfl⟩)
    by_cases c : x.n = k
    · rw [if_pos c, if_neg (fun e => hx (c.trans e)), if_pos c]
    · rw [if_neg c, if_neg c]; rfl
theorem gL_push : ∀ (O : List Og) (y : Og), (∀ i (h : i < O.length), O[i].n ≠ y.n) → gL (O ++ [y]) = updO (gL O) y.n y.u
  | [], y, _ => by
    funext k
    simp only [List.nil_append, gL, updO]
    by_cases c : k = y.n
    · rw [if_pos c.symm, if_pos c]
    · rw [if_neg (fun e => c e.symm), if_neg c]
  | x :: r, y, h => by
    have h0 := h 0 (by simp)
    simp only [List.getElem_cons_zero] at h0
    funext k
    simp only [List.cons_append, gL, updO]
    rw [gL_push r y (fun i hi => by have := h (i + 1) (by simp; omega); simpa using this)]
    by_cases c : x.n = k
    · rw [if_pos c, if_neg (fun e => h0 (c.trans e)), if_pos c]
    · rw [if_neg c, if_neg c]; rfl
theorem UnO.set {O : List Og} (hu : UnO O) (i : Nat) (h : i < O.length) (y : Og) (hy : y.n = O[i].n) : UnO (O.set i y) := by
  unfold UnO; rw [map_set_n O i h y hy]; exact hu
theorem UnO.push {O : List Og} (hu : UnO O) (y : Og) (h : ∀ i (h : i < O.length), O[i].n ≠ y.n) : UnO (O ++ [y]) := by
  unfold UnO
  rw [List.map_append, List.nodup_append]
  refine ⟨hu, by simp, fun a ha b hb => ?_⟩
  simp at hb
  subst hb
  obtain ⟨x, hx, rfl⟩ := List.mem_map.1 ha
  obtain ⟨i, hi, rfl⟩ := List.getElem_of_mem hx
  exact h i hi
theorem updO_self {α : Type} (f : Int → α) (k : Int) : updO f k (f k) = f := by
  funext j; unfold updO; split
  · rename_i e; rw [e]
  · rfl
def gV (n : Int) (v : Value) : List Value := [.slice none 0 0, .int .i64 n, .int .i64 0, v, .slice none 0 0]
def encG (O : List Og) : List Value := O.flatMap fun x => gV x.n x.v
theorem encG_cons (x : Og) (O : List Og) : encG (x :: O) = .slice none 0 0 :: .int .i64 x.n :: .int .i64 0 :: x.v :: .slice none 0 0 :: encG O := rfl
theorem encG_append (O P : List Og) : encG (O ++ P) = encG O ++ encG P := by simp [encG]
theorem encG_get (O : List Og) : ∀ i (h : i < O.length), (encG O)[i * 5]? = some (.slice none 0 0) ∧ (encG O)[i * 5 + 1]? = some (.int .i64 O[i].n) ∧ (encG O)[i * 5 + 2]? = some (.int .i64 0) ∧ (encG O)[i * 5 + 3]? = some O[i].v ∧ (encG O)[i * 5 + 4]? = some (.slice none 0 0) := by
  induction O with
  | nil => intro i h; simp at h
  | cons x O ih =>
    intro i h
    rw [encG_cons]
    cases i with
    | zero => simp
    | succ i =>
      have := ih i (by simpa using h)
      rw [show (i + 1) * 5 = i * 5 + 1 + 1 + 1 + 1 + 1 by omega]
      simpa using this
theorem encG_set (O : List Og) (y : Og) : ∀ i (h : i < O.length), (((((encG O).set (i * 5) (.slice none 0 0)).set (i * 5 + 1) (.int .i64 y.n)).set (i * 5 + 2) (.int .i64 0)).set (i * 5 + 3) y.v).set (i * 5 + 4) (.slice none 0 0) = encG (O.set i y) := by
  induction O with
  | nil => intro i h; simp at h
  | cons x O ih =>
    intro i h
    cases i with
    | zero => simp [encG_cons]
    | succ i =>
      have := ih i (by simpa using h)
      rw [encG_cons, show (i + 1) * 5 = i * 5 + 1 + 1 + 1 + 1 + 1 by omega]
      simp only [List.set_cons_succ, encG_cons, List.cons.injEq, true_and]
      exact this
end Go.Proofs.Ytadepdeckapgcaa.Hi
end
