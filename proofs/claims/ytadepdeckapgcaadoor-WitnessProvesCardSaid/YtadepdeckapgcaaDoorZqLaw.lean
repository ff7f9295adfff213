/- logjamlaw37.WitnessProves: That, if any report is sound, and says what a graph says, all of it are doomed there. No condition. -/
import Derived.Test.YtadepdeckapgcaaDoorRows
import Derived.Test.YtadepdeckapgcaaDoorZqD
import Derived.Test.YtadepdeckapgcaaDoorCards
import Derived.Test.YtadepdeckapgcaaDoorTie
import Derived.WalkKit
import Derived.ProofKit
import Derived.OpenShut
import Derived.ChangeOld
import Derived.Below
import Derived.Handy
import Derived.Lay
import Derived.SevenTiedAt
import Derived.Lib.LaidTab
namespace Go.Proofs.YtadepdeckapgcaaDoor.witnessProves
open Go.ChangeShapes Go.WideShapes Go.ChangeAt Go.RowKit
set_option linter.unusedVariables false
theorem own : ownKnob Tryd.prog.godebug = none := by kernel_rfl
theorem laidOut : laidOutB Tryd.prog = true := by kernel_rfl
theorem opens3 : Opens Tryd.prog 3 shInt := opens_int Tryd.underlying3 (by kernel_rfl)
theorem opens108 : Opens Tryd.prog 108 (shP shInt shInt) := opens_struct Tryd.underlying108 (by kernel_rfl) (opensFs_cons rfl opens3 (opensFs_one rfl opens3))
theorem opens94 : Opens Tryd.prog 94 (shL (shP shInt shInt)) := opens_slice Tryd.underlying94 (by kernel_rfl) (by decide) opens108
theorem opens96 : Opens Tryd.prog 96 (shP shInt (shL (shP shInt shInt))) := opens_struct Tryd.underlying96 (by kernel_rfl) (opensFs_cons rfl opens3 (opensFs_one rfl opens94))
theorem opens93 : Opens Tryd.prog 93 (shL (shP shInt (shL (shP shInt shInt)))) := opens_slice Tryd.underlying93 (by kernel_rfl) (by decide) opens96
theorem opens90 : Opens Tryd.prog 90 (shL (shL (shP shInt (shL (shP shInt shInt))))) := opens_slice Tryd.underlying90 (by kernel_rfl) (by decide) opens93
theorem opens4 : Opens Tryd.prog 4 shBool := opens_bool Tryd.underlying4 (by kernel_rfl)
theorem opens92 : Opens Tryd.prog 92 (shP shBool (shL (shL (shP shInt (shL (shP shInt shInt)))))) := opens_struct Tryd.underlying92 (by kernel_rfl) (opensFs_cons rfl opens4 (opensFs_one rfl opens90))
theorem opens23 : Opens Tryd.prog 23 (shL (shP shBool (shL (shL (shP shInt (shL (shP shInt shInt))))))) := opens_slice Tryd.underlying23 (by kernel_rfl) (by decide) opens92
theorem opens22 : Opens Tryd.prog 22 (shL shInt) := opens_slice Tryd.underlying22 (by kernel_rfl) (by decide) opens3
theorem opens25 : Opens Tryd.prog 25 (shP shInt (shP (shL shInt) (shL (shP shBool (shL (shL (shP shInt (shL (shP shInt shInt))))))))) := opens_struct Tryd.underlying25 (by kernel_rfl) (opensFs_cons rfl opens3 (opensFs_cons rfl opens22 (opensFs_one rfl opens23)))
theorem tb_of_laid {W : World} (h : laidMetH Tryd.prog Rows.witnessProvesRow.laid W) : Tb W := by
  rw [MakeChecks.laidMetH_plain _ _ _ (by kernel_rfl)] at h
  intro j hj
  have hz : (Lib.deBruijn64tab.map (Int.ofNat)).length = 64 := rfl
  have q := Go.Lib.TabIs.cell (g := 0) (Go.Lib.tabIs_of_head (name := "math/bits.deBruijn64tab") (k := .u8) (zs := Lib.deBruijn64tab.map Int.ofNat) (g := 0) (t := 177) (e := 5) (n := 64) (by kernel_rfl) (by kernel_rfl) Tryd.underlying177 Tryd.underlying5 (by kernel_rfl) (by kernel_rfl) h) (by kernel_rfl) j (by rw [hz]; exact hj)
  rw [q]
  have e : (Lib.deBruijn64tab.map Int.ofNat).getD j 0 = ((Lib.deBruijn64tab.getD j 0 : Nat) : Int) := by rw [List.getD_eq_getElem?_getD, List.getD_eq_getElem?_getD, List.getElem?_map]; cases Lib.deBruijn64tab[j]? <;> rfl
  rw [e]
set_option maxRecDepth 100000 in
theorem lifted (os : Os) (started : os.Started) (H : Type) (enc : TypeId × Value → H) :
    ReturnsInHanded {} Tryd.checked os 5 .any (fun w args => (Rows.witnessProvesSpec.pre enc Tryd.prog Tryd.f5 Rows.witnessProvesRow.domain false w args ∧ laidMetH Tryd.prog Rows.witnessProvesRow.laid w) ∧ sizedMet enc Tryd.prog Tryd.f5 (OpenSpec.ofChange Rows.witnessProvesSpec) false w args)
      (Rows.witnessProvesSpec.post enc Tryd.prog Tryd.f5 false true false false) := by
  refine returnsInHanded_of_change_and (C := Tryd.checked) (X := fun w _ => laidMetH Tryd.prog Rows.witnessProvesRow.laid w) (fun _ _ _ hh h => h.of_heap hh) own started (by kernel_rfl) Tryd.func5
    (ChangeSpec.witness_shaped (enc := enc) (C := Tryd.checked) (os := os) (X := fun w _ => laidMetH Tryd.prog Rows.witnessProvesRow.laid w) false (World.laidAll Tryd.prog os Rows.witnessProvesRow.laid) #[.agg #[.int .i64 0, .slice none 0 0, .slice none 0 0], .slice none 0 0] 8 (World.laidAll_os _ _ _)
      (World.shaped_of_ZipB (by kernel_rfl) (by kernel_rfl)) (by kernel_rfl) (by kernel_rfl) (by kernel_rfl)
      (by rw [MakeChecks.laidMetH_plain _ _ _ (by kernel_rfl)]; exact laidMet_laidAll _ (by kernel_rfl) (by kernel_rfl))) ?_
  intro W base args ds gs before hval0 hW hcnd _ hL _
  have hTb : Tb W := tb_of_laid hL
  have hval : ∀ (j : Nat) t v, Tryd.f5.params[j]? = some t → args[j]? = some v → Value.okWide Tryd.prog W .any base t v := hval0
  have hW' := hW
  obtain ⟨p, q, hA0, hV, rfl, hfz, hnd⟩ := hW
  have hA : DataW.TrodAll enc Tryd.prog W 0 (fun _ => true) true Tryd.f5.params.toList args.toList ds p := hA0
  rw [Tryd.params5] at hA hval
  obtain ⟨v0, vs0, d0, ds0, p0, q0, hargs, rfl, rfl, h0, r0⟩ := trodAll_cons hA
  obtain ⟨v1, vs1, d1, ds1, p1, q1, rfl, rfl, rfl, h1, r1⟩ := trodAll_cons r0
  obtain ⟨rfl, rfl, rfl⟩ := trodAll_nil r1
  obtain rfl : args = #[v0, v1] := by cases args; simp_all
  obtain ⟨rfl, rfl⟩ := trodVars_none hV
  have k0 := h0
  have lt0 : ∀ x ∈ p0, x.block < W.heap.size := by obtain ⟨m, hm⟩ := k0; exact DataW.trod_lt m _ _ _ hm
  obtain ⟨a0, e0⟩ : ∃ a, ((shP shInt (shP (shL shInt) (shL (shP shBool (shL (shL (shP shInt (shL (shP shInt shInt)))))))))).rd W W.heap.size a v0.cells.toList := by obtain ⟨fuel, hf⟩ := h0; exact opens25.2 _ _ _ _ _ _ hf
  obtain ⟨cs0, rfl, hcs0⟩ := okWide_struct Tryd.underlying25 (hval 0 25 v0 rfl rfl)
  have k1 := h1
  have lt1 : ∀ x ∈ p1, x.block < W.heap.size := by obtain ⟨m, hm⟩ := k1; exact DataW.trod_lt m _ _ _ hm
  obtain ⟨a1, e1⟩ : ∃ a, ((shL (shP shBool (shL (shL (shP shInt (shL (shP shInt shInt)))))))).rd W W.heap.size a v1.cells.toList := by obtain ⟨fuel, hf⟩ := h1; exact opens23.2 _ _ _ _ _ _ hf
  replace e1 := val_slice Tryd.underlying23 (hval 1 23 v1 rfl rfl) e1
  clear hA0 hval0
  refine (witnessProvesW W hTb cs0 a0 e0 v1 a1 e1).mono fun e W' ⟨he, hq⟩ => ?_
  subst he
  have bel : Below W.heap.size W W' := hq.below (fun _ _ h => h)
  exact ⟨_, rfl, _, _, _, [], _, [], hW', trodAll_mk1 (shut_bool Tryd.underlying4 _), (trodAll_cons_mk (Below.trod laidOut (by kernel_rfl) (of_decide_eq_true (by kernel_rfl)) k0 bel lt0) (trodAll_cons_mk (Below.trod laidOut (by kernel_rfl) (of_decide_eq_true (by kernel_rfl)) k1 bel lt1) trodAll_mk0)), rfl, bel.frame _, fun h => by cases h⟩
theorem over : Rows.witnessProvesRow.holds Tryd.pinned (OpenSpec.ofChange Rows.witnessProvesSpec) :=
  OpenClaim.holds_of_wide 5 Tryd.f5 rfl rfl rfl rfl rfl rfl rfl ⟨rfl, rfl, rfl, rfl, rfl⟩ rfl rfl rfl rfl rfl (by kernel_rfl) Tryd.func5 (by kernel_rfl)
    (of_decide_eq_true (by kernel_rfl)) (by unfold Func.isWrapper; first | (rw [if_pos (by decide +kernel)]; kernel_rfl) | (rw [if_neg (by decide +kernel)]; exact ⟨rfl, rfl⟩))
    (fun os started H enc _ => lifted os started H enc)
theorem proved : Rows.WitnessProvesCardSaid :=
  Claim7.holds_tied_plain_at .later [] [.data] true (true, "bb26db706657078348f512110012af2b93b0e83c497c1e84f7b02990bd31abda") true over (fun _ h => by cases h) (by kernel_rfl) (fun _ h => by cases h) witnessProves_row_tie rfl ⟨rfl, rfl⟩ (by kernel_rfl) rfl
    (fun f fn hf hfn => by
      obtain rfl : f = 5 := Option.some.inj ((show Tryd.prog.funcNamed "logjam/logjamlaw37.WitnessProves" = some 5 by kernel_rfl).symm.trans hf) |>.symm
      obtain rfl : fn = Tryd.f5 := (Option.some.inj (Tryd.func5.symm.trans hfn)).symm
      exact ⟨by kernel_rfl, fun j t ht => by
        rw [Tryd.params5] at ht
        have hm : t ∈ [25, 23] := by simpa using Array.mem_of_getElem? ht
        have hall : ([25, 23].all fun u => !Tryd.prog.wantsStandIn u) = true := by kernel_rfl
        exact (show Tryd.prog.wantsStandIn t = false by simpa using List.all_eq_true.1 hall t hm)⟩)
    (by kernel_rfl)
#print axioms proved
end Go.Proofs.YtadepdeckapgcaaDoor.witnessProves
