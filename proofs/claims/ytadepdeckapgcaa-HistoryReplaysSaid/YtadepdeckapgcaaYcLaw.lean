/- logjamlaw38.HistoryReplays: for every input it returns true, and its arguments read afterwards as before. No condition. -/
import Derived.Test.YtadepdeckapgcaaRows
import Derived.Test.YtadepdeckapgcaaYcF
import Derived.WalkKit
import Derived.ProofKit
import Derived.OpenShut
import Derived.ChangeOld
import Derived.Below
namespace Go.Proofs.Ytadepdeckapgcaa.historyReplays
open Go.ChangeShapes Go.WideShapes Go.ChangeAt Go.RowKit
set_option linter.unusedVariables false
theorem own : ownKnob Try.prog.godebug = none := by kernel_rfl
theorem laidOut : laidOutB Try.prog = true := by kernel_rfl
theorem opens3 : Opens Try.prog 3 shInt := opens_int Try.underlying3 (by kernel_rfl)
theorem opens86 : Opens Try.prog 86 (shP shInt (shP shInt shInt)) := opens_struct Try.underlying86 (by kernel_rfl) (opensFs_cons rfl opens3 (opensFs_cons rfl opens3 (opensFs_one rfl opens3)))
theorem opens38 : Opens Try.prog 38 (shL (shP shInt (shP shInt shInt))) := opens_slice Try.underlying38 (by kernel_rfl) (by decide) opens86
theorem opens29 : Opens Try.prog 29 (shP shInt (shP shInt (shP shInt (shP shInt shInt)))) := opens_struct Try.underlying29 (by kernel_rfl) (opensFs_cons rfl opens3 (opensFs_cons rfl opens3 (opensFs_cons rfl opens3 (opensFs_cons rfl opens3 (opensFs_one rfl opens3)))))
theorem opens22 : Opens Try.prog 22 (shL (shP shInt (shP shInt (shP shInt (shP shInt shInt))))) := opens_slice Try.underlying22 (by kernel_rfl) (by decide) opens29
set_option maxRecDepth 100000 in
theorem lifted (os : Os) (started : os.Started) (H : Type) (enc : TypeId × Value → H) :
    ReturnsInHanded {} Try.checked os 5 .any (Rows.historyReplaysSpec.pre6 enc Try.prog Try.f5 Rows.historyReplaysRow.domain false) (Rows.historyReplaysSpec.post enc Try.prog Try.f5 false true false false) := by
  refine returnsInHanded_of_change (C := Try.checked) own started (by kernel_rfl) Try.func5
    (ChangeSpec.witness6 (enc := enc) (C := Try.checked) false ⟨#[], #[.slice none 0 0, .slice none 0 0], []⟩ 8 (by kernel_rfl) (by kernel_rfl) (by kernel_rfl) (by kernel_rfl)) ?_
  intro W base args ds gs before hval0 hW hcnd _
  have hval : ∀ (j : Nat) t v, Try.f5.params[j]? = some t → args[j]? = some v → Value.okWide Try.prog W .any base t v := hval0
  have hW' := hW
  obtain ⟨p, q, hA0, hV, rfl, hfz, hnd⟩ := hW
  have hA : DataW.TrodAll enc Try.prog W 0 (fun _ => true) true Try.f5.params.toList args.toList ds p := hA0
  rw [Try.params5] at hA hval
  obtain ⟨v0, vs0, d0, ds0, p0, q0, hargs, rfl, rfl, h0, r0⟩ := trodAll_cons hA
  obtain ⟨v1, vs1, d1, ds1, p1, q1, rfl, rfl, rfl, h1, r1⟩ := trodAll_cons r0
  obtain ⟨rfl, rfl, rfl⟩ := trodAll_nil r1
  obtain rfl : args = #[v0, v1] := by cases args; simp_all
  obtain ⟨rfl, rfl⟩ := trodVars_none hV
  have k0 := h0
  have lt0 : ∀ x ∈ p0, x.block < W.heap.size := by obtain ⟨m, hm⟩ := k0; exact DataW.trod_lt m _ _ _ hm
  obtain ⟨a0, e0⟩ : ∃ a, ((shL (shP shInt (shP shInt shInt)))).rd W W.heap.size a v0.cells.toList := by obtain ⟨fuel, hf⟩ := h0; exact opens38.2 _ _ _ _ _ _ hf
  replace e0 := val_slice Try.underlying38 (hval 0 38 v0 rfl rfl) e0
  have k1 := h1
  have lt1 : ∀ x ∈ p1, x.block < W.heap.size := by obtain ⟨m, hm⟩ := k1; exact DataW.trod_lt m _ _ _ hm
  obtain ⟨a1, e1⟩ : ∃ a, ((shL (shP shInt (shP shInt (shP shInt (shP shInt shInt)))))).rd W W.heap.size a v1.cells.toList := by obtain ⟨fuel, hf⟩ := h1; exact opens22.2 _ _ _ _ _ _ hf
  replace e1 := val_slice Try.underlying22 (hval 1 22 v1 rfl rfl) e1
  clear hA0 hval0
  refine (Hi.historyReplaysW W v0 a0 e0 v1 a1 e1).mono fun e W' ⟨he, hq⟩ => ?_
  subst he
  have bel : Below W.heap.size W W' := hq.below (fun _ _ h => h)
  exact ⟨_, rfl, _, _, _, [], _, [], hW', trodAll_mk1 (shut_bool Try.underlying4 _), (trodAll_cons_mk (Below.trod laidOut (by kernel_rfl) (of_decide_eq_true (by kernel_rfl)) k0 bel lt0) (trodAll_cons_mk (Below.trod laidOut (by kernel_rfl) (of_decide_eq_true (by kernel_rfl)) k1 bel lt1) trodAll_mk0)), rfl, bel.frame _, fun h => by cases h⟩
theorem over : Rows.historyReplaysRow.holds Try.pinned (OpenSpec.ofChange Rows.historyReplaysSpec) :=
  OpenClaim.holds_of_wide 5 Try.f5 rfl rfl rfl rfl rfl rfl rfl ⟨rfl, rfl, rfl, rfl, rfl⟩ rfl rfl rfl rfl rfl (by kernel_rfl) Try.func5 (by kernel_rfl)
    (of_decide_eq_true (by kernel_rfl)) (by unfold Func.isWrapper; first | (rw [if_pos (by decide +kernel)]; kernel_rfl) | (rw [if_neg (by decide +kernel)]; exact ⟨rfl, rfl⟩))
    (fun os started H enc _ => lifted os started H enc)
theorem proved : Rows.HistoryReplaysSaid := over
#print axioms proved
end Go.Proofs.Ytadepdeckapgcaa.historyReplays
