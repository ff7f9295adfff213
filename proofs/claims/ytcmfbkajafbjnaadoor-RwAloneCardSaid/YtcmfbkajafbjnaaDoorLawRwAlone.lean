/- logjamlaw17.RwAlone: for every input it returns true, and its arguments read afterwards as before. No condition. -/
import Derived.Test.YtcmfbkajafbjnaaDoorRows
import Derived.Test.YtcmfbkajafbjnaaDoorShape
import Derived.Test.YtcmfbkajafbjnaaDoorCards
import Derived.Test.YtcmfbkajafbjnaaDoorTie
import Derived.Test.YtcmfbkajafbjnaaDoorRa
import Derived.WalkKit
import Derived.ProofKit
import Derived.OpenShut
import Derived.ChangeOld
import Derived.Below
import Derived.Handy
import Derived.Lay
import Derived.SevenTiedAt
import Derived.Lib.LaidTab
namespace Go.Proofs.YtcmfbkajafbjnaaDoor.rwAlone
open Go.ChangeShapes Go.WideShapes Go.ChangeAt Go.RowKit
set_option linter.unusedVariables false
theorem own : ownKnob Tryd.prog.godebug = none := by kernel_rfl
theorem laidOut : laidOutB Tryd.prog = true := by kernel_rfl
theorem opens3 : Opens Tryd.prog 3 shInt := opens_int Tryd.underlying3 (by kernel_rfl)
theorem opens34 : Opens Tryd.prog 34 (shP shInt shInt) := opens_struct Tryd.underlying34 (by kernel_rfl) (opensFs_cons rfl opens3 (opensFs_one rfl opens3))
theorem opens22 : Opens Tryd.prog 22 (shL (shP shInt shInt)) := opens_slice Tryd.underlying22 (by kernel_rfl) (by decide) opens34
theorem tb_of_laid {W : World} (h : laidMetH Tryd.prog Rows.rwAloneRow.laid W) : Tb W := by
  rw [MakeChecks.laidMetH_plain _ _ _ (by kernel_rfl)] at h
  intro j hj
  have hz : (Lib.deBruijn64tab.map (Int.ofNat)).length = 64 := rfl
  have q := Go.Lib.TabIs.cell (g := 0) (Go.Lib.tabIs_of_head (name := "math/bits.deBruijn64tab") (k := .u8) (zs := Lib.deBruijn64tab.map Int.ofNat) (g := 0) (t := 56) (e := 5) (n := 64) (by kernel_rfl) (by kernel_rfl) Tryd.underlying56 Tryd.underlying5 (by kernel_rfl) (by kernel_rfl) h) (by kernel_rfl) j (by rw [hz]; exact hj)
  rw [q]
  have e : (Lib.deBruijn64tab.map Int.ofNat).getD j 0 = ((Lib.deBruijn64tab.getD j 0 : Nat) : Int) := by rw [List.getD_eq_getElem?_getD, List.getD_eq_getElem?_getD, List.getElem?_map]; cases Lib.deBruijn64tab[j]? <;> rfl
  rw [e]
set_option maxRecDepth 100000 in
theorem lifted (os : Os) (started : os.Started) (H : Type) (enc : TypeId × Value → H) :
    ReturnsInHanded {} Tryd.checked os 4 .any (fun w args => (Rows.rwAloneSpec.pre enc Tryd.prog Tryd.f4 Rows.rwAloneRow.domain false w args ∧ laidMetH Tryd.prog Rows.rwAloneRow.laid w) ∧ sizedMet enc Tryd.prog Tryd.f4 (OpenSpec.ofChange Rows.rwAloneSpec) false w args)
      (Rows.rwAloneSpec.post enc Tryd.prog Tryd.f4 false true false false) := by
  refine returnsInHanded_of_change_and (C := Tryd.checked) (X := fun w _ => laidMetH Tryd.prog Rows.rwAloneRow.laid w) (fun _ _ _ hh h => h.of_heap hh) own started (by kernel_rfl) Tryd.func4
    (ChangeSpec.witness_shaped (enc := enc) (C := Tryd.checked) (os := os) (X := fun w _ => laidMetH Tryd.prog Rows.rwAloneRow.laid w) false (World.laidAll Tryd.prog os Rows.rwAloneRow.laid) #[.slice none 0 0] 8 (World.laidAll_os _ _ _)
      (World.shaped_of_ZipB (by kernel_rfl) (by kernel_rfl)) (by kernel_rfl) (by kernel_rfl) (by kernel_rfl)
      (by rw [MakeChecks.laidMetH_plain _ _ _ (by kernel_rfl)]; exact laidMet_laidAll _ (by kernel_rfl) (by kernel_rfl))) ?_
  intro W base args ds gs before hval0 hW hcnd _ hL _
  have hTb : Tb W := tb_of_laid hL
  have hval : ∀ (j : Nat) t v, Tryd.f4.params[j]? = some t → args[j]? = some v → Value.okWide Tryd.prog W .any base t v := hval0
  have hW' := hW
  obtain ⟨p, q, hA0, hV, rfl, hfz, hnd⟩ := hW
  have hA : DataW.TrodAll enc Tryd.prog W 0 (fun _ => true) true Tryd.f4.params.toList args.toList ds p := hA0
  rw [Tryd.params4] at hA hval
  obtain ⟨v0, vs0, d0, ds0, p0, q0, hargs, rfl, rfl, h0, r0⟩ := trodAll_cons hA
  obtain ⟨rfl, rfl, rfl⟩ := trodAll_nil r0
  obtain rfl : args = #[v0] := by cases args; simp_all
  obtain ⟨rfl, rfl⟩ := trodVars_none hV
  have k0 := h0
  have lt0 : ∀ x ∈ p0, x.block < W.heap.size := by obtain ⟨m, hm⟩ := k0; exact DataW.trod_lt m _ _ _ hm
  obtain ⟨a0, e0⟩ : ∃ a, ((shL (shP shInt shInt))).rd W W.heap.size a v0.cells.toList := by obtain ⟨fuel, hf⟩ := h0; exact opens22.2 _ _ _ _ _ _ hf
  replace e0 := val_slice Tryd.underlying22 (hval 0 22 v0 rfl rfl) e0
  clear hA0 hval0
  refine (rwAloneW W hTb v0 a0 e0).mono fun e W' ⟨he, hq⟩ => ?_
  subst he
  have bel : Below W.heap.size W W' := hq.below (fun _ _ h => h)
  exact ⟨_, rfl, _, _, _, [], _, [], hW', trodAll_mk1 (shut_bool Tryd.underlying4 _), (trodAll_cons_mk (Below.trod laidOut (by kernel_rfl) (of_decide_eq_true (by kernel_rfl)) k0 bel lt0) trodAll_mk0), rfl, bel.frame _, fun h => by cases h⟩
theorem over : Rows.rwAloneRow.holds Tryd.pinned (OpenSpec.ofChange Rows.rwAloneSpec) :=
  OpenClaim.holds_of_wide 4 Tryd.f4 rfl rfl rfl rfl rfl rfl rfl ⟨rfl, rfl, rfl, rfl, rfl⟩ rfl rfl rfl rfl rfl (by kernel_rfl) Tryd.func4 (by kernel_rfl)
    (of_decide_eq_true (by kernel_rfl)) (by unfold Func.isWrapper; first | (rw [if_pos (by decide +kernel)]; kernel_rfl) | (rw [if_neg (by decide +kernel)]; exact ⟨rfl, rfl⟩))
    (fun os started H enc _ => lifted os started H enc)
theorem proved : Rows.RwAloneCardSaid :=
  Claim7.holds_tied_plain_at .later [] [.data] true (true, "46d68177c45176b0cc8f8c22167fd380bb644c1d5379cf0b3c7d32ad96ea34dd") false over (fun _ h => by cases h) (by kernel_rfl) (fun _ h => by cases h) rwAlone_row_tie rfl ⟨rfl, rfl⟩ (by kernel_rfl) rfl
    (fun f fn hf hfn => by
      obtain rfl : f = 4 := Option.some.inj ((show Tryd.prog.funcNamed "logjam/logjamlaw17.RwAlone" = some 4 by kernel_rfl).symm.trans hf) |>.symm
      obtain rfl : fn = Tryd.f4 := (Option.some.inj (Tryd.func4.symm.trans hfn)).symm
      exact ⟨by kernel_rfl, fun j t ht => by
        rw [Tryd.params4] at ht
        have hm : t ∈ [22] := by simpa using Array.mem_of_getElem? ht
        have hall : ([22].all fun u => !Tryd.prog.wantsStandIn u) = true := by kernel_rfl
        exact (show Tryd.prog.wantsStandIn t = false by simpa using List.all_eq_true.1 hall t hm)⟩)
    (by kernel_rfl)
#print axioms proved
end Go.Proofs.YtcmfbkajafbjnaaDoor.rwAlone
