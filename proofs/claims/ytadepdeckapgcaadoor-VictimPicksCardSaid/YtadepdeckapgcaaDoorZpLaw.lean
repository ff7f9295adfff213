/- logjamlaw33.VictimPicks: victim.Pick and victim.Rank answer as the reference does, by any policy, whatever is told of threads; no condition. -/
import Derived.Test.YtadepdeckapgcaaDoorRows
import Derived.Test.YtadepdeckapgcaaDoorZpB
import Derived.Test.YtadepdeckapgcaaDoorCards
import Derived.Test.YtadepdeckapgcaaDoorTie
import Derived.WalkKit
import Derived.ProofKit
import Derived.OpenShut
import Derived.ChangeOld
import Derived.Below
import Derived.Handy
import Derived.Lay
import Derived.SevenTiedAt
import Derived.Lib.LaidTab
namespace Go.Proofs.YtadepdeckapgcaaDoor.victimPicks
open Go.ChangeShapes Go.WideShapes Go.ChangeAt Go.RowKit
set_option linter.unusedVariables false
theorem own : ownKnob Tryd.prog.godebug = none := by kernel_rfl
theorem laidOut : laidOutB Tryd.prog = true := by kernel_rfl
theorem opens3 : Opens Tryd.prog 3 shInt := opens_int Tryd.underlying3 (by kernel_rfl)
theorem opens41 : Opens Tryd.prog 41 shU64 := opens_u64 Tryd.underlying41 (by kernel_rfl)
theorem opens51 : Opens Tryd.prog 51 (shP shInt shInt) := opens_struct Tryd.underlying51 (by kernel_rfl) (opensFs_cons rfl opens3 (opensFs_one rfl opens3))
theorem opens46 : Opens Tryd.prog 46 (shL (shP shInt shInt)) := opens_slice Tryd.underlying46 (by kernel_rfl) (by decide) opens51
theorem opens48 : Opens Tryd.prog 48 (shP (shL (shP shInt shInt)) shInt) := opens_struct Tryd.underlying48 (by kernel_rfl) (opensFs_cons rfl opens46 (opensFs_one rfl opens3))
theorem tb_of_laid {W : World} (h : laidMetH Tryd.prog Rows.victimPicksRow.laid W) : Tb W := by
  rw [MakeChecks.laidMetH_plain _ _ _ (by kernel_rfl)] at h
  intro j hj
  have hz : (Lib.deBruijn64tab.map (Int.ofNat)).length = 64 := rfl
  have q := Go.Lib.TabIs.cell (g := 0) (Go.Lib.tabIs_of_head (name := "math/bits.deBruijn64tab") (k := .u8) (zs := Lib.deBruijn64tab.map Int.ofNat) (g := 0) (t := 177) (e := 5) (n := 64) (by kernel_rfl) (by kernel_rfl) Tryd.underlying177 Tryd.underlying5 (by kernel_rfl) (by kernel_rfl) h) (by kernel_rfl) j (by rw [hz]; exact hj)
  rw [q]
  have e : (Lib.deBruijn64tab.map Int.ofNat).getD j 0 = ((Lib.deBruijn64tab.getD j 0 : Nat) : Int) := by rw [List.getD_eq_getElem?_getD, List.getD_eq_getElem?_getD, List.getElem?_map]; cases Lib.deBruijn64tab[j]? <;> rfl
  rw [e]
set_option maxRecDepth 100000 in
theorem lifted (os : Os) (started : os.Started) (H : Type) (enc : TypeId × Value → H) :
    ReturnsInHanded {} Tryd.checked os 6 .any (fun w args => (Rows.victimPicksSpec.pre enc Tryd.prog Tryd.f6 Rows.victimPicksRow.domain false w args ∧ laidMetH Tryd.prog Rows.victimPicksRow.laid w) ∧ sizedMet enc Tryd.prog Tryd.f6 (OpenSpec.ofChange Rows.victimPicksSpec) false w args)
      (Rows.victimPicksSpec.post enc Tryd.prog Tryd.f6 false true false false) := by
  refine returnsInHanded_of_change_and (C := Tryd.checked) (X := fun w _ => laidMetH Tryd.prog Rows.victimPicksRow.laid w) (fun _ _ _ hh h => h.of_heap hh) own started (by kernel_rfl) Tryd.func6
    (ChangeSpec.witness_shaped (enc := enc) (C := Tryd.checked) (os := os) (X := fun w _ => laidMetH Tryd.prog Rows.victimPicksRow.laid w) false (World.laidAll Tryd.prog os Rows.victimPicksRow.laid) #[.int .i64 0, .int .u64 0, .agg #[.slice none 0 0, .int .i64 0]] 8 (World.laidAll_os _ _ _)
      (World.shaped_of_ZipB (by kernel_rfl) (by kernel_rfl)) (by kernel_rfl) (by kernel_rfl) (by kernel_rfl)
      (by rw [MakeChecks.laidMetH_plain _ _ _ (by kernel_rfl)]; exact laidMet_laidAll _ (by kernel_rfl) (by kernel_rfl))) ?_
  intro W base args ds gs before hval0 hW hcnd _ hL _
  have hTb : Tb W := tb_of_laid hL
  have hval : ∀ (j : Nat) t v, Tryd.f6.params[j]? = some t → args[j]? = some v → Value.okWide Tryd.prog W .any base t v := hval0
  have hW' := hW
  obtain ⟨p, q, hA0, hV, rfl, hfz, hnd⟩ := hW
  have hA : DataW.TrodAll enc Tryd.prog W 0 (fun _ => true) true Tryd.f6.params.toList args.toList ds p := hA0
  rw [Tryd.params6] at hA hval
  obtain ⟨v0, vs0, d0, ds0, p0, q0, hargs, rfl, rfl, h0, r0⟩ := trodAll_cons hA
  obtain ⟨v1, vs1, d1, ds1, p1, q1, rfl, rfl, rfl, h1, r1⟩ := trodAll_cons r0
  obtain ⟨v2, vs2, d2, ds2, p2, q2, rfl, rfl, rfl, h2, r2⟩ := trodAll_cons r1
  obtain ⟨rfl, rfl, rfl⟩ := trodAll_nil r2
  obtain rfl : args = #[v0, v1, v2] := by cases args; simp_all
  obtain ⟨rfl, rfl⟩ := trodVars_none hV
  have k0 := h0
  have lt0 : ∀ x ∈ p0, x.block < W.heap.size := by obtain ⟨m, hm⟩ := k0; exact DataW.trod_lt m _ _ _ hm
  obtain ⟨a0, e0⟩ : ∃ a, (shInt).rd W W.heap.size a v0.cells.toList := by obtain ⟨fuel, hf⟩ := h0; exact opens3.2 _ _ _ _ _ _ hf
  obtain rfl := val_int Tryd.underlying3 (hval 0 3 v0 rfl rfl) e0
  have k1 := h1
  have lt1 : ∀ x ∈ p1, x.block < W.heap.size := by obtain ⟨m, hm⟩ := k1; exact DataW.trod_lt m _ _ _ hm
  obtain ⟨a1, e1⟩ : ∃ a, (shU64).rd W W.heap.size a v1.cells.toList := by obtain ⟨fuel, hf⟩ := h1; exact opens41.2 _ _ _ _ _ _ hf
  obtain rfl := val_u64 Tryd.underlying41 (hval 1 41 v1 rfl rfl) e1
  have k2 := h2
  have lt2 : ∀ x ∈ p2, x.block < W.heap.size := by obtain ⟨m, hm⟩ := k2; exact DataW.trod_lt m _ _ _ hm
  obtain ⟨a2, e2⟩ : ∃ a, ((shP (shL (shP shInt shInt)) shInt)).rd W W.heap.size a v2.cells.toList := by obtain ⟨fuel, hf⟩ := h2; exact opens48.2 _ _ _ _ _ _ hf
  obtain ⟨cs2, rfl, hcs2⟩ := okWide_struct Tryd.underlying48 (hval 2 48 v2 rfl rfl)
  clear hA0 hval0
  refine (victimPicksW W hTb a0 e0.2 a1 e1.2 cs2 a2 e2).mono fun e W' ⟨he, hq⟩ => ?_
  subst he
  have bel : Below W.heap.size W W' := hq.below (fun _ _ h => h)
  exact ⟨_, rfl, _, _, _, [], _, [], hW', trodAll_mk1 (shut_bool Tryd.underlying4 _), (trodAll_cons_mk (Below.trod laidOut (by kernel_rfl) (of_decide_eq_true (by kernel_rfl)) k0 bel lt0) (trodAll_cons_mk (Below.trod laidOut (by kernel_rfl) (of_decide_eq_true (by kernel_rfl)) k1 bel lt1) (trodAll_cons_mk (Below.trod laidOut (by kernel_rfl) (of_decide_eq_true (by kernel_rfl)) k2 bel lt2) trodAll_mk0))), rfl, bel.frame _, fun h => by cases h⟩
theorem over : Rows.victimPicksRow.holds Tryd.pinned (OpenSpec.ofChange Rows.victimPicksSpec) :=
  OpenClaim.holds_of_wide 6 Tryd.f6 rfl rfl rfl rfl rfl rfl rfl ⟨rfl, rfl, rfl, rfl, rfl⟩ rfl rfl rfl rfl rfl (by kernel_rfl) Tryd.func6 (by kernel_rfl)
    (of_decide_eq_true (by kernel_rfl)) (by unfold Func.isWrapper; first | (rw [if_pos (by decide +kernel)]; kernel_rfl) | (rw [if_neg (by decide +kernel)]; exact ⟨rfl, rfl⟩))
    (fun os started H enc _ => lifted os started H enc)
theorem proved : Rows.VictimPicksCardSaid :=
  Claim7.holds_tied_plain_at .later [] [.data] true (true, "bb26db706657078348f512110012af2b93b0e83c497c1e84f7b02990bd31abda") true over (fun _ h => by cases h) (by kernel_rfl) (fun _ h => by cases h) victimPicks_row_tie rfl ⟨rfl, rfl⟩ (by kernel_rfl) rfl
    (fun f fn hf hfn => by
      obtain rfl : f = 6 := Option.some.inj ((show Tryd.prog.funcNamed "logjam/logjamlaw33.VictimPicks" = some 6 by kernel_rfl).symm.trans hf) |>.symm
      obtain rfl : fn = Tryd.f6 := (Option.some.inj (Tryd.func6.symm.trans hfn)).symm
      exact ⟨by kernel_rfl, fun j t ht => by
        rw [Tryd.params6] at ht
        have hm : t ∈ [3, 41, 48] := by simpa using Array.mem_of_getElem? ht
        have hall : ([3, 41, 48].all fun u => !Tryd.prog.wantsStandIn u) = true := by kernel_rfl
        exact (show Tryd.prog.wantsStandIn t = false by simpa using List.all_eq_true.1 hall t hm)⟩)
    (by kernel_rfl)
#print axioms proved
end Go.Proofs.YtadepdeckapgcaaDoor.victimPicks
