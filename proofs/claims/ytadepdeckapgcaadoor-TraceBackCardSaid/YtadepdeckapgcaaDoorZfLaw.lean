/- logjamlaw41.TraceBack: Entries that may be come back from their text, unless that is too long, and what is read, written, is the same text. No condition. -/
import Derived.Test.YtadepdeckapgcaaDoorRows
import Derived.Test.YtadepdeckapgcaaDoorZfD
import Derived.Test.YtadepdeckapgcaaDoorCards
import Derived.Test.YtadepdeckapgcaaDoorTie
import Derived.WalkKit
import Derived.ProofKit
import Derived.OpenShut
import Derived.ChangeOld
import Derived.Below
import Derived.Handy
import Derived.Lay
import Derived.SevenTiedAt
import Derived.Lib.LaidTab
namespace Go.Proofs.YtadepdeckapgcaaDoor.traceBack
open Go.ChangeShapes Go.WideShapes Go.ChangeAt Go.RowKit
set_option linter.unusedVariables false
theorem own : ownKnob Tryd.prog.godebug = none := by kernel_rfl
theorem laidOut : laidOutB Tryd.prog = true := by kernel_rfl
theorem opens3 : Opens Tryd.prog 3 shInt := opens_int Tryd.underlying3 (by kernel_rfl)
theorem opens72 : Opens Tryd.prog 72 (shP shInt (shP shInt (shP shInt shInt))) := opens_struct Tryd.underlying72 (by kernel_rfl) (opensFs_cons rfl opens3 (opensFs_cons rfl opens3 (opensFs_cons rfl opens3 (opensFs_one rfl opens3))))
theorem opens73 : Opens Tryd.prog 73 (shL (shP shInt (shP shInt (shP shInt shInt)))) := opens_slice Tryd.underlying73 (by kernel_rfl) (by decide) opens72
theorem opens9 : Opens Tryd.prog 9 shStr := opens_str Tryd.underlying9 (by kernel_rfl)
set_option maxRecDepth 100000 in
theorem gl_of_laid {W : World} (hsh : W.ShapedOpen Tryd.prog) (h : laidMetH Tryd.prog Rows.traceBackRow.laid W) : Orc.Gl W := by
  rw [MakeChecks.laidMetH_plain _ _ _ (by kernel_rfl)] at h
  exact ⟨hsh, tabIs_of_mem (List.mem_of_getElem? (i := 2) rfl) (show _ = Lib.tabData .u64 Lib.pow10Tab by kernel_rfl) (g := 4) (t := 228) (e := 41) (n := 20) (by kernel_rfl) (by kernel_rfl) Tryd.underlying228 Tryd.underlying41 (by kernel_rfl) (by kernel_rfl) h, tabIs_of_mem (List.mem_of_getElem? (i := 7) rfl) (show _ = Lib.tabData .u8 Lib.asciiSpaceTab by kernel_rfl) (g := 1) (t := 199) (e := 5) (n := 256) (by kernel_rfl) (by kernel_rfl) Tryd.underlying199 Tryd.underlying5 (by kernel_rfl) (by kernel_rfl) h, errIs_of_mem (List.mem_of_getElem? (i := 5) rfl) rfl (g := 5) (t := 127) (by kernel_rfl) (by kernel_rfl) Tryd.underlying127 h, errIs_of_mem (List.mem_of_getElem? (i := 4) rfl) rfl (g := 6) (t := 127) (by kernel_rfl) (by kernel_rfl) Tryd.underlying127 h⟩
set_option maxRecDepth 100000 in
theorem lifted (os : Os) (started : os.Started) (H : Type) (enc : TypeId × Value → H) :
    ReturnsInHanded {} Tryd.checked os 12 .any (fun w args => (Rows.traceBackSpec.pre enc Tryd.prog Tryd.f12 Rows.traceBackRow.domain false w args ∧ laidMetH Tryd.prog Rows.traceBackRow.laid w) ∧ sizedMet enc Tryd.prog Tryd.f12 (OpenSpec.ofChange Rows.traceBackSpec) false w args)
      (Rows.traceBackSpec.post enc Tryd.prog Tryd.f12 false true false false) := by
  refine handed_shaped (C := Tryd.checked) (X := fun w _ => laidMetH Tryd.prog Rows.traceBackRow.laid w) (fun _ _ _ hh h => h.of_heap hh) own started (by kernel_rfl) Tryd.func12
    (ChangeSpec.witness_shaped (enc := enc) (C := Tryd.checked) (os := os) (X := fun w _ => laidMetH Tryd.prog Rows.traceBackRow.laid w) false (World.laidAll Tryd.prog os Rows.traceBackRow.laid) #[.slice none 0 0, .string ByteArray.empty] 8 (World.laidAll_os _ _ _)
      (World.shaped_of_ZipB (by kernel_rfl) (by kernel_rfl)) (by kernel_rfl) (by kernel_rfl) (by kernel_rfl)
      (by rw [MakeChecks.laidMetH_plain _ _ _ (by kernel_rfl)]; exact laidMet_laidAll _ (by kernel_rfl) (by kernel_rfl))) ?_
  intro W base args ds gs before hval0 hW hcnd _ hL hsh
  have hTb : Orc.Gl W := gl_of_laid hsh hL
  have hval : ∀ (j : Nat) t v, Tryd.f12.params[j]? = some t → args[j]? = some v → Value.okWide Tryd.prog W .any base t v := hval0
  have hW' := hW
  obtain ⟨p, q, hA0, hV, rfl, hfz, hnd⟩ := hW
  have hA : DataW.TrodAll enc Tryd.prog W 0 (fun _ => true) true Tryd.f12.params.toList args.toList ds p := hA0
  rw [Tryd.params12] at hA hval
  obtain ⟨v0, vs0, d0, ds0, p0, q0, hargs, rfl, rfl, h0, r0⟩ := trodAll_cons hA
  obtain ⟨v1, vs1, d1, ds1, p1, q1, rfl, rfl, rfl, h1, r1⟩ := trodAll_cons r0
  obtain ⟨rfl, rfl, rfl⟩ := trodAll_nil r1
  obtain rfl : args = #[v0, v1] := by cases args; simp_all
  obtain ⟨rfl, rfl⟩ := trodVars_none hV
  have k0 := h0
  have lt0 : ∀ x ∈ p0, x.block < W.heap.size := by obtain ⟨m, hm⟩ := k0; exact DataW.trod_lt m _ _ _ hm
  obtain ⟨a0, e0⟩ : ∃ a, ((shL (shP shInt (shP shInt (shP shInt shInt))))).rd W W.heap.size a v0.cells.toList := by obtain ⟨fuel, hf⟩ := h0; exact opens73.2 _ _ _ _ _ _ hf
  replace e0 := val_slice Tryd.underlying73 (hval 0 73 v0 rfl rfl) e0
  have k1 := h1
  have lt1 : ∀ x ∈ p1, x.block < W.heap.size := by obtain ⟨m, hm⟩ := k1; exact DataW.trod_lt m _ _ _ hm
  obtain ⟨a1, e1⟩ : ∃ a, (shStr).rd W W.heap.size a v1.cells.toList := by obtain ⟨fuel, hf⟩ := h1; exact opens9.2 _ _ _ _ _ _ hf
  obtain rfl := val_str Tryd.underlying9 (hval 1 9 v1 rfl rfl) e1
  clear hA0 hval0
  refine (Tr.traceBackW W hTb v0 a0 e0 a1).mono fun e W' ⟨he, hq⟩ => ?_
  subst he
  have bel : Below W.heap.size W W' := hq
  exact ⟨_, rfl, _, _, _, [], _, [], hW', trodAll_mk1 (shut_bool Tryd.underlying4 _), (trodAll_cons_mk (Below.trod laidOut (by kernel_rfl) (of_decide_eq_true (by kernel_rfl)) k0 bel lt0) (trodAll_cons_mk (Below.trod laidOut (by kernel_rfl) (of_decide_eq_true (by kernel_rfl)) k1 bel lt1) trodAll_mk0)), rfl, bel.frame _, fun h => by cases h⟩
theorem over : Rows.traceBackRow.holds Tryd.pinned (OpenSpec.ofChange Rows.traceBackSpec) :=
  OpenClaim.holds_of_wide 12 Tryd.f12 rfl rfl rfl rfl rfl rfl rfl ⟨rfl, rfl, rfl, rfl, rfl⟩ rfl rfl rfl rfl rfl (by kernel_rfl) Tryd.func12 (by kernel_rfl)
    (of_decide_eq_true (by kernel_rfl)) (by unfold Func.isWrapper; first | (rw [if_pos (by decide +kernel)]; kernel_rfl) | (rw [if_neg (by decide +kernel)]; exact ⟨rfl, rfl⟩))
    (fun os started H enc _ => lifted os started H enc)
theorem proved : Rows.TraceBackCardSaid :=
  Claim7.holds_tied_plain_at .later [] [.data, .data, .data, .data, .sentinel, .sentinel, .listed, .data, .pinned] true (true, "bb26db706657078348f512110012af2b93b0e83c497c1e84f7b02990bd31abda") true over (fun _ h => by cases h) (by kernel_rfl) (fun _ h => by cases h) traceBack_row_tie rfl ⟨rfl, rfl⟩ (by kernel_rfl) rfl
    (fun f fn hf hfn => by
      obtain rfl : f = 12 := Option.some.inj ((show Tryd.prog.funcNamed "logjam/logjamlaw41.TraceBack" = some 12 by kernel_rfl).symm.trans hf) |>.symm
      obtain rfl : fn = Tryd.f12 := (Option.some.inj (Tryd.func12.symm.trans hfn)).symm
      exact ⟨by kernel_rfl, fun j t ht => by
        rw [Tryd.params12] at ht
        have hm : t ∈ [73, 9] := by simpa using Array.mem_of_getElem? ht
        have hall : ([73, 9].all fun u => !Tryd.prog.wantsStandIn u) = true := by kernel_rfl
        exact (show Tryd.prog.wantsStandIn t = false by simpa using List.all_eq_true.1 hall t hm)⟩)
    (by kernel_rfl)
#print axioms proved
end Go.Proofs.YtadepdeckapgcaaDoor.traceBack
