/- The statements over a rw, over data. -/
import Derived.Test.YtcmfbkajafbjnaaDoorRl
namespace Go.Proofs.YtcmfbkajafbjnaaDoor
open Go.RowKit
set_option linter.unusedSimpArgs false
set_option linter.unusedVariables false

theorem rwNilW (W : World) (hT : Tb W) (t : Int) (_ : -9223372036854775808 ≤ t ∧ t ≤ 9223372036854775807) : Calls Tryd.prog 5 #[.int .i64 t] W fun e w' => e = .returned (.bool true) ∧ Quiet W w' := rwNil W hT t
theorem slR_pairsR {W : World} {v : Value} {l : List (Int × Int)} (h : (shL (shP shInt shInt)).rd W W.heap.size l [v]) :
    SlR W W.heap.size v 2 l.length (opR (fun i => (l.getD i (0, 0)).1) (fun i => (l.getD i (0, 0)).2)) := by
  rcases rd_pairs h with ⟨rfl, a, rfl⟩ | ⟨b, o, cap, hb, hl, hm, rfl, hi⟩
  · exact .inl ⟨rfl, a, rfl⟩
  · refine .inr ⟨b, o, cap, hb, by unfold maxLen at hm; omega, rfl, fun i j hil hj => ?_⟩
    obtain ⟨h0, h1, _⟩ := hi i hil
    have e : l.getD i (0, 0) = l[i] := by simp [hil]
    unfold opR
    rcases (by omega : j = 0 ∨ j = 1) with rfl | rfl
    · rw [if_pos rfl]; show _ = some (Value.int .i64 (l.getD i (0, 0)).1); rw [e]; exact h0
    · rw [if_neg (by omega)]; show _ = some (Value.int .i64 (l.getD i (0, 0)).2); rw [e]; exact h1
theorem rwPlaysW (W : World) (hT : Tb W) (v : Value) (l : List (Int × Int)) (h : (shL (shP shInt shInt)).rd W W.heap.size l [v]) (t : Int) (_ : -9223372036854775808 ≤ t ∧ t ≤ 9223372036854775807) :
    Calls Tryd.prog 3 #[v, .int .i64 t] W fun e w' => e = .returned (.bool true) ∧ Quiet W w' := rwPlays W hT v l.length _ _ (slR_pairsR h) t
end Go.Proofs.YtcmfbkajafbjnaaDoor
