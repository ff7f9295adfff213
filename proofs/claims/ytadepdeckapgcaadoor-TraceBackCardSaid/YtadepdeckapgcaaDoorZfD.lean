/- LawTraceBack, part 4: what the proof stands on (merged by wip/shake.py out of the session's texts and of what the print wrote for this claim). -/
import Derived.Test.YtadepdeckapgcaaDoorZfC

section
namespace Go.Proofs.YtadepdeckapgcaaDoor.Tr
open Go.RowKit Go.Proofs.YtadepdeckapgcaaDoorW.PrintWords Go.Proofs.YtadepdeckapgcaaDoor.PTr Go.Proofs.YtadepdeckapgcaaDoor.Orc
set_option linter.unusedVariables false
set_option linter.unusedSimpArgs false
def mkB (l : List UInt8) : ByteArray := ⟨l.toArray⟩
theorem mkB_list (l : List UInt8) : (mkB l).toList = l := by rw [Lib.toList_data]; simp [mkB]
theorem mkB_data (l : List UInt8) : (mkB l).data.toList = l := by simp [mkB]
theorem mkB_of (b : ByteArray) : mkB b.data.toList = b := ByteArray.ext (by simp [mkB])
theorem mkB_size (l : List UInt8) : (mkB l).size = l.length := by rw [Lib.size_eq, mkB_data]
theorem list_inj {a b : ByteArray} (h : a.toList = b.toList) : a = b := by
  rw [Lib.toList_data, Lib.toList_data] at h
  rw [← mkB_of a, ← mkB_of b, h]
theorem atoiN_in (s : ByteArray) : in64 (atoiN s) := by
  unfold atoiN in64
  cases h : Lib.atoiAll s.data.toList with
  | ok v => exact Lib.atoiAll_bounds h
  | range => exact Lib.atoiSat_bounds _
  | _ => exact ⟨by show (-9223372036854775808 : Int) ≤ 0; decide, by show (0 : Int) ≤ 9223372036854775807; decide⟩
theorem number_some (s : ByteArray) (h : s.size ≤ 281474976710656) : o_number.f s = some (atoiN s) := by unfold o_number.f; rw [if_pos h]
theorem atoiN_itoa (n : Int) (h : in64 n) : atoiN (mkB (Lib.itoa n)) = n := by
  unfold atoiN; rw [mkB_data, atoi_itoa n h.1 h.2]
def ofGo (x : ByteArray) : List ByteArray → Int → Int × Bool
  | [], _ => (0, false)
  | y :: l, i => if y = x then (i, true) else ofGo x l (i + 1)
def ixGo (x : ByteArray) : List ByteArray → Int → Int
  | [], _ => -1
  | y :: l, i => if x = y then i else ixGo x l (i + 1)
theorem ofGo_in (x : ByteArray) : ∀ (l : List ByteArray) (i : Int), 0 ≤ i → 0 ≤ (ofGo x l i).1 ∧ (ofGo x l i).1 ≤ i + l.length
  | [], i, h => by simp [ofGo]; omega
  | y :: l, i, h => by
    have ih := ofGo_in x l (i + 1) (by omega)
    simp only [ofGo]
    split
    · simp; omega
    · simp; omega
theorem ixGo_in (x : ByteArray) : ∀ (l : List ByteArray) (i : Int), 0 ≤ i → -1 ≤ ixGo x l i ∧ ixGo x l i ≤ i + l.length
  | [], i, h => by simp [ixGo]; omega
  | y :: l, i, h => by
    have ih := ixGo_in x l (i + 1) (by omega)
    simp only [ixGo]
    split
    · simp; omega
    · simp; omega
theorem of_l0 (x : ByteArray) (L : List ByteArray) (hL : L.length ≤ 1000) : ∀ (d i : Nat), i + d = L.length → Ev (fun k => op_Of.l0 k x L (L.length : Int) (i : Int)) (ofGo x (L.drop i) i)
  | 0, i, hi => by
    refine Ev.step1 (fun k => ?_)
    simp only [op_Of.l0]
    rw [if_neg (by omega), List.drop_of_length_le (by omega)]
    rfl
  | d + 1, i, hi => by
    have hlt : i < L.length := by omega
    have hd : L.drop i = L[i] :: L.drop (i + 1) := List.drop_eq_getElem_cons hlt
    have hw : wrap64 ((i : Int) + 1) = ((i + 1 : Nat) : Int) := by unfold wrap64; omega
    have hr : rdOf ByteArray.empty L (i : Int) = L[i] := by unfold rdOf; simp [hlt]
    rw [hd]
    simp only [ofGo]
    by_cases h : L[i] = x
    · refine Ev.step1 (fun k => ?_)
      simp only [op_Of.l0]
      rw [if_pos (by omega), if_pos (by omega), if_pos (by omega), hr, if_pos (by rw [h]), if_pos h]
    · refine Ev.step (f := fun k => op_Of.l0 k x L (L.length : Int) ((i + 1 : Nat) : Int)) (fun k => ?_) ?_
      · simp only [op_Of.l0]
        rw [if_pos (by omega), if_pos (by omega), if_pos (by omega), hr, if_neg (fun e => h (list_inj e)), hw]
      · rw [if_neg h]
        exact of_l0 x L hL d (i + 1) (by omega)
theorem ix_l0 (x : ByteArray) (L : List ByteArray) (hL : L.length ≤ 1000) : ∀ (d i : Nat), i + d = L.length → Ev (fun k => slices_Index_string_string.l0 k L x (L.length : Int) (i : Int)) (ixGo x (L.drop i) i)
  | 0, i, hi => by
    refine Ev.step1 (fun k => ?_)
    simp only [slices_Index_string_string.l0]
    rw [if_neg (by omega), List.drop_of_length_le (by omega)]
    rfl
  | d + 1, i, hi => by
    have hlt : i < L.length := by omega
    have hd : L.drop i = L[i] :: L.drop (i + 1) := List.drop_eq_getElem_cons hlt
    have hw : wrap64 ((i : Int) + 1) = ((i + 1 : Nat) : Int) := by unfold wrap64; omega
    have hr : rdOf ByteArray.empty L (i : Int) = L[i] := by unfold rdOf; simp [hlt]
    rw [hd]
    simp only [ixGo]
    by_cases h : x = L[i]
    · refine Ev.step1 (fun k => ?_)
      simp only [slices_Index_string_string.l0]
      rw [if_pos (by omega), if_pos (by omega), if_pos (by omega), hr, if_pos (by rw [← h]), if_pos h]
    · refine Ev.step (f := fun k => slices_Index_string_string.l0 k L x (L.length : Int) ((i + 1 : Nat) : Int)) (fun k => ?_) ?_
      · simp only [slices_Index_string_string.l0]
        rw [if_pos (by omega), if_pos (by omega), if_pos (by omega), hr, if_neg (fun e => h (list_inj e)), hw]
      · rw [if_neg h]
        exact ix_l0 x L hL d (i + 1) (by omega)
set_option maxRecDepth 100000 in
theorem of_ev (x : ByteArray) : Ev (fun k => op_Of.f k x) (ofGo x NM 0) := by
  have q := of_l0 x NM (by rw [NM_len]; omega) 52 0 (by rw [NM_len])
  refine Ev.congr (fun k => ?_) q
  unfold op_Of.f
  refine (congrArg (fun o => Option.bind o _) (show _ = some NM by decide +kernel)).trans ?_
  rfl
theorem ix_ev (x : ByteArray) : Ev (fun k => slices_Index_string_string.f k ED x) (ixGo x ED 0) := by
  have q := ix_l0 x ED (by rw [ED_len]; omega) 3 0 (by rw [ED_len])
  exact q
def opW : List UInt8 := [111, 112]
def outW : List UInt8 := [111, 117, 116]
def blockW : List UInt8 := [98, 108, 111, 99, 107]
def wakeW : List UInt8 := [119, 97, 107, 101]
def endW : List UInt8 := [101, 110, 100]
def abortW : List UInt8 := [97, 98, 111, 114, 116]
def tickW : List UInt8 := [116, 105, 99, 107]
def gsE (ws : List ByteArray) : S72 :=
  if (ws.length : Int) < 2 then ⟨0, 0, 0, 0⟩
  else if (rdOf ByteArray.empty ws 0).toList = tickW then ⟨6, -1, atoiN (rdOf ByteArray.empty ws 1), 0⟩
  else if (rdOf ByteArray.empty ws 1).toList = opW then ⟨1, atoiN (rdOf ByteArray.empty ws 0), (ofGo (rdOf ByteArray.empty ws ((2 : Int) % (ws.length : Int))) NM 0).1, atoiN (rdOf ByteArray.empty ws ((ws.length : Int) - 1))⟩
  else if (rdOf ByteArray.empty ws 1).toList = outW then ⟨2, atoiN (rdOf ByteArray.empty ws 0), atoiN (rdOf ByteArray.empty ws ((ws.length : Int) - 1)), 0⟩
  else if (rdOf ByteArray.empty ws 1).toList = blockW then ⟨3, atoiN (rdOf ByteArray.empty ws 0), (ofGo (rdOf ByteArray.empty ws ((2 : Int) % (ws.length : Int))) NM 0).1, 0⟩
  else if (rdOf ByteArray.empty ws 1).toList = wakeW then ⟨4, atoiN (rdOf ByteArray.empty ws 0), atoiN (rdOf ByteArray.empty ws ((ws.length : Int) - 1)), 0⟩
  else if (rdOf ByteArray.empty ws 1).toList = endW then ⟨5, atoiN (rdOf ByteArray.empty ws 0), ixGo (rdOf ByteArray.empty ws ((2 : Int) % (ws.length : Int))) ED 0, atoiN (rdOf ByteArray.empty ws ((ws.length : Int) - 1))⟩
  else if (rdOf ByteArray.empty ws 1).toList = abortW then ⟨7, atoiN (rdOf ByteArray.empty ws 0), atoiN (rdOf ByteArray.empty ws ((ws.length : Int) - 1)), 0⟩
  else ⟨0, atoiN (rdOf ByteArray.empty ws 0), 0, 0⟩
theorem gsE_in (ws : List ByteArray) : inE (gsE ws) := by
  have z : in64 0 := ⟨by decide, by decide⟩
  have hn := NM_len
  have he := ED_len
  have o := fun x => ofGo_in x NM 0 (by omega)
  have i := fun x => ixGo_in x ED 0 (by omega)
  unfold gsE inE
  repeat' split
  all_goals refine ⟨?_, ?_, ?_, ?_⟩
  all_goals first
    | exact z
    | exact atoiN_in _
    | (have q := o (rdOf ByteArray.empty ws ((2 : Int) % (ws.length : Int))); unfold in64; dsimp only; omega)
    | (have q := i (rdOf ByteArray.empty ws ((2 : Int) % (ws.length : Int))); unfold in64; dsimp only; omega)
    | (unfold in64; dsimp only; omega)
theorem guess_ev (ws : List ByteArray) (hs : ∀ w ∈ ws, w.size ≤ 1000000) (hl : ws.length ≤ 1000000) : Ev (fun k => trace_guess.f k ws) ((gsE ws).f0, (gsE ws).f1, (gsE ws).f2, (gsE ws).f3) := by
  have hsz : ∀ i, (rdOf ByteArray.empty ws i).size ≤ 281474976710656 := by
    intro i
    unfold rdOf
    rw [List.getD_eq_getElem?_getD]
    cases h : ws[i.toNat]? with
    | none => exact Nat.zero_le _
    | some w => have := hs w (List.mem_of_getElem? h); simp; omega
  unfold trace_guess.f gsE
  by_cases h2 : (ws.length : Int) < 2
  · rw [if_pos h2]
    exact Ev.const fun k => by rw [if_pos h2]
  rw [if_neg h2]
  have hw : wrap64 ((ws.length : Int) - 1) = (ws.length : Int) - 1 := by unfold wrap64; omega
  have m0 : 0 ≤ (2 : Int) % (ws.length : Int) := Int.emod_nonneg _ (by omega)
  have m1 : (2 : Int) % (ws.length : Int) < (ws.length : Int) := Int.emod_lt_of_pos _ (by omega)
  generalize (2 : Int) % (ws.length : Int) = m at m0 m1
  simp only [hw, number_some _ (hsz _), Option.bind_some, ED_prog]
  simp (disch := omega) only [↓reduceIte, if_pos, if_neg]
  by_cases ht : (rdOf ByteArray.empty ws 0).toList = tickW
  · rw [if_pos ht]
    exact Ev.const fun k => by rw [if_pos (show _ = ([116, 105, 99, 107] : List UInt8) from ht)]
  rw [if_neg ht]
  refine Ev.congr (fun k => by rw [if_neg (show ¬ _ = ([116, 105, 99, 107] : List UInt8) from ht)]) ?_
  by_cases h1 : (rdOf ByteArray.empty ws 1).toList = opW
  · rw [if_pos h1]
    refine Ev.congr (fun k => by rw [if_pos (show _ = ([111, 112] : List UInt8) from h1)]) ?_
    exact Ev.bind (of_ev _) (Ev.const fun k => rfl)
  rw [if_neg h1]
  refine Ev.congr (fun k => by rw [if_neg (show ¬ _ = ([111, 112] : List UInt8) from h1)]) ?_
  by_cases h2 : (rdOf ByteArray.empty ws 1).toList = outW
  · rw [if_pos h2]
    exact Ev.const fun k => by rw [if_pos (show _ = ([111, 117, 116] : List UInt8) from h2)]
  rw [if_neg h2]
  refine Ev.congr (fun k => by rw [if_neg (show ¬ _ = ([111, 117, 116] : List UInt8) from h2)]) ?_
  by_cases h3 : (rdOf ByteArray.empty ws 1).toList = blockW
  · rw [if_pos h3]
    refine Ev.congr (fun k => by rw [if_pos (show _ = ([98, 108, 111, 99, 107] : List UInt8) from h3)]) ?_
    exact Ev.bind (of_ev _) (Ev.const fun k => rfl)
  rw [if_neg h3]
  refine Ev.congr (fun k => by rw [if_neg (show ¬ _ = ([98, 108, 111, 99, 107] : List UInt8) from h3)]) ?_
  by_cases h4 : (rdOf ByteArray.empty ws 1).toList = wakeW
  · rw [if_pos h4]
    exact Ev.const fun k => by rw [if_pos (show _ = ([119, 97, 107, 101] : List UInt8) from h4)]
  rw [if_neg h4]
  refine Ev.congr (fun k => by rw [if_neg (show ¬ _ = ([119, 97, 107, 101] : List UInt8) from h4)]) ?_
  by_cases h5 : (rdOf ByteArray.empty ws 1).toList = endW
  · rw [if_pos h5]
    refine Ev.congr (fun k => by rw [if_pos (show _ = ([101, 110, 100] : List UInt8) from h5)]) ?_
    exact Ev.bind (ix_ev _) (Ev.const fun k => rfl)
  rw [if_neg h5]
  refine Ev.congr (fun k => by rw [if_neg (show ¬ _ = ([101, 110, 100] : List UInt8) from h5)]) ?_
  by_cases h7 : (rdOf ByteArray.empty ws 1).toList = abortW
  · rw [if_pos h7]
    exact Ev.const fun k => by rw [if_pos (show _ = ([97, 98, 111, 114, 116] : List UInt8) from h7)]
  rw [if_neg h7]
  exact Ev.const fun k => by rw [if_neg (show ¬ _ = ([97, 98, 111, 114, 116] : List UInt8) from h7)]
end Go.Proofs.YtadepdeckapgcaaDoor.Tr
end

section
namespace Go.Proofs.YtadepdeckapgcaaDoor.PTr
open Go.RowKit Go.Proofs.YtadepdeckapgcaaDoor.Orc Go.Proofs.YtadepdeckapgcaaDoorW.PrintWords Go.Proofs.YtadepdeckapgcaaDoorW.PrintLast Go.Proofs.YtadepdeckapgcaaDoorW.PrintMore
attribute [local go_sem] max2_int min2_int max_two min_two max_three min_three max_four min_four
set_option linter.unusedVariables false
set_option linter.unusedSimpArgs false
theorem eqA72 (d : Nat) (w : World) (x0 y0 : Int) (x1 y1 : Int) (x2 y2 : Int) (x3 y3 : Int) :
  (Op.equalIn (d + 2) 72 (.agg #[.int .i64 x0, .int .i64 x1, .int .i64 x2, .int .i64 x3]) (.agg #[.int .i64 y0, .int .i64 y1, .int .i64 y2, .int .i64 y3])).run Tryd.prog w = .ok (x0 == y0 && (x1 == y1 && (x2 == y2 && (x3 == y3)))) w := by
 refine eqA_of Tryd.underlying72 (by kernel_rfl) ?_
 refine eqf_cons (by rfl) (by go_simp; rfl) (by go_simp; rfl) (by go_simp) ?_
 refine eqf_cons (by rfl) (by go_simp; rfl) (by go_simp; rfl) (by go_simp) ?_
 refine eqf_cons (by rfl) (by go_simp; rfl) (by go_simp; rfl) (by go_simp) ?_
 exact eqf_last (by rfl) (by go_simp; rfl) (by go_simp; rfl) (by go_simp)
end Go.Proofs.YtadepdeckapgcaaDoor.PTr
end

section
namespace Go.Proofs.YtadepdeckapgcaaDoor.PTr
open Go.RowKit Go.Proofs.YtadepdeckapgcaaDoor.Orc Go.Proofs.YtadepdeckapgcaaDoorW.PrintWords Go.Proofs.YtadepdeckapgcaaDoorW.PrintLast Go.Proofs.YtadepdeckapgcaaDoorW.PrintMore
attribute [local go_sem] max2_int min2_int max_two min_two max_three min_three max_four min_four
set_option linter.unusedVariables false
set_option linter.unusedSimpArgs false
attribute [local go_sem high] eqA72
def trace_Parse.l0 : Nat → ByteArray → List (S72) → Option ((List (S72)) × Int)
 | 0, _, _ => none
 | k + 1, x0, x4 => if x0.toList = ([] : List UInt8) then (some (x4, 0)) else ((o_Cut.f x0 (⟨#[10]⟩ : ByteArray)).bind fun bt206 => ((o_Split.f bt206.1 (⟨#[32]⟩ : ByteArray)).bind fun t209 => ((trace_guess.f k t209).bind fun bt212 => ((trace_Line.f k bt212.1 bt212.2.1 bt212.2.2.1 bt212.2.2.2).bind fun bt217 => (if bt206.2.2 = true then (if bt217.2 = 0 then (if bt217.1.toList = bt206.1.toList then (if x4.length < 4398046511104 then (trace_Parse.l0 k bt206.2.1 (x4 ++ [(⟨bt212.1, bt212.2.1, bt212.2.2.1, bt212.2.2.2⟩ : S72)])) else (none)) else (some (([] : List (S72)), 2))) else (some (([] : List (S72)), 2))) else (some (([] : List (S72)), 2)))))))
def trace_Parse.f (k : Nat) (a0 : ByteArray) : Option ((List (S72)) × Int) := if (a0.size : Int) > 60000 then (some (([] : List (S72)), 4)) else (trace_Parse.l0 k a0 ([] : List (S72)))
set_option maxHeartbeats 8000000 in
set_option maxRecDepth 100000 in
theorem trace_Parse.calls (k : Nat) (a0 : ByteArray) (r1 : List (S72)) (r2 : Int) (w : World) (h : trace_Parse.f k a0 = some (r1, r2)) (hG : Gl w) :
  Calls Tryd.prog 52 #[.string a0] w fun e w' => ∃ v0_ : Value, e = .returned (.tuple #[v0_, .int .i64 r2]) ∧ Kd.R k72 72 w' w.heap.size (fun _ => True) v0_ r1 ∧ Below w.heap.size w w' := by
 have HG := Aside0.mk hG
 clear hG
 have hu72 := Tryd.underlying72
 have HB := Aside0.mk (Below.refl w.heap.size w)
 have H : (if (a0.size : Int) > 60000 then (some (([] : List (S72)), 4)) else (trace_Parse.l0 k a0 ([] : List (S72)))) = some (r1, r2) := h
 clear h
 by_cases c2 : (a0.size : Int) > 60000
 ·rw [if_pos c2] at H
  have c2b0 : decide (60000 < (a0.size : Int)) = true := decide_eq_true c2
  have c2b1 : decide (60000 < a0.size) = true := decide_eq_true (by omega)
  clear c2
  simp only [Option.some.injEq, Prod.mk.injEq] at H
  obtain ⟨rfl, rfl⟩ := H
  go_enter Tryd.func52, Tryd.ntmps52
  go_wp2
  go_ret2
  exact ⟨_, by first | rfl | (simp [errW_none, errW_some] <;> rfl) | (simp [*, errW_none, errW_some] <;> rfl), by first | exact Kd.R_nil _ _ _ _ _ | exact Kd.N_nil _ _ _ _ _ | exact Kd.V_nil _ _ _ _ _ | exact Kd.Q_nil _ _ _ _ _ | exact Kd.S_nil _ _ _ _ _, by repeat (first | (with_reducible first | exact HB.out | apply below_alloc | apply pw_below_drewN | apply below_drew1) | exact HB.out)⟩
 ·rw [if_neg c2] at H
  have c2b0 : decide (60000 < (a0.size : Int)) = false := decide_eq_false c2
  have c2b1 : decide (60000 < a0.size) = false := decide_eq_false (by omega)
  clear c2
  have H' := Aside0.mk H
  clear H
  go_enter Tryd.func52, Tryd.ntmps52
  go_wp2
  go_loopg [0, 4] k (fun kq v0 v4 w' => ∃ (x0_1 : ByteArray) (x4_1 : List (S72)), v0 = .string x0_1 ∧ Aside0 (trace_Parse.l0 kq x0_1 x4_1 = some (r1, r2)) ∧ Aside0 (kq ≤ k) ∧ Aside0 (Kd.R k72 72 w' w.heap.size (fun _ => True) v4 x4_1) ∧ Aside0 (Below w.heap.size w w'))
  case atStart => exact ⟨(a0), (([] : List (S72))), (by first | rfl | (simp; done) | (simp only [emptyNe_, emptyEq_]; done) | (simp [*]; done)), H', ⟨Nat.le_refl _⟩, ⟨by first | exact Kd.R_nil _ _ _ _ _ | exact Kd.N_nil _ _ _ _ _ | exact Kd.V_nil _ _ _ _ _ | exact Kd.Q_nil _ _ _ _ _ | exact Kd.S_nil _ _ _ _ _⟩, ⟨by repeat (first | (with_reducible first | exact HB.out | apply below_alloc | apply pw_below_drewN | apply below_drew1) | exact HB.out)⟩⟩
  case round =>
   clear H'
   try clear c2
   try clear c2b0
   try clear c2b1
   try clear p2
   obtain ⟨x0_1, x4_1, rfl, HA, HK1, HO_4, HB⟩ := hrel
   cases gk with
   | zero => exact absurd HA.out (by simp [trace_Parse.l0])
   | succ k1 =>
    have H := HA.out
    clear HA
    simp only [trace_Parse.l0] at H
    by_cases c3 : x0_1.toList = ([] : List UInt8)
    ·rw [if_pos c3] at H
     have c3b0 : (x0_1.toList == ([] : List UInt8)) = true := beq_iff_eq.mpr c3
     have c3b1 : (x0_1.toList != ([] : List UInt8)) = false := bne_eq_false_iff_eq.mpr c3
     clear c3
     simp only [Option.some.injEq, Prod.mk.injEq] at H
     obtain ⟨rfl, rfl⟩ := H
     go_wp2
     go_ret2
     exact ⟨_, by first | rfl | (simp [errW_none, errW_some] <;> rfl) | (simp [*, errW_none, errW_some] <;> rfl), by (with_reducible repeat (first | apply Kd.R_alloc | apply Kd.R_drewN | apply Kd.R_drew)); exact HO_4.out, by repeat (first | (with_reducible first | exact HB.out | apply below_alloc | apply pw_below_drewN | apply below_drew1) | exact HB.out)⟩
    ·rw [if_neg c3] at H
     have c3b0 : (x0_1.toList == ([] : List UInt8)) = false := beq_eq_false_iff_ne.mpr c3
     have c3b1 : (x0_1.toList != ([] : List UInt8)) = true := bne_iff_ne.mpr c3
     replace H := Option.bind_eq_some_iff.mp H
     obtain ⟨⟨t206, t207, t208⟩, A40, H⟩ := H
     replace H : ((o_Split.f t206 (⟨#[32]⟩ : ByteArray)).bind fun t209 => ((trace_guess.f k1 t209).bind fun bt212 => ((trace_Line.f k1 bt212.1 bt212.2.1 bt212.2.2.1 bt212.2.2.2).bind fun bt217 => (if t208 = true then (if bt217.2 = 0 then (if bt217.1.toList = t206.toList then (if x4_1.length < 4398046511104 then (trace_Parse.l0 k1 t207 (x4_1 ++ [(⟨bt212.1, bt212.2.1, bt212.2.2.1, bt212.2.2.2⟩ : S72)])) else (none)) else (some (([] : List (S72)), 2))) else (some (([] : List (S72)), 2))) else (some (([] : List (S72)), 2)))))) = some (r1, r2) := H
     have A4 := Aside0.mk A40
     clear A40
     replace H := Option.bind_eq_some_iff.mp H
     obtain ⟨t209, A50, H⟩ := H
     replace H : ((trace_guess.f k1 t209).bind fun bt212 => ((trace_Line.f k1 bt212.1 bt212.2.1 bt212.2.2.1 bt212.2.2.2).bind fun bt217 => (if t208 = true then (if bt217.2 = 0 then (if bt217.1.toList = t206.toList then (if x4_1.length < 4398046511104 then (trace_Parse.l0 k1 t207 (x4_1 ++ [(⟨bt212.1, bt212.2.1, bt212.2.2.1, bt212.2.2.2⟩ : S72)])) else (none)) else (some (([] : List (S72)), 2))) else (some (([] : List (S72)), 2))) else (some (([] : List (S72)), 2))))) = some (r1, r2) := H
     have A5 := Aside0.mk A50
     clear A50
     replace H := Option.bind_eq_some_iff.mp H
     obtain ⟨⟨t212, t213, t214, t215⟩, A60, H⟩ := H
     replace H : ((trace_Line.f k1 t212 t213 t214 t215).bind fun bt217 => (if t208 = true then (if bt217.2 = 0 then (if bt217.1.toList = t206.toList then (if x4_1.length < 4398046511104 then (trace_Parse.l0 k1 t207 (x4_1 ++ [(⟨t212, t213, t214, t215⟩ : S72)])) else (none)) else (some (([] : List (S72)), 2))) else (some (([] : List (S72)), 2))) else (some (([] : List (S72)), 2)))) = some (r1, r2) := H
     have A6 := Aside0.mk A60
     clear A60
     replace H := Option.bind_eq_some_iff.mp H
     obtain ⟨⟨t217, t218⟩, A70, H⟩ := H
     replace H : (if t208 = true then (if t218 = 0 then (if t217.toList = t206.toList then (if x4_1.length < 4398046511104 then (trace_Parse.l0 k1 t207 (x4_1 ++ [(⟨t212, t213, t214, t215⟩ : S72)])) else (none)) else (some (([] : List (S72)), 2))) else (some (([] : List (S72)), 2))) else (some (([] : List (S72)), 2))) = some (r1, r2) := H
     have A7 := Aside0.mk A70
     clear A70
     by_cases c8 : t208 = true
     ·subst c8
      have H1 : (if t218 = 0 then (if t217.toList = t206.toList then (if x4_1.length < 4398046511104 then (trace_Parse.l0 k1 t207 (x4_1 ++ [(⟨t212, t213, t214, t215⟩ : S72)])) else (none)) else (some (([] : List (S72)), 2))) else (some (([] : List (S72)), 2))) = some (r1, r2) := by rw [if_pos rfl] at H; exact H
      clear H
      have H := H1
      clear H1
      by_cases c9 : t218 = 0
      ·rw [if_pos c9] at H
       have c9b0 : (t218 == 0) = true := beq_iff_eq.mpr c9
       have c9b1 : (t218 != 0) = false := bne_eq_false_iff_eq.mpr c9
       clear c9
       by_cases c10 : t217.toList = t206.toList
       ·rw [if_pos c10] at H
        have c10b0 : (t217.toList == t206.toList) = true := beq_iff_eq.mpr c10
        have c10b1 : (t217.toList != t206.toList) = false := bne_eq_false_iff_eq.mpr c10
        clear c10
        by_cases c11 : x4_1.length < 4398046511104
        ·rw [if_pos c11] at H
         have LMc11 := Aside0.mk c11
         clear c11
         obtain ⟨y219, hy219⟩ : ∃ y_ : List (S72), y_ = (x4_1 ++ [(⟨t212, t213, t214, t215⟩ : S72)]) := ⟨_, rfl⟩
         replace H : (trace_Parse.l0 k1 t207 y219) = some (r1, r2) := by first | (rw [hy219]; with_reducible exact H) | (have H2_ := (Option.bind_some _ _).symm.trans H; rw [hy219]; with_reducible exact H2_) | (have H2_ := (Option.bind_some _ _).symm.trans H; with_reducible exact H2_) | with_reducible exact H | (rw [hy219]; exact H) | exact H
         have Ny219 := Aside0.mk hy219
         clear hy219
         have H' := Aside0.mk H
         clear H
         go_wp2_with (first | ((with_reducible refine gate_callee (f := 96) rfl ?_); refine goesL_ (some 18) rfl rfl Tryd.func96 (by kernel_rfl) rfl #[.string x0_1, .string (⟨#[10]⟩ : ByteArray)] rfl (by (try simp only [List.map_toArray, List.map_cons, List.map_nil]); first | done | rfl | (simp only [List.length_drop, List.length_take]; rfl)) ?_; (with_reducible refine (o_Cut.calls x0_1 (⟨#[10]⟩ : ByteArray) t206 t207 true _ A4.out ?side1).mono ?_); (case side1 => exact Gl.below HG.out (by repeat (first | (with_reducible first | exact HB.out | apply below_alloc | apply pw_below_drewN | apply below_drew1) | exact HB.out))); rintro e w12 ⟨rfl, hb⟩; refine ⟨_, rfl, ?_⟩; have n0_ := Aside0.mk (Kd.R_below (by (with_reducible repeat (first | apply Kd.R_alloc | apply Kd.R_drewN | apply Kd.R_drew)); exact HO_4.out) hb); have n1_ := Aside0.mk (below_step (by repeat (first | (with_reducible first | exact HB.out | apply below_alloc | apply pw_below_drewN | apply below_drew1) | exact HB.out)) hb); clear HO_4; clear HB; have HO_4 := n0_; have HB := n1_; clear n0_ n1_; (try clear hb); (try clear hb2); (try clear hk); (try clear hi)) | ((with_reducible refine gate_callee (f := 89) rfl ?_); refine goesL_ (some 23) rfl rfl Tryd.func89 (by kernel_rfl) rfl #[.string t206, .string (⟨#[32]⟩ : ByteArray)] rfl (by (try simp only [List.map_toArray, List.map_cons, List.map_nil]); first | done | rfl | (simp only [List.length_drop, List.length_take]; rfl)) ?_; (with_reducible refine (o_Split.calls t206 (⟨#[32]⟩ : ByteArray) t209 _ A5.out ?side1).mono ?_); (case side1 => exact Gl.below HG.out (by repeat (first | (with_reducible first | exact HB.out | apply below_alloc | apply pw_below_drewN | apply below_drew1) | exact HB.out))); rintro e w13 ⟨v210, rfl, ho0, hb⟩; refine ⟨_, rfl, ?_⟩; have n0_ := Aside0.mk (Kd.R_below (by (with_reducible repeat (first | apply Kd.R_alloc | apply Kd.R_drewN | apply Kd.R_drew)); exact HO_4.out) hb); have n1_ := Aside0.mk (Kd.R_lower ho0 (below_size (by repeat (first | (with_reducible first | exact HB.out | apply below_alloc | apply pw_below_drewN | apply below_drew1) | exact HB.out)))); have n2_ := Aside0.mk (below_step (by repeat (first | (with_reducible first | exact HB.out | apply below_alloc | apply pw_below_drewN | apply below_drew1) | exact HB.out)) hb); clear HO_4; clear HB; have HO_4 := n0_; have HO211 := n1_; have HB := n2_; clear n0_ n1_ n2_; (try clear hb); (try clear hb2); (try clear hk); (try clear hi); (try clear ho0); obtain ⟨Ao14, co14, eo14⟩ := Kd.R_slice HO211.out; subst eo14) | ((with_reducible refine gate_callee (f := 97) rfl ?_); refine goesL_ (some 24) rfl rfl Tryd.func97 (by kernel_rfl) rfl #[.slice Ao14 t209.length co14] rfl (by (try simp only [List.map_toArray, List.map_cons, List.map_nil]); first | done | rfl | (simp only [List.length_drop, List.length_take]; rfl)) ?_; (with_reducible refine (trace_guess.calls k1 _ _ t209 t212 t213 t214 t215 _ ?side1 ?side2 A6.out ?side3).mono ?_); (case side1 => repeat (first | exact (Kd.R_reads' HO211.out).2.2 | (with_reducible refine Kd.C_alloc ?_ _) | (with_reducible refine Kd.C_drewN ?_ _) | (with_reducible refine Kd.C_drew ?_))); (case side2 => exact (Kd.R_reads' HO211.out).2.1); (case side3 => exact Gl.below HG.out (by repeat (first | (with_reducible first | exact HB.out | apply below_alloc | apply pw_below_drewN | apply below_drew1) | exact HB.out))); rintro e w15 ⟨rfl, hb⟩; refine ⟨_, rfl, ?_⟩; have n0_ := Aside0.mk (Kd.R_below (by (with_reducible repeat (first | apply Kd.R_alloc | apply Kd.R_drewN | apply Kd.R_drew)); exact HO_4.out) hb); have n1_ := Aside0.mk (Kd.R_below (by (with_reducible repeat (first | apply Kd.R_alloc | apply Kd.R_drewN | apply Kd.R_drew)); exact HO211.out) hb); have n2_ := Aside0.mk (below_step (by repeat (first | (with_reducible first | exact HB.out | apply below_alloc | apply pw_below_drewN | apply below_drew1) | exact HB.out)) hb); clear HO_4; clear HO211; clear HB; have HO_4 := n0_; have HO211 := n1_; have HB := n2_; clear n0_ n1_ n2_; (try clear hb); (try clear hb2); (try clear hk); (try clear hi)) | ((with_reducible refine gate_dst (N := 8) rfl ?_); refine box_event ?hg (N := 8) ?hd (cs := #[.int .i64 0, .int .i64 0, .int .i64 0, .int .i64 0]) (t := 72) ?hr ?_; (case hd => rfl); (case hg => rfl); (case hr => first | (go_simp; done) | (go_simp; rfl)); intro gb216 hg w16 hbox hb; have n0_ := Aside0.mk (Kd.R_below (Kd.R_elderB (by (with_reducible repeat (first | apply Kd.R_alloc | apply Kd.R_drewN | apply Kd.R_drew)); exact HO_4.out) gb216 (Nat.le_of_eq hg.symm)) hb); have n1_ := Aside0.mk (Kd.R_below (by (with_reducible repeat (first | apply Kd.R_alloc | apply Kd.R_drewN | apply Kd.R_drew)); exact HO211.out) hb); have n2_ := Aside0.mk (below_step (by repeat (first | (with_reducible first | exact HB.out | apply below_alloc | apply pw_below_drewN | apply below_drew1) | exact HB.out)) hb); have n3_ := Aside0.mk (hbox); have n4_ := Aside0.mk ((by rw [hg]; exact (below_size (by repeat (first | (with_reducible first | exact HB.out | apply below_alloc | apply pw_below_drewN | apply below_drew1) | exact HB.out))) : w.heap.size ≤ gb216)); have n5_ := Aside0.mk ((by rw [hg]; exact (below_size (by repeat (first | (with_reducible first | exact HB.out | apply below_alloc | apply pw_below_drewN | apply below_drew1) | exact HB.out))) : w.heap.size ≤ gb216)); clear HO_4; clear HO211; clear HB; have HO_4 := n0_; have HO211 := n1_; have HB := n2_; have BK216 := n3_; have GW216 := n4_; have GE216 := n5_; clear n0_ n1_ n2_ n3_ n4_ n5_; clear hb hbox hg; have hcz17_0 : w16.cell? ⟨gb216, 0, none⟩ = some (.int .i64 0) := (blk_cell BK216.out 0).trans rfl; have hcz17_1 : w16.cell? ⟨gb216, 1, none⟩ = some (.int .i64 0) := (blk_cell BK216.out 1).trans rfl; have hcz17_2 : w16.cell? ⟨gb216, 2, none⟩ = some (.int .i64 0) := (blk_cell BK216.out 2).trans rfl; have hcz17_3 : w16.cell? ⟨gb216, 3, none⟩ = some (.int .i64 0) := (blk_cell BK216.out 3).trans rfl; have hfz17_0 := blk_frozen BK216.out 0; have hfz17_1 := blk_frozen BK216.out 1; have hfz17_2 := blk_frozen BK216.out 2; have hfz17_3 := blk_frozen BK216.out 3) | ((with_reducible refine gate_callee (f := 47) rfl ?_); refine goesL_ (some 27) rfl rfl Tryd.func47 (by kernel_rfl) rfl #[.agg #[.int .i64 t212, .int .i64 t213, .int .i64 t214, .int .i64 t215]] rfl (by (try simp only [List.map_toArray, List.map_cons, List.map_nil]); first | done | rfl | (simp only [List.length_drop, List.length_take]; rfl)) ?_; (with_reducible refine (trace_Line.calls k1 t212 t213 t214 t215 t217 t218 _ A7.out ?side1).mono ?_); (case side1 => exact Gl.below HG.out (by repeat (first | (with_reducible first | exact HB.out | apply below_alloc | apply pw_below_drewN | apply below_drew1 | refine below_set ?_ GE216.out) | exact HB.out))); rintro e w18 ⟨rfl, hb⟩; refine ⟨_, rfl, ?_⟩; have n0_ := Aside0.mk (Kd.R_below (by (with_reducible repeat (first | apply Kd.R_alloc | apply Kd.R_drewN | apply Kd.R_drew)); exact (Kd.R_mono (Kd.R_far (p := ⟨gb216, 3, none⟩) (Kd.R_far (p := ⟨gb216, 2, none⟩) (Kd.R_far (p := ⟨gb216, 1, none⟩) (Kd.R_far (p := ⟨gb216, 0, none⟩) (Kd.R_mono HO_4.out (fun k_ hk => (⟨hk, hk.2⟩ : _ ∧ k_ ≠ gb216))) (fun _ hk => hk.2) (.int .i64 t212)) (fun _ hk => hk.2) (.int .i64 t213)) (fun _ hk => hk.2) (.int .i64 t214)) (fun _ hk => hk.2) (.int .i64 t215)) (fun _ h_ => h_.1))) hb); have n1_ := Aside0.mk (Kd.R_below (by (with_reducible repeat (first | apply Kd.R_alloc | apply Kd.R_drewN | apply Kd.R_drew)); exact (Kd.R_mono (Kd.R_far (p := ⟨gb216, 3, none⟩) (Kd.R_far (p := ⟨gb216, 2, none⟩) (Kd.R_far (p := ⟨gb216, 1, none⟩) (Kd.R_far (p := ⟨gb216, 0, none⟩) (Kd.R_types HO211.out BK216.out (by decide)) (fun _ hk => hk.2) (.int .i64 t212)) (fun _ hk => hk.2) (.int .i64 t213)) (fun _ hk => hk.2) (.int .i64 t214)) (fun _ hk => hk.2) (.int .i64 t215)) (fun _ h_ => h_.1))) hb); have n2_ := Aside0.mk (blk_below (g := gb216) (o := .cells #[.int .i64 t212, .int .i64 t213, .int .i64 t214, .int .i64 t215] 72 (0, 0)) (by (with_reducible repeat (first | refine blk_drewN ?_ _ | refine blk_drew ?_ | refine blk_alloc ?_ _)); refine blk_put (cs := #[.int .i64 t212, .int .i64 t213, .int .i64 t214, .int .i64 0]) ?_ 3 _ rfl; (with_reducible repeat (first | refine blk_drewN ?_ _ | refine blk_drew ?_ | refine blk_alloc ?_ _)); refine blk_put (cs := #[.int .i64 t212, .int .i64 t213, .int .i64 0, .int .i64 0]) ?_ 2 _ rfl; (with_reducible repeat (first | refine blk_drewN ?_ _ | refine blk_drew ?_ | refine blk_alloc ?_ _)); refine blk_put (cs := #[.int .i64 t212, .int .i64 0, .int .i64 0, .int .i64 0]) ?_ 1 _ rfl; (with_reducible repeat (first | refine blk_drewN ?_ _ | refine blk_drew ?_ | refine blk_alloc ?_ _)); refine blk_put (cs := #[.int .i64 0, .int .i64 0, .int .i64 0, .int .i64 0]) ?_ 0 _ rfl; (with_reducible repeat (first | refine blk_drewN ?_ _ | refine blk_drew ?_ | refine blk_alloc ?_ _)); exact BK216.out) hb); have n3_ := Aside0.mk (below_step (by repeat (first | (with_reducible first | exact HB.out | apply below_alloc | apply pw_below_drewN | apply below_drew1 | refine below_set ?_ GE216.out) | exact HB.out)) hb); clear HO_4; clear HO211; clear BK216; clear HB; have HO_4 := n0_; have HO211 := n1_; have BK216 := n2_; have HB := n3_; clear n0_ n1_ n2_ n3_; (try clear hb); (try clear hb2); (try clear hk); (try clear hi); have hcz19_0 : w18.cell? ⟨gb216, 0, none⟩ = some (.int .i64 t212) := (blk_cell BK216.out 0).trans rfl; have hcz19_1 : w18.cell? ⟨gb216, 1, none⟩ = some (.int .i64 t213) := (blk_cell BK216.out 1).trans rfl; have hcz19_2 : w18.cell? ⟨gb216, 2, none⟩ = some (.int .i64 t214) := (blk_cell BK216.out 2).trans rfl; have hcz19_3 : w18.cell? ⟨gb216, 3, none⟩ = some (.int .i64 t215) := (blk_cell BK216.out 3).trans rfl; have hfz19_0 := blk_frozen BK216.out 0; have hfz19_1 := blk_frozen BK216.out 1; have hfz19_2 := blk_frozen BK216.out 2; have hfz19_3 := blk_frozen BK216.out 3) | ((with_reducible refine gate_builtin (b := .append) (xs := #[.tmp 41, .tmp 43]) rfl ?_); at_builtin; refine Kd.R_append k72 (w0 := w) w.heap.size rfl (.tmp 41) (.tmp 43) 73 72 (.agg #[(.int .i64 0), (.int .i64 0), (.int .i64 0), (.int .i64 0)]) 32 rfl Tryd.underlying73 info72 rfl (by decide) (by omega) u4 x4_1 (⟨t212, t213, t214, t215⟩ : S72) [.int .i64 t212, .int .i64 t213, .int .i64 t214, .int .i64 t215] (fun k_ => k_ ≠ gb216) (fun _ => False) rfl rfl ?aP (fun _ hk => hk.elim) ?aF ?aO ?aB ?aS ?aL ?_; (case aP => exact k72_mkM _ _ _ (⟨t212, t213, t214, t215⟩ : S72)); (case aB => exact (by repeat (first | (with_reducible first | exact HB.out | apply below_alloc | apply pw_below_drewN | apply below_drew1 | refine below_set ?_ GE216.out) | exact HB.out))); (case aF => exact (fun k_ hk => Kd.freshB (g := gb216) (o := .cells #[.int .i64 t212, .int .i64 t213, .int .i64 t214, .int .i64 t215] 72 (0, 0)) (by (with_reducible repeat (first | refine blk_drewN ?_ _ | refine blk_drew ?_ | refine blk_alloc ?_ _)); exact BK216.out) k_ hk)); (case aO => exact (by (with_reducible repeat (first | apply Kd.R_alloc | apply Kd.R_drewN | apply Kd.R_drew)); exact Kd.R_mono HO_4.out (fun _ hk => hk.2))); (case aS => exact (below_size (by repeat (first | (with_reducible first | exact HB.out | apply below_alloc | apply pw_below_drewN | apply below_drew1 | refine below_set ?_ GE216.out) | exact HB.out)))); (case aL => have := LMc11.out; omega); intro v220 w20 ho hb hg hat; rw [← Ny219.out] at ho; have n0_ := Aside0.mk (Kd.R_over' (by (with_reducible repeat (first | apply Kd.R_alloc | apply Kd.R_drewN | apply Kd.R_drew)); exact HO211.out) (Kd.R_typed (by (with_reducible repeat (first | apply Kd.R_alloc | apply Kd.R_drewN | apply Kd.R_drew)); exact HO_4.out)) (by decide) hg); have n1_ := Aside0.mk (blk_grown (g := gb216) (o := .cells #[.int .i64 t212, .int .i64 t213, .int .i64 t214, .int .i64 t215] 72 (0, 0)) (by (with_reducible repeat (first | refine blk_drewN ?_ _ | refine blk_drew ?_ | refine blk_alloc ?_ _)); exact BK216.out) hg (Kd.R_away HO_4.out (fun _ hk => hk.2))); have n2_ := Aside0.mk (hb); have n3_ := Aside0.mk (ho); clear HO211; clear BK216; clear HB; clear HO_4; have HO211 := n0_; have BK216 := n1_; have HB := n2_; have HO221 := n3_; clear n0_ n1_ n2_ n3_; clear ho hb hg hat))
         go_roundg k1
         case measure => have := HK1.out; omega
         case rel => exact ⟨(t207), (y219), (by first | rfl | (simp; done) | (simp only [emptyNe_, emptyEq_]; done) | (simp [*]; done)), H', ⟨by have := HK1.out; omega⟩, ⟨by (with_reducible repeat (first | apply Kd.R_alloc | apply Kd.R_drewN | apply Kd.R_drew)); exact Kd.R_mono HO221.out (fun _ hk => trivial)⟩, ⟨by repeat (first | (with_reducible first | exact HB.out | apply below_alloc | apply pw_below_drewN | apply below_drew1 | refine below_set ?_ GE216.out) | exact HB.out)⟩⟩
        ·rw [if_neg c11] at H
         exact absurd H (by simp)
       ·rw [if_neg c10] at H
        have c10b0 : (t217.toList == t206.toList) = false := beq_eq_false_iff_ne.mpr c10
        have c10b1 : (t217.toList != t206.toList) = true := bne_iff_ne.mpr c10
        simp only [Option.some.injEq, Prod.mk.injEq] at H
        obtain ⟨rfl, rfl⟩ := H
        go_wp2_with (first | ((with_reducible refine gate_callee (f := 96) rfl ?_); refine goesL_ (some 18) rfl rfl Tryd.func96 (by kernel_rfl) rfl #[.string x0_1, .string (⟨#[10]⟩ : ByteArray)] rfl (by (try simp only [List.map_toArray, List.map_cons, List.map_nil]); first | done | rfl | (simp only [List.length_drop, List.length_take]; rfl)) ?_; (with_reducible refine (o_Cut.calls x0_1 (⟨#[10]⟩ : ByteArray) t206 t207 true _ A4.out ?side1).mono ?_); (case side1 => exact Gl.below HG.out (by repeat (first | (with_reducible first | exact HB.out | apply below_alloc | apply pw_below_drewN | apply below_drew1) | exact HB.out))); rintro e w21 ⟨rfl, hb⟩; refine ⟨_, rfl, ?_⟩; have n0_ := Aside0.mk (Kd.R_below (by (with_reducible repeat (first | apply Kd.R_alloc | apply Kd.R_drewN | apply Kd.R_drew)); exact HO_4.out) hb); have n1_ := Aside0.mk (below_step (by repeat (first | (with_reducible first | exact HB.out | apply below_alloc | apply pw_below_drewN | apply below_drew1) | exact HB.out)) hb); clear HO_4; clear HB; have HO_4 := n0_; have HB := n1_; clear n0_ n1_; (try clear hb); (try clear hb2); (try clear hk); (try clear hi)) | ((with_reducible refine gate_callee (f := 89) rfl ?_); refine goesL_ (some 23) rfl rfl Tryd.func89 (by kernel_rfl) rfl #[.string t206, .string (⟨#[32]⟩ : ByteArray)] rfl (by (try simp only [List.map_toArray, List.map_cons, List.map_nil]); first | done | rfl | (simp only [List.length_drop, List.length_take]; rfl)) ?_; (with_reducible refine (o_Split.calls t206 (⟨#[32]⟩ : ByteArray) t209 _ A5.out ?side1).mono ?_); (case side1 => exact Gl.below HG.out (by repeat (first | (with_reducible first | exact HB.out | apply below_alloc | apply pw_below_drewN | apply below_drew1) | exact HB.out))); rintro e w22 ⟨v210, rfl, ho0, hb⟩; refine ⟨_, rfl, ?_⟩; have n0_ := Aside0.mk (Kd.R_below (by (with_reducible repeat (first | apply Kd.R_alloc | apply Kd.R_drewN | apply Kd.R_drew)); exact HO_4.out) hb); have n1_ := Aside0.mk (Kd.R_lower ho0 (below_size (by repeat (first | (with_reducible first | exact HB.out | apply below_alloc | apply pw_below_drewN | apply below_drew1) | exact HB.out)))); have n2_ := Aside0.mk (below_step (by repeat (first | (with_reducible first | exact HB.out | apply below_alloc | apply pw_below_drewN | apply below_drew1) | exact HB.out)) hb); clear HO_4; clear HB; have HO_4 := n0_; have HO211 := n1_; have HB := n2_; clear n0_ n1_ n2_; (try clear hb); (try clear hb2); (try clear hk); (try clear hi); (try clear ho0); obtain ⟨Ao23, co23, eo23⟩ := Kd.R_slice HO211.out; subst eo23) | ((with_reducible refine gate_callee (f := 97) rfl ?_); refine goesL_ (some 24) rfl rfl Tryd.func97 (by kernel_rfl) rfl #[.slice Ao23 t209.length co23] rfl (by (try simp only [List.map_toArray, List.map_cons, List.map_nil]); first | done | rfl | (simp only [List.length_drop, List.length_take]; rfl)) ?_; (with_reducible refine (trace_guess.calls k1 _ _ t209 t212 t213 t214 t215 _ ?side1 ?side2 A6.out ?side3).mono ?_); (case side1 => repeat (first | exact (Kd.R_reads' HO211.out).2.2 | (with_reducible refine Kd.C_alloc ?_ _) | (with_reducible refine Kd.C_drewN ?_ _) | (with_reducible refine Kd.C_drew ?_))); (case side2 => exact (Kd.R_reads' HO211.out).2.1); (case side3 => exact Gl.below HG.out (by repeat (first | (with_reducible first | exact HB.out | apply below_alloc | apply pw_below_drewN | apply below_drew1) | exact HB.out))); rintro e w24 ⟨rfl, hb⟩; refine ⟨_, rfl, ?_⟩; have n0_ := Aside0.mk (Kd.R_below (by (with_reducible repeat (first | apply Kd.R_alloc | apply Kd.R_drewN | apply Kd.R_drew)); exact HO_4.out) hb); have n1_ := Aside0.mk (Kd.R_below (by (with_reducible repeat (first | apply Kd.R_alloc | apply Kd.R_drewN | apply Kd.R_drew)); exact HO211.out) hb); have n2_ := Aside0.mk (below_step (by repeat (first | (with_reducible first | exact HB.out | apply below_alloc | apply pw_below_drewN | apply below_drew1) | exact HB.out)) hb); clear HO_4; clear HO211; clear HB; have HO_4 := n0_; have HO211 := n1_; have HB := n2_; clear n0_ n1_ n2_; (try clear hb); (try clear hb2); (try clear hk); (try clear hi)) | ((with_reducible refine gate_dst (N := 8) rfl ?_); refine box_event ?hg (N := 8) ?hd (cs := #[.int .i64 0, .int .i64 0, .int .i64 0, .int .i64 0]) (t := 72) ?hr ?_; (case hd => rfl); (case hg => rfl); (case hr => first | (go_simp; done) | (go_simp; rfl)); intro gb216 hg w25 hbox hb; have n0_ := Aside0.mk (Kd.R_below (Kd.R_elderB (by (with_reducible repeat (first | apply Kd.R_alloc | apply Kd.R_drewN | apply Kd.R_drew)); exact HO_4.out) gb216 (Nat.le_of_eq hg.symm)) hb); have n1_ := Aside0.mk (Kd.R_below (by (with_reducible repeat (first | apply Kd.R_alloc | apply Kd.R_drewN | apply Kd.R_drew)); exact HO211.out) hb); have n2_ := Aside0.mk (below_step (by repeat (first | (with_reducible first | exact HB.out | apply below_alloc | apply pw_below_drewN | apply below_drew1) | exact HB.out)) hb); have n3_ := Aside0.mk (hbox); have n4_ := Aside0.mk ((by rw [hg]; exact (below_size (by repeat (first | (with_reducible first | exact HB.out | apply below_alloc | apply pw_below_drewN | apply below_drew1) | exact HB.out))) : w.heap.size ≤ gb216)); have n5_ := Aside0.mk ((by rw [hg]; exact (below_size (by repeat (first | (with_reducible first | exact HB.out | apply below_alloc | apply pw_below_drewN | apply below_drew1) | exact HB.out))) : w.heap.size ≤ gb216)); clear HO_4; clear HO211; clear HB; have HO_4 := n0_; have HO211 := n1_; have HB := n2_; have BK216 := n3_; have GW216 := n4_; have GE216 := n5_; clear n0_ n1_ n2_ n3_ n4_ n5_; clear hb hbox hg; have hcz26_0 : w25.cell? ⟨gb216, 0, none⟩ = some (.int .i64 0) := (blk_cell BK216.out 0).trans rfl; have hcz26_1 : w25.cell? ⟨gb216, 1, none⟩ = some (.int .i64 0) := (blk_cell BK216.out 1).trans rfl; have hcz26_2 : w25.cell? ⟨gb216, 2, none⟩ = some (.int .i64 0) := (blk_cell BK216.out 2).trans rfl; have hcz26_3 : w25.cell? ⟨gb216, 3, none⟩ = some (.int .i64 0) := (blk_cell BK216.out 3).trans rfl; have hfz26_0 := blk_frozen BK216.out 0; have hfz26_1 := blk_frozen BK216.out 1; have hfz26_2 := blk_frozen BK216.out 2; have hfz26_3 := blk_frozen BK216.out 3) | ((with_reducible refine gate_callee (f := 47) rfl ?_); refine goesL_ (some 27) rfl rfl Tryd.func47 (by kernel_rfl) rfl #[.agg #[.int .i64 t212, .int .i64 t213, .int .i64 t214, .int .i64 t215]] rfl (by (try simp only [List.map_toArray, List.map_cons, List.map_nil]); first | done | rfl | (simp only [List.length_drop, List.length_take]; rfl)) ?_; (with_reducible refine (trace_Line.calls k1 t212 t213 t214 t215 t217 t218 _ A7.out ?side1).mono ?_); (case side1 => exact Gl.below HG.out (by repeat (first | (with_reducible first | exact HB.out | apply below_alloc | apply pw_below_drewN | apply below_drew1 | refine below_set ?_ GE216.out) | exact HB.out))); rintro e w27 ⟨rfl, hb⟩; refine ⟨_, rfl, ?_⟩; have n0_ := Aside0.mk (Kd.R_below (by (with_reducible repeat (first | apply Kd.R_alloc | apply Kd.R_drewN | apply Kd.R_drew)); exact (Kd.R_mono (Kd.R_far (p := ⟨gb216, 3, none⟩) (Kd.R_far (p := ⟨gb216, 2, none⟩) (Kd.R_far (p := ⟨gb216, 1, none⟩) (Kd.R_far (p := ⟨gb216, 0, none⟩) (Kd.R_mono HO_4.out (fun k_ hk => (⟨hk, hk.2⟩ : _ ∧ k_ ≠ gb216))) (fun _ hk => hk.2) (.int .i64 t212)) (fun _ hk => hk.2) (.int .i64 t213)) (fun _ hk => hk.2) (.int .i64 t214)) (fun _ hk => hk.2) (.int .i64 t215)) (fun _ h_ => h_.1))) hb); have n1_ := Aside0.mk (Kd.R_below (by (with_reducible repeat (first | apply Kd.R_alloc | apply Kd.R_drewN | apply Kd.R_drew)); exact (Kd.R_mono (Kd.R_far (p := ⟨gb216, 3, none⟩) (Kd.R_far (p := ⟨gb216, 2, none⟩) (Kd.R_far (p := ⟨gb216, 1, none⟩) (Kd.R_far (p := ⟨gb216, 0, none⟩) (Kd.R_types HO211.out BK216.out (by decide)) (fun _ hk => hk.2) (.int .i64 t212)) (fun _ hk => hk.2) (.int .i64 t213)) (fun _ hk => hk.2) (.int .i64 t214)) (fun _ hk => hk.2) (.int .i64 t215)) (fun _ h_ => h_.1))) hb); have n2_ := Aside0.mk (blk_below (g := gb216) (o := .cells #[.int .i64 t212, .int .i64 t213, .int .i64 t214, .int .i64 t215] 72 (0, 0)) (by (with_reducible repeat (first | refine blk_drewN ?_ _ | refine blk_drew ?_ | refine blk_alloc ?_ _)); refine blk_put (cs := #[.int .i64 t212, .int .i64 t213, .int .i64 t214, .int .i64 0]) ?_ 3 _ rfl; (with_reducible repeat (first | refine blk_drewN ?_ _ | refine blk_drew ?_ | refine blk_alloc ?_ _)); refine blk_put (cs := #[.int .i64 t212, .int .i64 t213, .int .i64 0, .int .i64 0]) ?_ 2 _ rfl; (with_reducible repeat (first | refine blk_drewN ?_ _ | refine blk_drew ?_ | refine blk_alloc ?_ _)); refine blk_put (cs := #[.int .i64 t212, .int .i64 0, .int .i64 0, .int .i64 0]) ?_ 1 _ rfl; (with_reducible repeat (first | refine blk_drewN ?_ _ | refine blk_drew ?_ | refine blk_alloc ?_ _)); refine blk_put (cs := #[.int .i64 0, .int .i64 0, .int .i64 0, .int .i64 0]) ?_ 0 _ rfl; (with_reducible repeat (first | refine blk_drewN ?_ _ | refine blk_drew ?_ | refine blk_alloc ?_ _)); exact BK216.out) hb); have n3_ := Aside0.mk (below_step (by repeat (first | (with_reducible first | exact HB.out | apply below_alloc | apply pw_below_drewN | apply below_drew1 | refine below_set ?_ GE216.out) | exact HB.out)) hb); clear HO_4; clear HO211; clear BK216; clear HB; have HO_4 := n0_; have HO211 := n1_; have BK216 := n2_; have HB := n3_; clear n0_ n1_ n2_ n3_; (try clear hb); (try clear hb2); (try clear hk); (try clear hi)))
        go_ret2
        exact ⟨_, by first | rfl | (simp [errW_none, errW_some] <;> rfl) | (simp [*, errW_none, errW_some] <;> rfl), by first | exact Kd.R_nil _ _ _ _ _ | exact Kd.N_nil _ _ _ _ _ | exact Kd.V_nil _ _ _ _ _ | exact Kd.Q_nil _ _ _ _ _ | exact Kd.S_nil _ _ _ _ _, by repeat (first | (with_reducible first | exact HB.out | apply below_alloc | apply pw_below_drewN | apply below_drew1 | refine below_set ?_ GE216.out) | exact HB.out)⟩
      ·rw [if_neg c9] at H
       have c9b0 : (t218 == 0) = false := beq_eq_false_iff_ne.mpr c9
       have c9b1 : (t218 != 0) = true := bne_iff_ne.mpr c9
       simp only [Option.some.injEq, Prod.mk.injEq] at H
       obtain ⟨rfl, rfl⟩ := H
       go_wp2_with (first | ((with_reducible refine gate_callee (f := 96) rfl ?_); refine goesL_ (some 18) rfl rfl Tryd.func96 (by kernel_rfl) rfl #[.string x0_1, .string (⟨#[10]⟩ : ByteArray)] rfl (by (try simp only [List.map_toArray, List.map_cons, List.map_nil]); first | done | rfl | (simp only [List.length_drop, List.length_take]; rfl)) ?_; (with_reducible refine (o_Cut.calls x0_1 (⟨#[10]⟩ : ByteArray) t206 t207 true _ A4.out ?side1).mono ?_); (case side1 => exact Gl.below HG.out (by repeat (first | (with_reducible first | exact HB.out | apply below_alloc | apply pw_below_drewN | apply below_drew1) | exact HB.out))); rintro e w28 ⟨rfl, hb⟩; refine ⟨_, rfl, ?_⟩; have n0_ := Aside0.mk (Kd.R_below (by (with_reducible repeat (first | apply Kd.R_alloc | apply Kd.R_drewN | apply Kd.R_drew)); exact HO_4.out) hb); have n1_ := Aside0.mk (below_step (by repeat (first | (with_reducible first | exact HB.out | apply below_alloc | apply pw_below_drewN | apply below_drew1) | exact HB.out)) hb); clear HO_4; clear HB; have HO_4 := n0_; have HB := n1_; clear n0_ n1_; (try clear hb); (try clear hb2); (try clear hk); (try clear hi)) | ((with_reducible refine gate_callee (f := 89) rfl ?_); refine goesL_ (some 23) rfl rfl Tryd.func89 (by kernel_rfl) rfl #[.string t206, .string (⟨#[32]⟩ : ByteArray)] rfl (by (try simp only [List.map_toArray, List.map_cons, List.map_nil]); first | done | rfl | (simp only [List.length_drop, List.length_take]; rfl)) ?_; (with_reducible refine (o_Split.calls t206 (⟨#[32]⟩ : ByteArray) t209 _ A5.out ?side1).mono ?_); (case side1 => exact Gl.below HG.out (by repeat (first | (with_reducible first | exact HB.out | apply below_alloc | apply pw_below_drewN | apply below_drew1) | exact HB.out))); rintro e w29 ⟨v210, rfl, ho0, hb⟩; refine ⟨_, rfl, ?_⟩; have n0_ := Aside0.mk (Kd.R_below (by (with_reducible repeat (first | apply Kd.R_alloc | apply Kd.R_drewN | apply Kd.R_drew)); exact HO_4.out) hb); have n1_ := Aside0.mk (Kd.R_lower ho0 (below_size (by repeat (first | (with_reducible first | exact HB.out | apply below_alloc | apply pw_below_drewN | apply below_drew1) | exact HB.out)))); have n2_ := Aside0.mk (below_step (by repeat (first | (with_reducible first | exact HB.out | apply below_alloc | apply pw_below_drewN | apply below_drew1) | exact HB.out)) hb); clear HO_4; clear HB; have HO_4 := n0_; have HO211 := n1_; have HB := n2_; clear n0_ n1_ n2_; (try clear hb); (try clear hb2); (try clear hk); (try clear hi); (try clear ho0); obtain ⟨Ao30, co30, eo30⟩ := Kd.R_slice HO211.out; subst eo30) | ((with_reducible refine gate_callee (f := 97) rfl ?_); refine goesL_ (some 24) rfl rfl Tryd.func97 (by kernel_rfl) rfl #[.slice Ao30 t209.length co30] rfl (by (try simp only [List.map_toArray, List.map_cons, List.map_nil]); first | done | rfl | (simp only [List.length_drop, List.length_take]; rfl)) ?_; (with_reducible refine (trace_guess.calls k1 _ _ t209 t212 t213 t214 t215 _ ?side1 ?side2 A6.out ?side3).mono ?_); (case side1 => repeat (first | exact (Kd.R_reads' HO211.out).2.2 | (with_reducible refine Kd.C_alloc ?_ _) | (with_reducible refine Kd.C_drewN ?_ _) | (with_reducible refine Kd.C_drew ?_))); (case side2 => exact (Kd.R_reads' HO211.out).2.1); (case side3 => exact Gl.below HG.out (by repeat (first | (with_reducible first | exact HB.out | apply below_alloc | apply pw_below_drewN | apply below_drew1) | exact HB.out))); rintro e w31 ⟨rfl, hb⟩; refine ⟨_, rfl, ?_⟩; have n0_ := Aside0.mk (Kd.R_below (by (with_reducible repeat (first | apply Kd.R_alloc | apply Kd.R_drewN | apply Kd.R_drew)); exact HO_4.out) hb); have n1_ := Aside0.mk (Kd.R_below (by (with_reducible repeat (first | apply Kd.R_alloc | apply Kd.R_drewN | apply Kd.R_drew)); exact HO211.out) hb); have n2_ := Aside0.mk (below_step (by repeat (first | (with_reducible first | exact HB.out | apply below_alloc | apply pw_below_drewN | apply below_drew1) | exact HB.out)) hb); clear HO_4; clear HO211; clear HB; have HO_4 := n0_; have HO211 := n1_; have HB := n2_; clear n0_ n1_ n2_; (try clear hb); (try clear hb2); (try clear hk); (try clear hi)) | ((with_reducible refine gate_dst (N := 8) rfl ?_); refine box_event ?hg (N := 8) ?hd (cs := #[.int .i64 0, .int .i64 0, .int .i64 0, .int .i64 0]) (t := 72) ?hr ?_; (case hd => rfl); (case hg => rfl); (case hr => first | (go_simp; done) | (go_simp; rfl)); intro gb216 hg w32 hbox hb; have n0_ := Aside0.mk (Kd.R_below (Kd.R_elderB (by (with_reducible repeat (first | apply Kd.R_alloc | apply Kd.R_drewN | apply Kd.R_drew)); exact HO_4.out) gb216 (Nat.le_of_eq hg.symm)) hb); have n1_ := Aside0.mk (Kd.R_below (by (with_reducible repeat (first | apply Kd.R_alloc | apply Kd.R_drewN | apply Kd.R_drew)); exact HO211.out) hb); have n2_ := Aside0.mk (below_step (by repeat (first | (with_reducible first | exact HB.out | apply below_alloc | apply pw_below_drewN | apply below_drew1) | exact HB.out)) hb); have n3_ := Aside0.mk (hbox); have n4_ := Aside0.mk ((by rw [hg]; exact (below_size (by repeat (first | (with_reducible first | exact HB.out | apply below_alloc | apply pw_below_drewN | apply below_drew1) | exact HB.out))) : w.heap.size ≤ gb216)); have n5_ := Aside0.mk ((by rw [hg]; exact (below_size (by repeat (first | (with_reducible first | exact HB.out | apply below_alloc | apply pw_below_drewN | apply below_drew1) | exact HB.out))) : w.heap.size ≤ gb216)); clear HO_4; clear HO211; clear HB; have HO_4 := n0_; have HO211 := n1_; have HB := n2_; have BK216 := n3_; have GW216 := n4_; have GE216 := n5_; clear n0_ n1_ n2_ n3_ n4_ n5_; clear hb hbox hg; have hcz33_0 : w32.cell? ⟨gb216, 0, none⟩ = some (.int .i64 0) := (blk_cell BK216.out 0).trans rfl; have hcz33_1 : w32.cell? ⟨gb216, 1, none⟩ = some (.int .i64 0) := (blk_cell BK216.out 1).trans rfl; have hcz33_2 : w32.cell? ⟨gb216, 2, none⟩ = some (.int .i64 0) := (blk_cell BK216.out 2).trans rfl; have hcz33_3 : w32.cell? ⟨gb216, 3, none⟩ = some (.int .i64 0) := (blk_cell BK216.out 3).trans rfl; have hfz33_0 := blk_frozen BK216.out 0; have hfz33_1 := blk_frozen BK216.out 1; have hfz33_2 := blk_frozen BK216.out 2; have hfz33_3 := blk_frozen BK216.out 3) | ((with_reducible refine gate_callee (f := 47) rfl ?_); refine goesL_ (some 27) rfl rfl Tryd.func47 (by kernel_rfl) rfl #[.agg #[.int .i64 t212, .int .i64 t213, .int .i64 t214, .int .i64 t215]] rfl (by (try simp only [List.map_toArray, List.map_cons, List.map_nil]); first | done | rfl | (simp only [List.length_drop, List.length_take]; rfl)) ?_; (with_reducible refine (trace_Line.calls k1 t212 t213 t214 t215 t217 t218 _ A7.out ?side1).mono ?_); (case side1 => exact Gl.below HG.out (by repeat (first | (with_reducible first | exact HB.out | apply below_alloc | apply pw_below_drewN | apply below_drew1 | refine below_set ?_ GE216.out) | exact HB.out))); rintro e w34 ⟨rfl, hb⟩; refine ⟨_, rfl, ?_⟩; have n0_ := Aside0.mk (Kd.R_below (by (with_reducible repeat (first | apply Kd.R_alloc | apply Kd.R_drewN | apply Kd.R_drew)); exact (Kd.R_mono (Kd.R_far (p := ⟨gb216, 3, none⟩) (Kd.R_far (p := ⟨gb216, 2, none⟩) (Kd.R_far (p := ⟨gb216, 1, none⟩) (Kd.R_far (p := ⟨gb216, 0, none⟩) (Kd.R_mono HO_4.out (fun k_ hk => (⟨hk, hk.2⟩ : _ ∧ k_ ≠ gb216))) (fun _ hk => hk.2) (.int .i64 t212)) (fun _ hk => hk.2) (.int .i64 t213)) (fun _ hk => hk.2) (.int .i64 t214)) (fun _ hk => hk.2) (.int .i64 t215)) (fun _ h_ => h_.1))) hb); have n1_ := Aside0.mk (Kd.R_below (by (with_reducible repeat (first | apply Kd.R_alloc | apply Kd.R_drewN | apply Kd.R_drew)); exact (Kd.R_mono (Kd.R_far (p := ⟨gb216, 3, none⟩) (Kd.R_far (p := ⟨gb216, 2, none⟩) (Kd.R_far (p := ⟨gb216, 1, none⟩) (Kd.R_far (p := ⟨gb216, 0, none⟩) (Kd.R_types HO211.out BK216.out (by decide)) (fun _ hk => hk.2) (.int .i64 t212)) (fun _ hk => hk.2) (.int .i64 t213)) (fun _ hk => hk.2) (.int .i64 t214)) (fun _ hk => hk.2) (.int .i64 t215)) (fun _ h_ => h_.1))) hb); have n2_ := Aside0.mk (blk_below (g := gb216) (o := .cells #[.int .i64 t212, .int .i64 t213, .int .i64 t214, .int .i64 t215] 72 (0, 0)) (by (with_reducible repeat (first | refine blk_drewN ?_ _ | refine blk_drew ?_ | refine blk_alloc ?_ _)); refine blk_put (cs := #[.int .i64 t212, .int .i64 t213, .int .i64 t214, .int .i64 0]) ?_ 3 _ rfl; (with_reducible repeat (first | refine blk_drewN ?_ _ | refine blk_drew ?_ | refine blk_alloc ?_ _)); refine blk_put (cs := #[.int .i64 t212, .int .i64 t213, .int .i64 0, .int .i64 0]) ?_ 2 _ rfl; (with_reducible repeat (first | refine blk_drewN ?_ _ | refine blk_drew ?_ | refine blk_alloc ?_ _)); refine blk_put (cs := #[.int .i64 t212, .int .i64 0, .int .i64 0, .int .i64 0]) ?_ 1 _ rfl; (with_reducible repeat (first | refine blk_drewN ?_ _ | refine blk_drew ?_ | refine blk_alloc ?_ _)); refine blk_put (cs := #[.int .i64 0, .int .i64 0, .int .i64 0, .int .i64 0]) ?_ 0 _ rfl; (with_reducible repeat (first | refine blk_drewN ?_ _ | refine blk_drew ?_ | refine blk_alloc ?_ _)); exact BK216.out) hb); have n3_ := Aside0.mk (below_step (by repeat (first | (with_reducible first | exact HB.out | apply below_alloc | apply pw_below_drewN | apply below_drew1 | refine below_set ?_ GE216.out) | exact HB.out)) hb); clear HO_4; clear HO211; clear BK216; clear HB; have HO_4 := n0_; have HO211 := n1_; have BK216 := n2_; have HB := n3_; clear n0_ n1_ n2_ n3_; (try clear hb); (try clear hb2); (try clear hk); (try clear hi)))
       go_ret2
       exact ⟨_, by first | rfl | (simp [errW_none, errW_some] <;> rfl) | (simp [*, errW_none, errW_some] <;> rfl), by first | exact Kd.R_nil _ _ _ _ _ | exact Kd.N_nil _ _ _ _ _ | exact Kd.V_nil _ _ _ _ _ | exact Kd.Q_nil _ _ _ _ _ | exact Kd.S_nil _ _ _ _ _, by repeat (first | (with_reducible first | exact HB.out | apply below_alloc | apply pw_below_drewN | apply below_drew1 | refine below_set ?_ GE216.out) | exact HB.out)⟩
     ·replace c8 := Bool.eq_false_iff.mpr c8
      subst c8
      have H1 : (some (([] : List (S72)), 2)) = some (r1, r2) := by rw [if_neg (show ¬ (false = true) by decide)] at H; exact H
      clear H
      have H := H1
      clear H1
      simp only [Option.some.injEq, Prod.mk.injEq] at H
      obtain ⟨rfl, rfl⟩ := H
      go_wp2_with (first | ((with_reducible refine gate_callee (f := 96) rfl ?_); refine goesL_ (some 18) rfl rfl Tryd.func96 (by kernel_rfl) rfl #[.string x0_1, .string (⟨#[10]⟩ : ByteArray)] rfl (by (try simp only [List.map_toArray, List.map_cons, List.map_nil]); first | done | rfl | (simp only [List.length_drop, List.length_take]; rfl)) ?_; (with_reducible refine (o_Cut.calls x0_1 (⟨#[10]⟩ : ByteArray) t206 t207 false _ A4.out ?side1).mono ?_); (case side1 => exact Gl.below HG.out (by repeat (first | (with_reducible first | exact HB.out | apply below_alloc | apply pw_below_drewN | apply below_drew1) | exact HB.out))); rintro e w35 ⟨rfl, hb⟩; refine ⟨_, rfl, ?_⟩; have n0_ := Aside0.mk (Kd.R_below (by (with_reducible repeat (first | apply Kd.R_alloc | apply Kd.R_drewN | apply Kd.R_drew)); exact HO_4.out) hb); have n1_ := Aside0.mk (below_step (by repeat (first | (with_reducible first | exact HB.out | apply below_alloc | apply pw_below_drewN | apply below_drew1) | exact HB.out)) hb); clear HO_4; clear HB; have HO_4 := n0_; have HB := n1_; clear n0_ n1_; (try clear hb); (try clear hb2); (try clear hk); (try clear hi)) | ((with_reducible refine gate_callee (f := 89) rfl ?_); refine goesL_ (some 23) rfl rfl Tryd.func89 (by kernel_rfl) rfl #[.string t206, .string (⟨#[32]⟩ : ByteArray)] rfl (by (try simp only [List.map_toArray, List.map_cons, List.map_nil]); first | done | rfl | (simp only [List.length_drop, List.length_take]; rfl)) ?_; (with_reducible refine (o_Split.calls t206 (⟨#[32]⟩ : ByteArray) t209 _ A5.out ?side1).mono ?_); (case side1 => exact Gl.below HG.out (by repeat (first | (with_reducible first | exact HB.out | apply below_alloc | apply pw_below_drewN | apply below_drew1) | exact HB.out))); rintro e w36 ⟨v210, rfl, ho0, hb⟩; refine ⟨_, rfl, ?_⟩; have n0_ := Aside0.mk (Kd.R_below (by (with_reducible repeat (first | apply Kd.R_alloc | apply Kd.R_drewN | apply Kd.R_drew)); exact HO_4.out) hb); have n1_ := Aside0.mk (Kd.R_lower ho0 (below_size (by repeat (first | (with_reducible first | exact HB.out | apply below_alloc | apply pw_below_drewN | apply below_drew1) | exact HB.out)))); have n2_ := Aside0.mk (below_step (by repeat (first | (with_reducible first | exact HB.out | apply below_alloc | apply pw_below_drewN | apply below_drew1) | exact HB.out)) hb); clear HO_4; clear HB; have HO_4 := n0_; have HO211 := n1_; have HB := n2_; clear n0_ n1_ n2_; (try clear hb); (try clear hb2); (try clear hk); (try clear hi); (try clear ho0); obtain ⟨Ao37, co37, eo37⟩ := Kd.R_slice HO211.out; subst eo37) | ((with_reducible refine gate_callee (f := 97) rfl ?_); refine goesL_ (some 24) rfl rfl Tryd.func97 (by kernel_rfl) rfl #[.slice Ao37 t209.length co37] rfl (by (try simp only [List.map_toArray, List.map_cons, List.map_nil]); first | done | rfl | (simp only [List.length_drop, List.length_take]; rfl)) ?_; (with_reducible refine (trace_guess.calls k1 _ _ t209 t212 t213 t214 t215 _ ?side1 ?side2 A6.out ?side3).mono ?_); (case side1 => repeat (first | exact (Kd.R_reads' HO211.out).2.2 | (with_reducible refine Kd.C_alloc ?_ _) | (with_reducible refine Kd.C_drewN ?_ _) | (with_reducible refine Kd.C_drew ?_))); (case side2 => exact (Kd.R_reads' HO211.out).2.1); (case side3 => exact Gl.below HG.out (by repeat (first | (with_reducible first | exact HB.out | apply below_alloc | apply pw_below_drewN | apply below_drew1) | exact HB.out))); rintro e w38 ⟨rfl, hb⟩; refine ⟨_, rfl, ?_⟩; have n0_ := Aside0.mk (Kd.R_below (by (with_reducible repeat (first | apply Kd.R_alloc | apply Kd.R_drewN | apply Kd.R_drew)); exact HO_4.out) hb); have n1_ := Aside0.mk (Kd.R_below (by (with_reducible repeat (first | apply Kd.R_alloc | apply Kd.R_drewN | apply Kd.R_drew)); exact HO211.out) hb); have n2_ := Aside0.mk (below_step (by repeat (first | (with_reducible first | exact HB.out | apply below_alloc | apply pw_below_drewN | apply below_drew1) | exact HB.out)) hb); clear HO_4; clear HO211; clear HB; have HO_4 := n0_; have HO211 := n1_; have HB := n2_; clear n0_ n1_ n2_; (try clear hb); (try clear hb2); (try clear hk); (try clear hi)) | ((with_reducible refine gate_dst (N := 8) rfl ?_); refine box_event ?hg (N := 8) ?hd (cs := #[.int .i64 0, .int .i64 0, .int .i64 0, .int .i64 0]) (t := 72) ?hr ?_; (case hd => rfl); (case hg => rfl); (case hr => first | (go_simp; done) | (go_simp; rfl)); intro gb216 hg w39 hbox hb; have n0_ := Aside0.mk (Kd.R_below (Kd.R_elderB (by (with_reducible repeat (first | apply Kd.R_alloc | apply Kd.R_drewN | apply Kd.R_drew)); exact HO_4.out) gb216 (Nat.le_of_eq hg.symm)) hb); have n1_ := Aside0.mk (Kd.R_below (by (with_reducible repeat (first | apply Kd.R_alloc | apply Kd.R_drewN | apply Kd.R_drew)); exact HO211.out) hb); have n2_ := Aside0.mk (below_step (by repeat (first | (with_reducible first | exact HB.out | apply below_alloc | apply pw_below_drewN | apply below_drew1) | exact HB.out)) hb); have n3_ := Aside0.mk (hbox); have n4_ := Aside0.mk ((by rw [hg]; exact (below_size (by repeat (first | (with_reducible first | exact HB.out | apply below_alloc | apply pw_below_drewN | apply below_drew1) | exact HB.out))) : w.heap.size ≤ gb216)); have n5_ := Aside0.mk ((by rw [hg]; exact (below_size (by repeat (first | (with_reducible first | exact HB.out | apply below_alloc | apply pw_below_drewN | apply below_drew1) | exact HB.out))) : w.heap.size ≤ gb216)); clear HO_4; clear HO211; clear HB; have HO_4 := n0_; have HO211 := n1_; have HB := n2_; have BK216 := n3_; have GW216 := n4_; have GE216 := n5_; clear n0_ n1_ n2_ n3_ n4_ n5_; clear hb hbox hg; have hcz40_0 : w39.cell? ⟨gb216, 0, none⟩ = some (.int .i64 0) := (blk_cell BK216.out 0).trans rfl; have hcz40_1 : w39.cell? ⟨gb216, 1, none⟩ = some (.int .i64 0) := (blk_cell BK216.out 1).trans rfl; have hcz40_2 : w39.cell? ⟨gb216, 2, none⟩ = some (.int .i64 0) := (blk_cell BK216.out 2).trans rfl; have hcz40_3 : w39.cell? ⟨gb216, 3, none⟩ = some (.int .i64 0) := (blk_cell BK216.out 3).trans rfl; have hfz40_0 := blk_frozen BK216.out 0; have hfz40_1 := blk_frozen BK216.out 1; have hfz40_2 := blk_frozen BK216.out 2; have hfz40_3 := blk_frozen BK216.out 3) | ((with_reducible refine gate_callee (f := 47) rfl ?_); refine goesL_ (some 27) rfl rfl Tryd.func47 (by kernel_rfl) rfl #[.agg #[.int .i64 t212, .int .i64 t213, .int .i64 t214, .int .i64 t215]] rfl (by (try simp only [List.map_toArray, List.map_cons, List.map_nil]); first | done | rfl | (simp only [List.length_drop, List.length_take]; rfl)) ?_; (with_reducible refine (trace_Line.calls k1 t212 t213 t214 t215 t217 t218 _ A7.out ?side1).mono ?_); (case side1 => exact Gl.below HG.out (by repeat (first | (with_reducible first | exact HB.out | apply below_alloc | apply pw_below_drewN | apply below_drew1 | refine below_set ?_ GE216.out) | exact HB.out))); rintro e w41 ⟨rfl, hb⟩; refine ⟨_, rfl, ?_⟩; have n0_ := Aside0.mk (Kd.R_below (by (with_reducible repeat (first | apply Kd.R_alloc | apply Kd.R_drewN | apply Kd.R_drew)); exact (Kd.R_mono (Kd.R_far (p := ⟨gb216, 3, none⟩) (Kd.R_far (p := ⟨gb216, 2, none⟩) (Kd.R_far (p := ⟨gb216, 1, none⟩) (Kd.R_far (p := ⟨gb216, 0, none⟩) (Kd.R_mono HO_4.out (fun k_ hk => (⟨hk, hk.2⟩ : _ ∧ k_ ≠ gb216))) (fun _ hk => hk.2) (.int .i64 t212)) (fun _ hk => hk.2) (.int .i64 t213)) (fun _ hk => hk.2) (.int .i64 t214)) (fun _ hk => hk.2) (.int .i64 t215)) (fun _ h_ => h_.1))) hb); have n1_ := Aside0.mk (Kd.R_below (by (with_reducible repeat (first | apply Kd.R_alloc | apply Kd.R_drewN | apply Kd.R_drew)); exact (Kd.R_mono (Kd.R_far (p := ⟨gb216, 3, none⟩) (Kd.R_far (p := ⟨gb216, 2, none⟩) (Kd.R_far (p := ⟨gb216, 1, none⟩) (Kd.R_far (p := ⟨gb216, 0, none⟩) (Kd.R_types HO211.out BK216.out (by decide)) (fun _ hk => hk.2) (.int .i64 t212)) (fun _ hk => hk.2) (.int .i64 t213)) (fun _ hk => hk.2) (.int .i64 t214)) (fun _ hk => hk.2) (.int .i64 t215)) (fun _ h_ => h_.1))) hb); have n2_ := Aside0.mk (blk_below (g := gb216) (o := .cells #[.int .i64 t212, .int .i64 t213, .int .i64 t214, .int .i64 t215] 72 (0, 0)) (by (with_reducible repeat (first | refine blk_drewN ?_ _ | refine blk_drew ?_ | refine blk_alloc ?_ _)); refine blk_put (cs := #[.int .i64 t212, .int .i64 t213, .int .i64 t214, .int .i64 0]) ?_ 3 _ rfl; (with_reducible repeat (first | refine blk_drewN ?_ _ | refine blk_drew ?_ | refine blk_alloc ?_ _)); refine blk_put (cs := #[.int .i64 t212, .int .i64 t213, .int .i64 0, .int .i64 0]) ?_ 2 _ rfl; (with_reducible repeat (first | refine blk_drewN ?_ _ | refine blk_drew ?_ | refine blk_alloc ?_ _)); refine blk_put (cs := #[.int .i64 t212, .int .i64 0, .int .i64 0, .int .i64 0]) ?_ 1 _ rfl; (with_reducible repeat (first | refine blk_drewN ?_ _ | refine blk_drew ?_ | refine blk_alloc ?_ _)); refine blk_put (cs := #[.int .i64 0, .int .i64 0, .int .i64 0, .int .i64 0]) ?_ 0 _ rfl; (with_reducible repeat (first | refine blk_drewN ?_ _ | refine blk_drew ?_ | refine blk_alloc ?_ _)); exact BK216.out) hb); have n3_ := Aside0.mk (below_step (by repeat (first | (with_reducible first | exact HB.out | apply below_alloc | apply pw_below_drewN | apply below_drew1 | refine below_set ?_ GE216.out) | exact HB.out)) hb); clear HO_4; clear HO211; clear BK216; clear HB; have HO_4 := n0_; have HO211 := n1_; have BK216 := n2_; have HB := n3_; clear n0_ n1_ n2_ n3_; (try clear hb); (try clear hb2); (try clear hk); (try clear hi)))
      go_ret2
      exact ⟨_, by first | rfl | (simp [errW_none, errW_some] <;> rfl) | (simp [*, errW_none, errW_some] <;> rfl), by first | exact Kd.R_nil _ _ _ _ _ | exact Kd.N_nil _ _ _ _ _ | exact Kd.V_nil _ _ _ _ _ | exact Kd.Q_nil _ _ _ _ _ | exact Kd.S_nil _ _ _ _ _, by repeat (first | (with_reducible first | exact HB.out | apply below_alloc | apply pw_below_drewN | apply below_drew1 | refine below_set ?_ GE216.out) | exact HB.out)⟩
def trace_Of.l0 : Nat → Int → List (S72) → List (S72) → Int → Int → Option ((List (S72)))
 | 0, _, _, _, _, _ => none
 | k + 1, x1, x5, x8, x9, x10 => if x10 < x9 then (if 0 ≤ x10 then (if x10 < (x8.length : Int) then (if ((rd_T72 x8 x10).f1) = x1 then (if x5.length < 4398046511104 then (trace_Of.l0 k x1 (x5 ++ [(⟨(rd_T72 x8 x10).f0, (rd_T72 x8 x10).f1, (rd_T72 x8 x10).f2, (rd_T72 x8 x10).f3⟩ : S72)]) x8 x9 (wrap64 (x10 + 1))) else (none)) else (trace_Of.l0 k x1 x5 x8 x9 (wrap64 (x10 + 1)))) else (none)) else (none)) else (some x5)
def trace_Of.f (k : Nat) (l0 : List (S72)) (a1 : Int) : Option ((List (S72))) := trace_Of.l0 k a1 ([] : List (S72)) l0 (l0.length : Int) 0
theorem trace_Of.mono_l : ∀ k, (∀ y0 y1 y2 y3 y4, LeO (trace_Of.l0 k y0 y1 y2 y3 y4) (trace_Of.l0 (k + 1) y0 y1 y2 y3 y4))
 | 0 => fun _ _ _ _ _ r h => by simp [trace_Of.l0] at h
 | k + 1 => by
  have ih0 := trace_Of.mono_l k
  ·intro y0 y1 y2 y3 y4
   unfold trace_Of.l0
   repeat' first
   | (with_reducible exact ih0 _ _ _ _ _)
   | (with_reducible exact LeO.refl _)
   | (with_reducible exact LeO.none _)
   | (with_reducible refine LeO.ite ?_ ?_)
   | (with_reducible refine LeO.bind ?_ (fun _ => ?_))
   | exact ih0 _ _ _ _ _
   | exact LeO.none _
   | refine LeO.ite ?_ ?_
   | refine LeO.bind ?_ (fun _ => ?_)
theorem trace_Of.mono : ∀ a0 a1 k, LeO (trace_Of.f k a0 a1) (trace_Of.f (k + 1) a0 a1) := by
 intro a0 a1 k
 have ih0 := trace_Of.mono_l k
 unfold trace_Of.f
 repeat' first
   | (with_reducible exact ih0 _ _ _ _ _)
   | (with_reducible exact LeO.refl _)
   | (with_reducible exact LeO.none _)
   | (with_reducible refine LeO.ite ?_ ?_)
   | (with_reducible refine LeO.bind ?_ (fun _ => ?_))
   | exact ih0 _ _ _ _ _
   | exact LeO.none _
   | refine LeO.ite ?_ ?_
   | refine LeO.bind ?_ (fun _ => ?_)
set_option maxHeartbeats 8000000 in
set_option maxRecDepth 100000 in
theorem trace_Of.calls (k : Nat) (A0 : Option Addr) (c0 : Nat) (l0 : List (S72)) (a1 : Int) (r : List (S72)) (w : World) (hr0 : Kd.C k72 w A0 l0.length l0) (hc0 : l0.length ≤ c0) (h : trace_Of.f k l0 a1 = some r) :
  Calls Tryd.prog 95 #[.slice A0 l0.length c0, .int .i64 a1] w fun e w' => ∃ v0_ : Value, e = .returned (v0_) ∧ Kd.R k72 72 w' w.heap.size (fun _ => True) v0_ r ∧ Below w.heap.size w w' := by
 have hu72 := Tryd.underlying72
 have HR0 := Aside0.mk hr0
 have HC0 := Aside0.mk hc0
 clear hr0 hc0
 have HB := Aside0.mk (Below.refl w.heap.size w)
 have H : (trace_Of.l0 k a1 ([] : List (S72)) l0 (l0.length : Int) 0) = some r := h
 clear h
 have H' := Aside0.mk H
 clear H
 go_enter Tryd.func95, Tryd.ntmps95
 go_wp2
 go_loopg [5, 10] k (fun kq v5 v10 w' => ∃ (x5_1 : List (S72)) (x10_1 : Int), v10 = .int .i64 x10_1 ∧ Aside0 (trace_Of.l0 kq a1 x5_1 l0 (l0.length : Int) x10_1 = some r) ∧ Aside0 (kq ≤ k) ∧ Aside0 (Kd.R k72 72 w' w.heap.size (fun _ => True) v5 x5_1) ∧ Aside0 (Below w.heap.size w w'))
 case atStart => exact ⟨(([] : List (S72))), (0), (by first | rfl | (simp; done) | (simp only [emptyNe_, emptyEq_]; done) | (simp [*]; done)), H', ⟨Nat.le_refl _⟩, ⟨by first | exact Kd.R_nil _ _ _ _ _ | exact Kd.N_nil _ _ _ _ _ | exact Kd.V_nil _ _ _ _ _ | exact Kd.Q_nil _ _ _ _ _ | exact Kd.S_nil _ _ _ _ _⟩, ⟨by repeat (first | (with_reducible first | exact HB.out | apply below_alloc | apply pw_below_drewN | apply below_drew1) | exact HB.out)⟩⟩
 case round =>
  clear H'
  try clear p2
  obtain ⟨x5_1, x10_1, rfl, HA, HK1, HO_5, HB⟩ := hrel
  cases gk with
  | zero => exact absurd HA.out (by simp [trace_Of.l0])
  | succ k1 =>
   have H := HA.out
   clear HA
   simp only [trace_Of.l0] at H
   by_cases c3 : x10_1 < (l0.length : Int)
   ·rw [if_pos c3] at H
    have c3b0 : decide (x10_1 < (l0.length : Int)) = true := decide_eq_true c3
    clear c3
    by_cases c4 : 0 ≤ x10_1
    ·rw [if_pos c4] at H
     have c4b0 : decide (0 ≤ x10_1) = true := decide_eq_true c4
     clear c4
     by_cases c5 : x10_1 < (l0.length : Int)
     ·rw [if_pos c5] at H
      have c5b0 : decide (x10_1 < (l0.length : Int)) = true := decide_eq_true c5
      clear c5
      by_cases c6 : ((rd_T72 l0 x10_1).f1) = a1
      ·rw [if_pos c6] at H
       have c6b0 : (((rd_T72 l0 x10_1).f1) == a1) = true := beq_iff_eq.mpr c6
       have c6b1 : (((rd_T72 l0 x10_1).f1) != a1) = false := bne_eq_false_iff_eq.mpr c6
       clear c6
       by_cases c7 : x5_1.length < 4398046511104
       ·rw [if_pos c7] at H
        have LMc7 := Aside0.mk c7
        clear c7
        obtain ⟨y224, hy224⟩ : ∃ y_ : List (S72), y_ = (x5_1 ++ [(⟨(rd_T72 l0 x10_1).f0, (rd_T72 l0 x10_1).f1, (rd_T72 l0 x10_1).f2, (rd_T72 l0 x10_1).f3⟩ : S72)]) := ⟨_, rfl⟩
        replace H : (trace_Of.l0 k1 a1 y224 l0 (l0.length : Int) (wrap64 (x10_1 + 1))) = some r := by first | (rw [hy224]; with_reducible exact H) | (have H2_ := (Option.bind_some _ _).symm.trans H; rw [hy224]; with_reducible exact H2_) | (have H2_ := (Option.bind_some _ _).symm.trans H; with_reducible exact H2_) | with_reducible exact H | (rw [hy224]; exact H) | exact H
        have Ny224 := Aside0.mk hy224
        clear hy224
        have H' := Aside0.mk H
        clear H
        have p222 : 0 ≤ (x10_1 : Int) := of_decide_eq_true (by first | (with_reducible assumption) | assumption)
        have q222 : x10_1 < (l0.length : Int) := of_decide_eq_true (by first | (with_reducible assumption) | assumption)
        obtain ⟨ad222, e222, hx222_0, hx222_1, hx222_2, hx222_3⟩ := at_T72 HR0.out x10_1 p222 q222
        cases e222
        replace hx222_0 := (HB.out.cell (World.block_lt_of_cell? w _ hx222_0)).trans hx222_0
        replace hx222_1 := (HB.out.cell (World.block_lt_of_cell? w _ hx222_1)).trans hx222_1
        replace hx222_2 := (HB.out.cell (World.block_lt_of_cell? w _ hx222_2)).trans hx222_2
        replace hx222_3 := (HB.out.cell (World.block_lt_of_cell? w _ hx222_3)).trans hx222_3
        replace p222 := eq_true p222
        replace q222 := eq_true q222
        go_wp2_with (first | ((with_reducible refine gate_dst (N := 7) rfl ?_); refine box_event ?hg (N := 7) ?hd (cs := #[.int .i64 0, .int .i64 0, .int .i64 0, .int .i64 0]) (t := 72) ?hr ?_; (case hd => rfl); (case hg => rfl); (case hr => first | (go_simp; done) | (go_simp; rfl)); intro gb223 hg w8 hbox hb; have n0_ := Aside0.mk (Kd.R_below (Kd.R_elderB (by (with_reducible repeat (first | apply Kd.R_alloc | apply Kd.R_drewN | apply Kd.R_drew)); exact HO_5.out) gb223 (Nat.le_of_eq hg.symm)) hb); have n1_ := Aside0.mk (below_step (by repeat (first | (with_reducible first | exact HB.out | apply below_alloc | apply pw_below_drewN | apply below_drew1) | exact HB.out)) hb); have n2_ := Aside0.mk (hbox); have n3_ := Aside0.mk ((by rw [hg]; exact (below_size (by repeat (first | (with_reducible first | exact HB.out | apply below_alloc | apply pw_below_drewN | apply below_drew1) | exact HB.out))) : w.heap.size ≤ gb223)); have n4_ := Aside0.mk ((by rw [hg]; exact (below_size (by repeat (first | (with_reducible first | exact HB.out | apply below_alloc | apply pw_below_drewN | apply below_drew1) | exact HB.out))) : w.heap.size ≤ gb223)); clear HO_5; clear HB; have HO_5 := n0_; have HB := n1_; have BK223 := n2_; have GW223 := n3_; have GE223 := n4_; clear n0_ n1_ n2_ n3_ n4_; clear hb hbox hg; have hcz9_0 : w8.cell? ⟨gb223, 0, none⟩ = some (.int .i64 0) := (blk_cell BK223.out 0).trans rfl; have hcz9_1 : w8.cell? ⟨gb223, 1, none⟩ = some (.int .i64 0) := (blk_cell BK223.out 1).trans rfl; have hcz9_2 : w8.cell? ⟨gb223, 2, none⟩ = some (.int .i64 0) := (blk_cell BK223.out 2).trans rfl; have hcz9_3 : w8.cell? ⟨gb223, 3, none⟩ = some (.int .i64 0) := (blk_cell BK223.out 3).trans rfl; have hfz9_0 := blk_frozen BK223.out 0; have hfz9_1 := blk_frozen BK223.out 1; have hfz9_2 := blk_frozen BK223.out 2; have hfz9_3 := blk_frozen BK223.out 3) | ((with_reducible refine gate_builtin (b := .append) (xs := #[.tmp 18, .tmp 20]) rfl ?_); at_builtin; refine Kd.R_append k72 (w0 := w) w.heap.size rfl (.tmp 18) (.tmp 20) 73 72 (.agg #[(.int .i64 0), (.int .i64 0), (.int .i64 0), (.int .i64 0)]) 32 rfl Tryd.underlying73 info72 rfl (by decide) (by omega) u5 x5_1 (⟨(rd_T72 l0 x10_1).f0, (rd_T72 l0 x10_1).f1, (rd_T72 l0 x10_1).f2, (rd_T72 l0 x10_1).f3⟩ : S72) [.int .i64 ((rd_T72 l0 x10_1).f0), .int .i64 ((rd_T72 l0 x10_1).f1), .int .i64 ((rd_T72 l0 x10_1).f2), .int .i64 ((rd_T72 l0 x10_1).f3)] (fun k_ => k_ ≠ gb223) (fun _ => False) rfl (by first | (go_simp; done) | (go_simp; rfl)) ?aP (fun _ hk => hk.elim) ?aF ?aO ?aB ?aS ?aL ?_; (case aP => exact k72_mkM _ _ _ (⟨(rd_T72 l0 x10_1).f0, (rd_T72 l0 x10_1).f1, (rd_T72 l0 x10_1).f2, (rd_T72 l0 x10_1).f3⟩ : S72)); (case aB => exact (by repeat (first | (with_reducible first | exact HB.out | apply below_alloc | apply pw_below_drewN | apply below_drew1 | refine below_set ?_ GE223.out) | exact HB.out))); (case aF => exact (fun k_ hk => Kd.freshB (g := gb223) (o := .cells #[.int .i64 ((rd_T72 l0 x10_1).f0), .int .i64 ((rd_T72 l0 x10_1).f1), .int .i64 ((rd_T72 l0 x10_1).f2), .int .i64 ((rd_T72 l0 x10_1).f3)] 72 (0, 0)) (by (with_reducible repeat (first | refine blk_drewN ?_ _ | refine blk_drew ?_ | refine blk_alloc ?_ _)); refine blk_put (cs := #[.int .i64 ((rd_T72 l0 x10_1).f0), .int .i64 ((rd_T72 l0 x10_1).f1), .int .i64 ((rd_T72 l0 x10_1).f2), .int .i64 0]) ?_ 3 _ rfl; (with_reducible repeat (first | refine blk_drewN ?_ _ | refine blk_drew ?_ | refine blk_alloc ?_ _)); refine blk_put (cs := #[.int .i64 ((rd_T72 l0 x10_1).f0), .int .i64 ((rd_T72 l0 x10_1).f1), .int .i64 0, .int .i64 0]) ?_ 2 _ rfl; (with_reducible repeat (first | refine blk_drewN ?_ _ | refine blk_drew ?_ | refine blk_alloc ?_ _)); refine blk_put (cs := #[.int .i64 ((rd_T72 l0 x10_1).f0), .int .i64 0, .int .i64 0, .int .i64 0]) ?_ 1 _ rfl; (with_reducible repeat (first | refine blk_drewN ?_ _ | refine blk_drew ?_ | refine blk_alloc ?_ _)); refine blk_put (cs := #[.int .i64 0, .int .i64 0, .int .i64 0, .int .i64 0]) ?_ 0 _ rfl; (with_reducible repeat (first | refine blk_drewN ?_ _ | refine blk_drew ?_ | refine blk_alloc ?_ _)); exact BK223.out) k_ hk)); (case aO => exact (by (with_reducible repeat (first | apply Kd.R_alloc | apply Kd.R_drewN | apply Kd.R_drew)); exact Kd.R_mono (Kd.R_far (p := ⟨gb223, 3, none⟩) (Kd.R_far (p := ⟨gb223, 2, none⟩) (Kd.R_far (p := ⟨gb223, 1, none⟩) (Kd.R_far (p := ⟨gb223, 0, none⟩) (Kd.R_mono HO_5.out (fun k_ hk => (⟨hk, hk.2⟩ : _ ∧ k_ ≠ gb223))) (fun _ hk => hk.2) (.int .i64 ((rd_T72 l0 x10_1).f0))) (fun _ hk => hk.2) (.int .i64 ((rd_T72 l0 x10_1).f1))) (fun _ hk => hk.2) (.int .i64 ((rd_T72 l0 x10_1).f2))) (fun _ hk => hk.2) (.int .i64 ((rd_T72 l0 x10_1).f3))) (fun _ hk => hk.1.2))); (case aS => exact (below_size (by repeat (first | (with_reducible first | exact HB.out | apply below_alloc | apply pw_below_drewN | apply below_drew1 | refine below_set ?_ GE223.out) | exact HB.out)))); (case aL => have := LMc7.out; omega); intro v225 w10 ho hb hg hat; rw [← Ny224.out] at ho; have n0_ := Aside0.mk (blk_grown (g := gb223) (o := .cells #[.int .i64 ((rd_T72 l0 x10_1).f0), .int .i64 ((rd_T72 l0 x10_1).f1), .int .i64 ((rd_T72 l0 x10_1).f2), .int .i64 ((rd_T72 l0 x10_1).f3)] 72 (0, 0)) (by (with_reducible repeat (first | refine blk_drewN ?_ _ | refine blk_drew ?_ | refine blk_alloc ?_ _)); refine blk_put (cs := #[.int .i64 ((rd_T72 l0 x10_1).f0), .int .i64 ((rd_T72 l0 x10_1).f1), .int .i64 ((rd_T72 l0 x10_1).f2), .int .i64 0]) ?_ 3 _ rfl; (with_reducible repeat (first | refine blk_drewN ?_ _ | refine blk_drew ?_ | refine blk_alloc ?_ _)); refine blk_put (cs := #[.int .i64 ((rd_T72 l0 x10_1).f0), .int .i64 ((rd_T72 l0 x10_1).f1), .int .i64 0, .int .i64 0]) ?_ 2 _ rfl; (with_reducible repeat (first | refine blk_drewN ?_ _ | refine blk_drew ?_ | refine blk_alloc ?_ _)); refine blk_put (cs := #[.int .i64 ((rd_T72 l0 x10_1).f0), .int .i64 0, .int .i64 0, .int .i64 0]) ?_ 1 _ rfl; (with_reducible repeat (first | refine blk_drewN ?_ _ | refine blk_drew ?_ | refine blk_alloc ?_ _)); refine blk_put (cs := #[.int .i64 0, .int .i64 0, .int .i64 0, .int .i64 0]) ?_ 0 _ rfl; (with_reducible repeat (first | refine blk_drewN ?_ _ | refine blk_drew ?_ | refine blk_alloc ?_ _)); exact BK223.out) hg (Kd.R_away HO_5.out (fun _ hk => hk.2))); have n1_ := Aside0.mk (hb); have n2_ := Aside0.mk (ho); clear BK223; clear HB; clear HO_5; have BK223 := n0_; have HB := n1_; have HO226 := n2_; clear n0_ n1_ n2_; clear ho hb hg hat))
        go_roundg k1
        case measure => have := HK1.out; omega
        case rel => exact ⟨(y224), (wrap64 (x10_1 + 1)), (by first | rfl | (simp; done) | (simp only [emptyNe_, emptyEq_]; done) | (simp [*]; done)), H', ⟨by have := HK1.out; omega⟩, ⟨by (with_reducible repeat (first | apply Kd.R_alloc | apply Kd.R_drewN | apply Kd.R_drew)); exact Kd.R_mono HO226.out (fun _ hk => trivial)⟩, ⟨by repeat (first | (with_reducible first | exact HB.out | apply below_alloc | apply pw_below_drewN | apply below_drew1 | refine below_set ?_ GE223.out) | exact HB.out)⟩⟩
       ·rw [if_neg c7] at H
        exact absurd H (by simp)
      ·rw [if_neg c6] at H
       have c6b0 : (((rd_T72 l0 x10_1).f1) == a1) = false := beq_eq_false_iff_ne.mpr c6
       have c6b1 : (((rd_T72 l0 x10_1).f1) != a1) = true := bne_iff_ne.mpr c6
       have H' := Aside0.mk H
       clear H
       have p222 : 0 ≤ (x10_1 : Int) := of_decide_eq_true (by first | (with_reducible assumption) | assumption)
       have q222 : x10_1 < (l0.length : Int) := of_decide_eq_true (by first | (with_reducible assumption) | assumption)
       obtain ⟨ad222, e222, hx222_0, hx222_1, hx222_2, hx222_3⟩ := at_T72 HR0.out x10_1 p222 q222
       cases e222
       replace hx222_0 := (HB.out.cell (World.block_lt_of_cell? w _ hx222_0)).trans hx222_0
       replace hx222_1 := (HB.out.cell (World.block_lt_of_cell? w _ hx222_1)).trans hx222_1
       replace hx222_2 := (HB.out.cell (World.block_lt_of_cell? w _ hx222_2)).trans hx222_2
       replace hx222_3 := (HB.out.cell (World.block_lt_of_cell? w _ hx222_3)).trans hx222_3
       replace p222 := eq_true p222
       replace q222 := eq_true q222
       go_wp2_with (first | ((with_reducible refine gate_dst (N := 7) rfl ?_); refine box_event ?hg (N := 7) ?hd (cs := #[.int .i64 0, .int .i64 0, .int .i64 0, .int .i64 0]) (t := 72) ?hr ?_; (case hd => rfl); (case hg => rfl); (case hr => first | (go_simp; done) | (go_simp; rfl)); intro gb223 hg w11 hbox hb; have n0_ := Aside0.mk (Kd.R_below (Kd.R_elderB (by (with_reducible repeat (first | apply Kd.R_alloc | apply Kd.R_drewN | apply Kd.R_drew)); exact HO_5.out) gb223 (Nat.le_of_eq hg.symm)) hb); have n1_ := Aside0.mk (below_step (by repeat (first | (with_reducible first | exact HB.out | apply below_alloc | apply pw_below_drewN | apply below_drew1) | exact HB.out)) hb); have n2_ := Aside0.mk (hbox); have n3_ := Aside0.mk ((by rw [hg]; exact (below_size (by repeat (first | (with_reducible first | exact HB.out | apply below_alloc | apply pw_below_drewN | apply below_drew1) | exact HB.out))) : w.heap.size ≤ gb223)); have n4_ := Aside0.mk ((by rw [hg]; exact (below_size (by repeat (first | (with_reducible first | exact HB.out | apply below_alloc | apply pw_below_drewN | apply below_drew1) | exact HB.out))) : w.heap.size ≤ gb223)); clear HO_5; clear HB; have HO_5 := n0_; have HB := n1_; have BK223 := n2_; have GW223 := n3_; have GE223 := n4_; clear n0_ n1_ n2_ n3_ n4_; clear hb hbox hg; have hcz12_0 : w11.cell? ⟨gb223, 0, none⟩ = some (.int .i64 0) := (blk_cell BK223.out 0).trans rfl; have hcz12_1 : w11.cell? ⟨gb223, 1, none⟩ = some (.int .i64 0) := (blk_cell BK223.out 1).trans rfl; have hcz12_2 : w11.cell? ⟨gb223, 2, none⟩ = some (.int .i64 0) := (blk_cell BK223.out 2).trans rfl; have hcz12_3 : w11.cell? ⟨gb223, 3, none⟩ = some (.int .i64 0) := (blk_cell BK223.out 3).trans rfl; have hfz12_0 := blk_frozen BK223.out 0; have hfz12_1 := blk_frozen BK223.out 1; have hfz12_2 := blk_frozen BK223.out 2; have hfz12_3 := blk_frozen BK223.out 3))
       go_roundg k1
       case measure => have := HK1.out; omega
       case rel => exact ⟨(x5_1), (wrap64 (x10_1 + 1)), (by first | rfl | (simp; done) | (simp only [emptyNe_, emptyEq_]; done) | (simp [*]; done)), H', ⟨by have := HK1.out; omega⟩, ⟨by (with_reducible repeat (first | apply Kd.R_alloc | apply Kd.R_drewN | apply Kd.R_drew)); exact Kd.R_mono (Kd.R_far (p := ⟨gb223, 3, none⟩) (Kd.R_far (p := ⟨gb223, 2, none⟩) (Kd.R_far (p := ⟨gb223, 1, none⟩) (Kd.R_far (p := ⟨gb223, 0, none⟩) (Kd.R_mono HO_5.out (fun k_ hk => (⟨hk, hk.2⟩ : _ ∧ k_ ≠ gb223))) (fun _ hk => hk.2) (.int .i64 ((rd_T72 l0 x10_1).f0))) (fun _ hk => hk.2) (.int .i64 ((rd_T72 l0 x10_1).f1))) (fun _ hk => hk.2) (.int .i64 ((rd_T72 l0 x10_1).f2))) (fun _ hk => hk.2) (.int .i64 ((rd_T72 l0 x10_1).f3))) (fun _ hk => trivial)⟩, ⟨by repeat (first | (with_reducible first | exact HB.out | apply below_alloc | apply pw_below_drewN | apply below_drew1 | refine below_set ?_ GE223.out) | exact HB.out)⟩⟩
     ·rw [if_neg c5] at H
      exact absurd H (by simp)
    ·rw [if_neg c4] at H
     exact absurd H (by simp)
   ·rw [if_neg c3] at H
    have c3b0 : decide (x10_1 < (l0.length : Int)) = false := decide_eq_false c3
    clear c3
    obtain rfl := Option.some.inj H
    go_wp2
    go_ret
    exact ⟨_, by first | rfl | (simp [errW_none, errW_some] <;> rfl) | (simp [*, errW_none, errW_some] <;> rfl), by (with_reducible repeat (first | apply Kd.R_alloc | apply Kd.R_drewN | apply Kd.R_drew)); exact HO_5.out, by repeat (first | (with_reducible first | exact HB.out | apply below_alloc | apply pw_below_drewN | apply below_drew1) | exact HB.out)⟩
def logjamlaw41_lives.f (k : Nat)  : Option (Bool) := (trace_Parse.f k (⟨#[48, 32, 111, 112, 32, 111, 117, 116, 32, 48, 10, 48, 32, 111, 117, 116, 32, 50, 10, 116, 105, 99, 107, 32, 53, 10, 48, 32, 98, 108, 111, 99, 107, 32, 119, 97, 105, 116, 10, 48, 32, 101, 110, 100, 32, 102, 97, 117, 108, 116, 101, 100, 32, 50, 10]⟩ : ByteArray)).bind fun bt227 => ((o_Text.f bt227.1).bind fun bt231 => (if bt227.2 = 0 then (if bt231.2 = 0 then (if ([48, 32, 111, 112, 32, 111, 117, 116, 32, 48, 10, 48, 32, 111, 117, 116, 32, 50, 10, 116, 105, 99, 107, 32, 53, 10, 48, 32, 98, 108, 111, 99, 107, 32, 119, 97, 105, 116, 10, 48, 32, 101, 110, 100, 32, 102, 97, 117, 108, 116, 101, 100, 32, 50, 10] : List UInt8) = bt231.1.toList then (if (bt227.1.length : Int) = 5 then (if 1 < (bt227.1.length : Int) then (if (((rd_T72 bt227.1 1).f0) == 2 && (((rd_T72 bt227.1 1).f1) == 0 && (((rd_T72 bt227.1 1).f2) == 2 && (((rd_T72 bt227.1 1).f3) == 0)))) = true then ((trace_Check.f k 0 0 0 0).bind fun t234 => (if t234 = 6 then ((trace_Of.f k bt227.1 0).bind fun t235 => (some ((t235.length : Int) == 4))) else (some false))) else (some false)) else (none)) else (some false)) else (some false)) else (some false)) else (some false)))
set_option maxHeartbeats 8000000 in
set_option maxRecDepth 100000 in
theorem logjamlaw41_lives.calls (k : Nat)  (r : Bool) (w : World) (h : logjamlaw41_lives.f k  = some r) (hG : Gl w) :
  Calls Tryd.prog 51 #[] w fun e w' => e = .returned (.bool r) ∧ Below w.heap.size w w' := by
 have HG := Aside0.mk hG
 clear hG
 have hu72 := Tryd.underlying72
 have HB := Aside0.mk (Below.refl w.heap.size w)
 have H : ((trace_Parse.f k (⟨#[48, 32, 111, 112, 32, 111, 117, 116, 32, 48, 10, 48, 32, 111, 117, 116, 32, 50, 10, 116, 105, 99, 107, 32, 53, 10, 48, 32, 98, 108, 111, 99, 107, 32, 119, 97, 105, 116, 10, 48, 32, 101, 110, 100, 32, 102, 97, 117, 108, 116, 101, 100, 32, 50, 10]⟩ : ByteArray)).bind fun bt227 => ((o_Text.f bt227.1).bind fun bt231 => (if bt227.2 = 0 then (if bt231.2 = 0 then (if ([48, 32, 111, 112, 32, 111, 117, 116, 32, 48, 10, 48, 32, 111, 117, 116, 32, 50, 10, 116, 105, 99, 107, 32, 53, 10, 48, 32, 98, 108, 111, 99, 107, 32, 119, 97, 105, 116, 10, 48, 32, 101, 110, 100, 32, 102, 97, 117, 108, 116, 101, 100, 32, 50, 10] : List UInt8) = bt231.1.toList then (if (bt227.1.length : Int) = 5 then (if 1 < (bt227.1.length : Int) then (if (((rd_T72 bt227.1 1).f0) == 2 && (((rd_T72 bt227.1 1).f1) == 0 && (((rd_T72 bt227.1 1).f2) == 2 && (((rd_T72 bt227.1 1).f3) == 0)))) = true then ((trace_Check.f k 0 0 0 0).bind fun t234 => (if t234 = 6 then ((trace_Of.f k bt227.1 0).bind fun t235 => (some ((t235.length : Int) == 4))) else (some false))) else (some false)) else (none)) else (some false)) else (some false)) else (some false)) else (some false)))) = some r := h
 clear h
 replace H := Option.bind_eq_some_iff.mp H
 obtain ⟨⟨t227, t228⟩, A10, H⟩ := H
 replace H : ((o_Text.f t227).bind fun bt231 => (if t228 = 0 then (if bt231.2 = 0 then (if ([48, 32, 111, 112, 32, 111, 117, 116, 32, 48, 10, 48, 32, 111, 117, 116, 32, 50, 10, 116, 105, 99, 107, 32, 53, 10, 48, 32, 98, 108, 111, 99, 107, 32, 119, 97, 105, 116, 10, 48, 32, 101, 110, 100, 32, 102, 97, 117, 108, 116, 101, 100, 32, 50, 10] : List UInt8) = bt231.1.toList then (if (t227.length : Int) = 5 then (if 1 < (t227.length : Int) then (if (((rd_T72 t227 1).f0) == 2 && (((rd_T72 t227 1).f1) == 0 && (((rd_T72 t227 1).f2) == 2 && (((rd_T72 t227 1).f3) == 0)))) = true then ((trace_Check.f k 0 0 0 0).bind fun t234 => (if t234 = 6 then ((trace_Of.f k t227 0).bind fun t235 => (some ((t235.length : Int) == 4))) else (some false))) else (some false)) else (none)) else (some false)) else (some false)) else (some false)) else (some false))) = some r := H
 have A1 := Aside0.mk A10
 clear A10
 replace H := Option.bind_eq_some_iff.mp H
 obtain ⟨⟨t231, t232⟩, A20, H⟩ := H
 replace H : (if t228 = 0 then (if t232 = 0 then (if ([48, 32, 111, 112, 32, 111, 117, 116, 32, 48, 10, 48, 32, 111, 117, 116, 32, 50, 10, 116, 105, 99, 107, 32, 53, 10, 48, 32, 98, 108, 111, 99, 107, 32, 119, 97, 105, 116, 10, 48, 32, 101, 110, 100, 32, 102, 97, 117, 108, 116, 101, 100, 32, 50, 10] : List UInt8) = t231.toList then (if (t227.length : Int) = 5 then (if 1 < (t227.length : Int) then (if (((rd_T72 t227 1).f0) == 2 && (((rd_T72 t227 1).f1) == 0 && (((rd_T72 t227 1).f2) == 2 && (((rd_T72 t227 1).f3) == 0)))) = true then ((trace_Check.f k 0 0 0 0).bind fun t234 => (if t234 = 6 then ((trace_Of.f k t227 0).bind fun t235 => (some ((t235.length : Int) == 4))) else (some false))) else (some false)) else (none)) else (some false)) else (some false)) else (some false)) else (some false)) = some r := H
 have A2 := Aside0.mk A20
 clear A20
 by_cases c3 : t228 = 0
 ·rw [if_pos c3] at H
  have c3b0 : (t228 == 0) = true := beq_iff_eq.mpr c3
  have c3b1 : (t228 != 0) = false := bne_eq_false_iff_eq.mpr c3
  clear c3
  by_cases c4 : t232 = 0
  ·rw [if_pos c4] at H
   have c4b0 : (t232 == 0) = true := beq_iff_eq.mpr c4
   have c4b1 : (t232 != 0) = false := bne_eq_false_iff_eq.mpr c4
   clear c4
   by_cases c5 : ([48, 32, 111, 112, 32, 111, 117, 116, 32, 48, 10, 48, 32, 111, 117, 116, 32, 50, 10, 116, 105, 99, 107, 32, 53, 10, 48, 32, 98, 108, 111, 99, 107, 32, 119, 97, 105, 116, 10, 48, 32, 101, 110, 100, 32, 102, 97, 117, 108, 116, 101, 100, 32, 50, 10] : List UInt8) = t231.toList
   ·rw [if_pos c5] at H
    have c5b0 : (([48, 32, 111, 112, 32, 111, 117, 116, 32, 48, 10, 48, 32, 111, 117, 116, 32, 50, 10, 116, 105, 99, 107, 32, 53, 10, 48, 32, 98, 108, 111, 99, 107, 32, 119, 97, 105, 116, 10, 48, 32, 101, 110, 100, 32, 102, 97, 117, 108, 116, 101, 100, 32, 50, 10] : List UInt8) == t231.toList) = true := beq_iff_eq.mpr c5
    have c5b1 : (([48, 32, 111, 112, 32, 111, 117, 116, 32, 48, 10, 48, 32, 111, 117, 116, 32, 50, 10, 116, 105, 99, 107, 32, 53, 10, 48, 32, 98, 108, 111, 99, 107, 32, 119, 97, 105, 116, 10, 48, 32, 101, 110, 100, 32, 102, 97, 117, 108, 116, 101, 100, 32, 50, 10] : List UInt8) != t231.toList) = false := bne_eq_false_iff_eq.mpr c5
    clear c5
    by_cases c6 : (t227.length : Int) = 5
    ·rw [if_pos c6] at H
     have c6b0 : ((t227.length : Int) == 5) = true := beq_iff_eq.mpr c6
     have c6b1 : ((t227.length : Int) != 5) = false := bne_eq_false_iff_eq.mpr c6
     clear c6
     by_cases c7 : 1 < (t227.length : Int)
     ·rw [if_pos c7] at H
      have c7b0 : decide (1 < (t227.length : Int)) = true := decide_eq_true c7
      have c7b1 : decide (1 < t227.length) = true := decide_eq_true (by omega)
      clear c7
      by_cases c8 : (((rd_T72 t227 1).f0) == 2 && (((rd_T72 t227 1).f1) == 0 && (((rd_T72 t227 1).f2) == 2 && (((rd_T72 t227 1).f3) == 0)))) = true
      ·rw [if_pos c8] at H
       have c8b0 : (((rd_T72 t227 1).f0) == 2 && (((rd_T72 t227 1).f1) == 0 && (((rd_T72 t227 1).f2) == 2 && (((rd_T72 t227 1).f3) == 0)))) = true := c8
       (try (have c8b1 : decide (((rd_T72 t227 1).f0) = 2 && (((rd_T72 t227 1).f1) == 0 && (((rd_T72 t227 1).f2) == 2 && (((rd_T72 t227 1).f3) == 0)))) = true := by simpa using c8))
       (try (have c8b2 : (((rd_T72 t227 1).f0) == 2 && (((rd_T72 t227 1).f1) == 0 && (((rd_T72 t227 1).f2) == 2 && (((rd_T72 t227 1).f3) == 0)))) = true := by simpa using c8))
       clear c8
       replace H := Option.bind_eq_some_iff.mp H
       obtain ⟨t234, A90, H⟩ := H
       replace H : (if t234 = 6 then ((trace_Of.f k t227 0).bind fun t235 => (some ((t235.length : Int) == 4))) else (some false)) = some r := H
       have A9 := Aside0.mk A90
       clear A90
       by_cases c10 : t234 = 6
       ·rw [if_pos c10] at H
        have c10b0 : (t234 == 6) = true := beq_iff_eq.mpr c10
        have c10b1 : (t234 != 6) = false := bne_eq_false_iff_eq.mpr c10
        clear c10
        replace H := Option.bind_eq_some_iff.mp H
        obtain ⟨t235, A110, H⟩ := H
        replace H : (some ((t235.length : Int) == 4)) = some r := H
        have A11 := Aside0.mk A110
        clear A110
        obtain rfl := Option.some.inj H
        go_enter Tryd.func51, Tryd.ntmps51
        go_wp2_with (first | ((with_reducible refine gate_callee (f := 52) rfl ?_); refine goesL_ (some 8) rfl rfl Tryd.func52 (by kernel_rfl) rfl #[.string (⟨#[48, 32, 111, 112, 32, 111, 117, 116, 32, 48, 10, 48, 32, 111, 117, 116, 32, 50, 10, 116, 105, 99, 107, 32, 53, 10, 48, 32, 98, 108, 111, 99, 107, 32, 119, 97, 105, 116, 10, 48, 32, 101, 110, 100, 32, 102, 97, 117, 108, 116, 101, 100, 32, 50, 10]⟩ : ByteArray)] rfl (by (try simp only [List.map_toArray, List.map_cons, List.map_nil]); first | done | rfl | (simp only [List.length_drop, List.length_take]; rfl)) ?_; (with_reducible refine (trace_Parse.calls k (⟨#[48, 32, 111, 112, 32, 111, 117, 116, 32, 48, 10, 48, 32, 111, 117, 116, 32, 50, 10, 116, 105, 99, 107, 32, 53, 10, 48, 32, 98, 108, 111, 99, 107, 32, 119, 97, 105, 116, 10, 48, 32, 101, 110, 100, 32, 102, 97, 117, 108, 116, 101, 100, 32, 50, 10]⟩ : ByteArray) t227 t228 _ A1.out ?side1).mono ?_); (case side1 => exact Gl.below HG.out (by repeat (first | (with_reducible first | exact HB.out | apply below_alloc | apply pw_below_drewN | apply below_drew1) | exact HB.out))); rintro e w12 ⟨v229, rfl, ho0, hb⟩; refine ⟨_, rfl, ?_⟩; have n0_ := Aside0.mk (Kd.R_lower ho0 (below_size (by repeat (first | (with_reducible first | exact HB.out | apply below_alloc | apply pw_below_drewN | apply below_drew1) | exact HB.out)))); have n1_ := Aside0.mk (below_step (by repeat (first | (with_reducible first | exact HB.out | apply below_alloc | apply pw_below_drewN | apply below_drew1) | exact HB.out)) hb); clear HB; have HO230 := n0_; have HB := n1_; clear n0_ n1_; (try clear hb); (try clear hb2); (try clear hk); (try clear hi); (try clear ho0); obtain ⟨Ao13, co13, eo13⟩ := Kd.R_slice HO230.out; subst eo13) | ((with_reducible refine gate_callee (f := 48) rfl ?_); refine goesL_ (some 13) rfl rfl Tryd.func48 (by kernel_rfl) rfl #[.slice Ao13 t227.length co13] rfl (by (try simp only [List.map_toArray, List.map_cons, List.map_nil]); first | done | rfl | (simp only [List.length_drop, List.length_take]; rfl)) ?_; (with_reducible refine (o_Text.calls _ _ t227 t231 t232 _ ?side1 ?side2 A2.out ?side3).mono ?_); (case side1 => repeat (first | exact (Kd.R_reads' HO230.out).2.2 | (with_reducible refine Kd.C_alloc ?_ _) | (with_reducible refine Kd.C_drewN ?_ _) | (with_reducible refine Kd.C_drew ?_))); (case side2 => exact (Kd.R_reads' HO230.out).2.1); (case side3 => exact Gl.below HG.out (by repeat (first | (with_reducible first | exact HB.out | apply below_alloc | apply pw_below_drewN | apply below_drew1) | exact HB.out))); rintro e w14 ⟨rfl, hb⟩; refine ⟨_, rfl, ?_⟩; have n0_ := Aside0.mk (Kd.R_below (by (with_reducible repeat (first | apply Kd.R_alloc | apply Kd.R_drewN | apply Kd.R_drew)); exact HO230.out) hb); have n1_ := Aside0.mk (below_step (by repeat (first | (with_reducible first | exact HB.out | apply below_alloc | apply pw_below_drewN | apply below_drew1) | exact HB.out)) hb); clear HO230; clear HB; have HO230 := n0_; have HB := n1_; clear n0_ n1_; (try clear hb); (try clear hb2); (try clear hk); (try clear hi); have p233 : 0 ≤ (1 : Int) := (by omega); have q233 : 1 < (t227.length : Int) := of_decide_eq_true (by first | (with_reducible assumption) | assumption); obtain ⟨ad233, e233, hx233_0, hx233_1, hx233_2, hx233_3⟩ := at_T72 (Kd.R_reads' HO230.out).2.2 1 p233 q233; cases e233; (try simp only [show (1 : Int).toNat = 1 from rfl, Nat.reduceMul, Nat.reduceEqDiff, Go.Addr.add, ↓reduceIte] at hx233_0); (try simp only [show (1 : Int).toNat = 1 from rfl, Nat.reduceMul, Nat.reduceEqDiff, Go.Addr.add, ↓reduceIte] at hx233_1); (try simp only [show (1 : Int).toNat = 1 from rfl, Nat.reduceMul, Nat.reduceEqDiff, Go.Addr.add, ↓reduceIte] at hx233_2); (try simp only [show (1 : Int).toNat = 1 from rfl, Nat.reduceMul, Nat.reduceEqDiff, Go.Addr.add, ↓reduceIte] at hx233_3); have qi233 : (1 < t227.length) = True := eq_true (by omega); (try rw [show ((1 : Int)).toNat = 1 from rfl] at hx233_0); (try rw [show 1 * 4 = 4 from rfl] at hx233_0); (try rw [show ((1 : Int)).toNat = 1 from rfl] at hx233_1); (try rw [show 1 * 4 = 4 from rfl] at hx233_1); (try rw [show ((1 : Int)).toNat = 1 from rfl] at hx233_2); (try rw [show 1 * 4 = 4 from rfl] at hx233_2); (try rw [show ((1 : Int)).toNat = 1 from rfl] at hx233_3); (try rw [show 1 * 4 = 4 from rfl] at hx233_3); replace p233 := eq_true p233; replace q233 := eq_true q233) | (go_at_call 50; (with_reducible refine (trace_Check.calls k 0 0 0 0 t234 _ A9.out ?side1).mono ?_); (case side1 => exact Gl.below HG.out (by repeat (first | (with_reducible first | exact HB.out | apply below_alloc | apply pw_below_drewN | apply below_drew1) | exact HB.out))); rintro e w15 ⟨rfl, hb⟩; have n0_ := Aside0.mk (Kd.R_below (by (with_reducible repeat (first | apply Kd.R_alloc | apply Kd.R_drewN | apply Kd.R_drew)); exact HO230.out) hb); have n1_ := Aside0.mk (below_step (by repeat (first | (with_reducible first | exact HB.out | apply below_alloc | apply pw_below_drewN | apply below_drew1) | exact HB.out)) hb); clear HO230; clear HB; have HO230 := n0_; have HB := n1_; clear n0_ n1_; (try clear hb); (try clear hb2); (try clear hk); (try clear hi)) | (go_at_call 95; (with_reducible refine (trace_Of.calls k _ _ t227 0 t235 _ ?side1 ?side2 A11.out).mono ?_); (case side1 => repeat (first | exact (Kd.R_reads' HO230.out).2.2 | (with_reducible refine Kd.C_alloc ?_ _) | (with_reducible refine Kd.C_drewN ?_ _) | (with_reducible refine Kd.C_drew ?_))); (case side2 => exact (Kd.R_reads' HO230.out).2.1); rintro e w16 ⟨v236, rfl, ho0, hb⟩; have n0_ := Aside0.mk (Kd.R_elder' (by (with_reducible repeat (first | apply Kd.R_alloc | apply Kd.R_drewN | apply Kd.R_drew)); exact HO230.out) (Kd.R_base ho0) hb); have n1_ := Aside0.mk (Kd.R_lower (Kd.R_new' ho0 (Kd.R_lt (by (with_reducible repeat (first | apply Kd.R_alloc | apply Kd.R_drewN | apply Kd.R_drew)); exact HO230.out))) (below_size (by repeat (first | (with_reducible first | exact HB.out | apply below_alloc | apply pw_below_drewN | apply below_drew1) | exact HB.out)))); have n2_ := Aside0.mk (below_step (by repeat (first | (with_reducible first | exact HB.out | apply below_alloc | apply pw_below_drewN | apply below_drew1) | exact HB.out)) hb); clear HO230; clear HB; have HO230 := n0_; have HO237 := n1_; have HB := n2_; clear n0_ n1_ n2_; (try clear hb); (try clear hb2); (try clear hk); (try clear hi); (try clear ho0); obtain ⟨Ao17, co17, eo17⟩ := Kd.R_slice HO237.out; subst eo17))
        go_ret
        exact ⟨by first | rfl | (simp [errW_none, errW_some] <;> rfl) | (simp [*, errW_none, errW_some] <;> rfl), by repeat (first | (with_reducible first | exact HB.out | apply below_alloc | apply pw_below_drewN | apply below_drew1) | exact HB.out)⟩
       ·rw [if_neg c10] at H
        have c10b0 : (t234 == 6) = false := beq_eq_false_iff_ne.mpr c10
        have c10b1 : (t234 != 6) = true := bne_iff_ne.mpr c10
        obtain rfl := Option.some.inj H
        go_enter Tryd.func51, Tryd.ntmps51
        go_wp2_with (first | ((with_reducible refine gate_callee (f := 52) rfl ?_); refine goesL_ (some 8) rfl rfl Tryd.func52 (by kernel_rfl) rfl #[.string (⟨#[48, 32, 111, 112, 32, 111, 117, 116, 32, 48, 10, 48, 32, 111, 117, 116, 32, 50, 10, 116, 105, 99, 107, 32, 53, 10, 48, 32, 98, 108, 111, 99, 107, 32, 119, 97, 105, 116, 10, 48, 32, 101, 110, 100, 32, 102, 97, 117, 108, 116, 101, 100, 32, 50, 10]⟩ : ByteArray)] rfl (by (try simp only [List.map_toArray, List.map_cons, List.map_nil]); first | done | rfl | (simp only [List.length_drop, List.length_take]; rfl)) ?_; (with_reducible refine (trace_Parse.calls k (⟨#[48, 32, 111, 112, 32, 111, 117, 116, 32, 48, 10, 48, 32, 111, 117, 116, 32, 50, 10, 116, 105, 99, 107, 32, 53, 10, 48, 32, 98, 108, 111, 99, 107, 32, 119, 97, 105, 116, 10, 48, 32, 101, 110, 100, 32, 102, 97, 117, 108, 116, 101, 100, 32, 50, 10]⟩ : ByteArray) t227 t228 _ A1.out ?side1).mono ?_); (case side1 => exact Gl.below HG.out (by repeat (first | (with_reducible first | exact HB.out | apply below_alloc | apply pw_below_drewN | apply below_drew1) | exact HB.out))); rintro e w18 ⟨v229, rfl, ho0, hb⟩; refine ⟨_, rfl, ?_⟩; have n0_ := Aside0.mk (Kd.R_lower ho0 (below_size (by repeat (first | (with_reducible first | exact HB.out | apply below_alloc | apply pw_below_drewN | apply below_drew1) | exact HB.out)))); have n1_ := Aside0.mk (below_step (by repeat (first | (with_reducible first | exact HB.out | apply below_alloc | apply pw_below_drewN | apply below_drew1) | exact HB.out)) hb); clear HB; have HO230 := n0_; have HB := n1_; clear n0_ n1_; (try clear hb); (try clear hb2); (try clear hk); (try clear hi); (try clear ho0); obtain ⟨Ao19, co19, eo19⟩ := Kd.R_slice HO230.out; subst eo19) | ((with_reducible refine gate_callee (f := 48) rfl ?_); refine goesL_ (some 13) rfl rfl Tryd.func48 (by kernel_rfl) rfl #[.slice Ao19 t227.length co19] rfl (by (try simp only [List.map_toArray, List.map_cons, List.map_nil]); first | done | rfl | (simp only [List.length_drop, List.length_take]; rfl)) ?_; (with_reducible refine (o_Text.calls _ _ t227 t231 t232 _ ?side1 ?side2 A2.out ?side3).mono ?_); (case side1 => repeat (first | exact (Kd.R_reads' HO230.out).2.2 | (with_reducible refine Kd.C_alloc ?_ _) | (with_reducible refine Kd.C_drewN ?_ _) | (with_reducible refine Kd.C_drew ?_))); (case side2 => exact (Kd.R_reads' HO230.out).2.1); (case side3 => exact Gl.below HG.out (by repeat (first | (with_reducible first | exact HB.out | apply below_alloc | apply pw_below_drewN | apply below_drew1) | exact HB.out))); rintro e w20 ⟨rfl, hb⟩; refine ⟨_, rfl, ?_⟩; have n0_ := Aside0.mk (Kd.R_below (by (with_reducible repeat (first | apply Kd.R_alloc | apply Kd.R_drewN | apply Kd.R_drew)); exact HO230.out) hb); have n1_ := Aside0.mk (below_step (by repeat (first | (with_reducible first | exact HB.out | apply below_alloc | apply pw_below_drewN | apply below_drew1) | exact HB.out)) hb); clear HO230; clear HB; have HO230 := n0_; have HB := n1_; clear n0_ n1_; (try clear hb); (try clear hb2); (try clear hk); (try clear hi); have p233 : 0 ≤ (1 : Int) := (by omega); have q233 : 1 < (t227.length : Int) := of_decide_eq_true (by first | (with_reducible assumption) | assumption); obtain ⟨ad233, e233, hx233_0, hx233_1, hx233_2, hx233_3⟩ := at_T72 (Kd.R_reads' HO230.out).2.2 1 p233 q233; cases e233; (try simp only [show (1 : Int).toNat = 1 from rfl, Nat.reduceMul, Nat.reduceEqDiff, Go.Addr.add, ↓reduceIte] at hx233_0); (try simp only [show (1 : Int).toNat = 1 from rfl, Nat.reduceMul, Nat.reduceEqDiff, Go.Addr.add, ↓reduceIte] at hx233_1); (try simp only [show (1 : Int).toNat = 1 from rfl, Nat.reduceMul, Nat.reduceEqDiff, Go.Addr.add, ↓reduceIte] at hx233_2); (try simp only [show (1 : Int).toNat = 1 from rfl, Nat.reduceMul, Nat.reduceEqDiff, Go.Addr.add, ↓reduceIte] at hx233_3); have qi233 : (1 < t227.length) = True := eq_true (by omega); (try rw [show ((1 : Int)).toNat = 1 from rfl] at hx233_0); (try rw [show 1 * 4 = 4 from rfl] at hx233_0); (try rw [show ((1 : Int)).toNat = 1 from rfl] at hx233_1); (try rw [show 1 * 4 = 4 from rfl] at hx233_1); (try rw [show ((1 : Int)).toNat = 1 from rfl] at hx233_2); (try rw [show 1 * 4 = 4 from rfl] at hx233_2); (try rw [show ((1 : Int)).toNat = 1 from rfl] at hx233_3); (try rw [show 1 * 4 = 4 from rfl] at hx233_3); replace p233 := eq_true p233; replace q233 := eq_true q233) | (go_at_call 50; (with_reducible refine (trace_Check.calls k 0 0 0 0 t234 _ A9.out ?side1).mono ?_); (case side1 => exact Gl.below HG.out (by repeat (first | (with_reducible first | exact HB.out | apply below_alloc | apply pw_below_drewN | apply below_drew1) | exact HB.out))); rintro e w21 ⟨rfl, hb⟩; have n0_ := Aside0.mk (Kd.R_below (by (with_reducible repeat (first | apply Kd.R_alloc | apply Kd.R_drewN | apply Kd.R_drew)); exact HO230.out) hb); have n1_ := Aside0.mk (below_step (by repeat (first | (with_reducible first | exact HB.out | apply below_alloc | apply pw_below_drewN | apply below_drew1) | exact HB.out)) hb); clear HO230; clear HB; have HO230 := n0_; have HB := n1_; clear n0_ n1_; (try clear hb); (try clear hb2); (try clear hk); (try clear hi)))
        go_ret
        exact ⟨by first | rfl | (simp [errW_none, errW_some] <;> rfl) | (simp [*, errW_none, errW_some] <;> rfl), by repeat (first | (with_reducible first | exact HB.out | apply below_alloc | apply pw_below_drewN | apply below_drew1) | exact HB.out)⟩
      ·rw [if_neg c8] at H
       have c8b0 : (((rd_T72 t227 1).f0) == 2 && (((rd_T72 t227 1).f1) == 0 && (((rd_T72 t227 1).f2) == 2 && (((rd_T72 t227 1).f3) == 0)))) = false := by simpa using c8
       (try (have c8b1 : decide (((rd_T72 t227 1).f0) = 2 && (((rd_T72 t227 1).f1) == 0 && (((rd_T72 t227 1).f2) == 2 && (((rd_T72 t227 1).f3) == 0)))) = false := by simpa using c8))
       (try (have c8b2 : (((rd_T72 t227 1).f0) == 2 && (((rd_T72 t227 1).f1) == 0 && (((rd_T72 t227 1).f2) == 2 && (((rd_T72 t227 1).f3) == 0)))) = false := by simpa using c8))
       (try (have c8b3 : ¬ (((rd_T72 t227 1).f0) = 2 && (((rd_T72 t227 1).f1) == 0 && (((rd_T72 t227 1).f2) == 2 && (((rd_T72 t227 1).f3) == 0)))) := by simpa using c8))
       clear c8
       obtain rfl := Option.some.inj H
       go_enter Tryd.func51, Tryd.ntmps51
       go_wp2_with (first | ((with_reducible refine gate_callee (f := 52) rfl ?_); refine goesL_ (some 8) rfl rfl Tryd.func52 (by kernel_rfl) rfl #[.string (⟨#[48, 32, 111, 112, 32, 111, 117, 116, 32, 48, 10, 48, 32, 111, 117, 116, 32, 50, 10, 116, 105, 99, 107, 32, 53, 10, 48, 32, 98, 108, 111, 99, 107, 32, 119, 97, 105, 116, 10, 48, 32, 101, 110, 100, 32, 102, 97, 117, 108, 116, 101, 100, 32, 50, 10]⟩ : ByteArray)] rfl (by (try simp only [List.map_toArray, List.map_cons, List.map_nil]); first | done | rfl | (simp only [List.length_drop, List.length_take]; rfl)) ?_; (with_reducible refine (trace_Parse.calls k (⟨#[48, 32, 111, 112, 32, 111, 117, 116, 32, 48, 10, 48, 32, 111, 117, 116, 32, 50, 10, 116, 105, 99, 107, 32, 53, 10, 48, 32, 98, 108, 111, 99, 107, 32, 119, 97, 105, 116, 10, 48, 32, 101, 110, 100, 32, 102, 97, 117, 108, 116, 101, 100, 32, 50, 10]⟩ : ByteArray) t227 t228 _ A1.out ?side1).mono ?_); (case side1 => exact Gl.below HG.out (by repeat (first | (with_reducible first | exact HB.out | apply below_alloc | apply pw_below_drewN | apply below_drew1) | exact HB.out))); rintro e w22 ⟨v229, rfl, ho0, hb⟩; refine ⟨_, rfl, ?_⟩; have n0_ := Aside0.mk (Kd.R_lower ho0 (below_size (by repeat (first | (with_reducible first | exact HB.out | apply below_alloc | apply pw_below_drewN | apply below_drew1) | exact HB.out)))); have n1_ := Aside0.mk (below_step (by repeat (first | (with_reducible first | exact HB.out | apply below_alloc | apply pw_below_drewN | apply below_drew1) | exact HB.out)) hb); clear HB; have HO230 := n0_; have HB := n1_; clear n0_ n1_; (try clear hb); (try clear hb2); (try clear hk); (try clear hi); (try clear ho0); obtain ⟨Ao23, co23, eo23⟩ := Kd.R_slice HO230.out; subst eo23) | ((with_reducible refine gate_callee (f := 48) rfl ?_); refine goesL_ (some 13) rfl rfl Tryd.func48 (by kernel_rfl) rfl #[.slice Ao23 t227.length co23] rfl (by (try simp only [List.map_toArray, List.map_cons, List.map_nil]); first | done | rfl | (simp only [List.length_drop, List.length_take]; rfl)) ?_; (with_reducible refine (o_Text.calls _ _ t227 t231 t232 _ ?side1 ?side2 A2.out ?side3).mono ?_); (case side1 => repeat (first | exact (Kd.R_reads' HO230.out).2.2 | (with_reducible refine Kd.C_alloc ?_ _) | (with_reducible refine Kd.C_drewN ?_ _) | (with_reducible refine Kd.C_drew ?_))); (case side2 => exact (Kd.R_reads' HO230.out).2.1); (case side3 => exact Gl.below HG.out (by repeat (first | (with_reducible first | exact HB.out | apply below_alloc | apply pw_below_drewN | apply below_drew1) | exact HB.out))); rintro e w24 ⟨rfl, hb⟩; refine ⟨_, rfl, ?_⟩; have n0_ := Aside0.mk (Kd.R_below (by (with_reducible repeat (first | apply Kd.R_alloc | apply Kd.R_drewN | apply Kd.R_drew)); exact HO230.out) hb); have n1_ := Aside0.mk (below_step (by repeat (first | (with_reducible first | exact HB.out | apply below_alloc | apply pw_below_drewN | apply below_drew1) | exact HB.out)) hb); clear HO230; clear HB; have HO230 := n0_; have HB := n1_; clear n0_ n1_; (try clear hb); (try clear hb2); (try clear hk); (try clear hi); have p233 : 0 ≤ (1 : Int) := (by omega); have q233 : 1 < (t227.length : Int) := of_decide_eq_true (by first | (with_reducible assumption) | assumption); obtain ⟨ad233, e233, hx233_0, hx233_1, hx233_2, hx233_3⟩ := at_T72 (Kd.R_reads' HO230.out).2.2 1 p233 q233; cases e233; (try simp only [show (1 : Int).toNat = 1 from rfl, Nat.reduceMul, Nat.reduceEqDiff, Go.Addr.add, ↓reduceIte] at hx233_0); (try simp only [show (1 : Int).toNat = 1 from rfl, Nat.reduceMul, Nat.reduceEqDiff, Go.Addr.add, ↓reduceIte] at hx233_1); (try simp only [show (1 : Int).toNat = 1 from rfl, Nat.reduceMul, Nat.reduceEqDiff, Go.Addr.add, ↓reduceIte] at hx233_2); (try simp only [show (1 : Int).toNat = 1 from rfl, Nat.reduceMul, Nat.reduceEqDiff, Go.Addr.add, ↓reduceIte] at hx233_3); have qi233 : (1 < t227.length) = True := eq_true (by omega); (try rw [show ((1 : Int)).toNat = 1 from rfl] at hx233_0); (try rw [show 1 * 4 = 4 from rfl] at hx233_0); (try rw [show ((1 : Int)).toNat = 1 from rfl] at hx233_1); (try rw [show 1 * 4 = 4 from rfl] at hx233_1); (try rw [show ((1 : Int)).toNat = 1 from rfl] at hx233_2); (try rw [show 1 * 4 = 4 from rfl] at hx233_2); (try rw [show ((1 : Int)).toNat = 1 from rfl] at hx233_3); (try rw [show 1 * 4 = 4 from rfl] at hx233_3); replace p233 := eq_true p233; replace q233 := eq_true q233))
       go_ret
       exact ⟨by first | rfl | (simp [errW_none, errW_some] <;> rfl) | (simp [*, errW_none, errW_some] <;> rfl), by repeat (first | (with_reducible first | exact HB.out | apply below_alloc | apply pw_below_drewN | apply below_drew1) | exact HB.out)⟩
     ·rw [if_neg c7] at H
      exact absurd H (by simp)
    ·rw [if_neg c6] at H
     have c6b0 : ((t227.length : Int) == 5) = false := beq_eq_false_iff_ne.mpr c6
     have c6b1 : ((t227.length : Int) != 5) = true := bne_iff_ne.mpr c6
     obtain rfl := Option.some.inj H
     go_enter Tryd.func51, Tryd.ntmps51
     go_wp2_with (first | ((with_reducible refine gate_callee (f := 52) rfl ?_); refine goesL_ (some 8) rfl rfl Tryd.func52 (by kernel_rfl) rfl #[.string (⟨#[48, 32, 111, 112, 32, 111, 117, 116, 32, 48, 10, 48, 32, 111, 117, 116, 32, 50, 10, 116, 105, 99, 107, 32, 53, 10, 48, 32, 98, 108, 111, 99, 107, 32, 119, 97, 105, 116, 10, 48, 32, 101, 110, 100, 32, 102, 97, 117, 108, 116, 101, 100, 32, 50, 10]⟩ : ByteArray)] rfl (by (try simp only [List.map_toArray, List.map_cons, List.map_nil]); first | done | rfl | (simp only [List.length_drop, List.length_take]; rfl)) ?_; (with_reducible refine (trace_Parse.calls k (⟨#[48, 32, 111, 112, 32, 111, 117, 116, 32, 48, 10, 48, 32, 111, 117, 116, 32, 50, 10, 116, 105, 99, 107, 32, 53, 10, 48, 32, 98, 108, 111, 99, 107, 32, 119, 97, 105, 116, 10, 48, 32, 101, 110, 100, 32, 102, 97, 117, 108, 116, 101, 100, 32, 50, 10]⟩ : ByteArray) t227 t228 _ A1.out ?side1).mono ?_); (case side1 => exact Gl.below HG.out (by repeat (first | (with_reducible first | exact HB.out | apply below_alloc | apply pw_below_drewN | apply below_drew1) | exact HB.out))); rintro e w25 ⟨v229, rfl, ho0, hb⟩; refine ⟨_, rfl, ?_⟩; have n0_ := Aside0.mk (Kd.R_lower ho0 (below_size (by repeat (first | (with_reducible first | exact HB.out | apply below_alloc | apply pw_below_drewN | apply below_drew1) | exact HB.out)))); have n1_ := Aside0.mk (below_step (by repeat (first | (with_reducible first | exact HB.out | apply below_alloc | apply pw_below_drewN | apply below_drew1) | exact HB.out)) hb); clear HB; have HO230 := n0_; have HB := n1_; clear n0_ n1_; (try clear hb); (try clear hb2); (try clear hk); (try clear hi); (try clear ho0); obtain ⟨Ao26, co26, eo26⟩ := Kd.R_slice HO230.out; subst eo26) | ((with_reducible refine gate_callee (f := 48) rfl ?_); refine goesL_ (some 13) rfl rfl Tryd.func48 (by kernel_rfl) rfl #[.slice Ao26 t227.length co26] rfl (by (try simp only [List.map_toArray, List.map_cons, List.map_nil]); first | done | rfl | (simp only [List.length_drop, List.length_take]; rfl)) ?_; (with_reducible refine (o_Text.calls _ _ t227 t231 t232 _ ?side1 ?side2 A2.out ?side3).mono ?_); (case side1 => repeat (first | exact (Kd.R_reads' HO230.out).2.2 | (with_reducible refine Kd.C_alloc ?_ _) | (with_reducible refine Kd.C_drewN ?_ _) | (with_reducible refine Kd.C_drew ?_))); (case side2 => exact (Kd.R_reads' HO230.out).2.1); (case side3 => exact Gl.below HG.out (by repeat (first | (with_reducible first | exact HB.out | apply below_alloc | apply pw_below_drewN | apply below_drew1) | exact HB.out))); rintro e w27 ⟨rfl, hb⟩; refine ⟨_, rfl, ?_⟩; have n0_ := Aside0.mk (Kd.R_below (by (with_reducible repeat (first | apply Kd.R_alloc | apply Kd.R_drewN | apply Kd.R_drew)); exact HO230.out) hb); have n1_ := Aside0.mk (below_step (by repeat (first | (with_reducible first | exact HB.out | apply below_alloc | apply pw_below_drewN | apply below_drew1) | exact HB.out)) hb); clear HO230; clear HB; have HO230 := n0_; have HB := n1_; clear n0_ n1_; (try clear hb); (try clear hb2); (try clear hk); (try clear hi)))
     go_ret
     exact ⟨by first | rfl | (simp [errW_none, errW_some] <;> rfl) | (simp [*, errW_none, errW_some] <;> rfl), by repeat (first | (with_reducible first | exact HB.out | apply below_alloc | apply pw_below_drewN | apply below_drew1) | exact HB.out)⟩
   ·rw [if_neg c5] at H
    have c5b0 : (([48, 32, 111, 112, 32, 111, 117, 116, 32, 48, 10, 48, 32, 111, 117, 116, 32, 50, 10, 116, 105, 99, 107, 32, 53, 10, 48, 32, 98, 108, 111, 99, 107, 32, 119, 97, 105, 116, 10, 48, 32, 101, 110, 100, 32, 102, 97, 117, 108, 116, 101, 100, 32, 50, 10] : List UInt8) == t231.toList) = false := beq_eq_false_iff_ne.mpr c5
    have c5b1 : (([48, 32, 111, 112, 32, 111, 117, 116, 32, 48, 10, 48, 32, 111, 117, 116, 32, 50, 10, 116, 105, 99, 107, 32, 53, 10, 48, 32, 98, 108, 111, 99, 107, 32, 119, 97, 105, 116, 10, 48, 32, 101, 110, 100, 32, 102, 97, 117, 108, 116, 101, 100, 32, 50, 10] : List UInt8) != t231.toList) = true := bne_iff_ne.mpr c5
    obtain rfl := Option.some.inj H
    go_enter Tryd.func51, Tryd.ntmps51
    go_wp2_with (first | ((with_reducible refine gate_callee (f := 52) rfl ?_); refine goesL_ (some 8) rfl rfl Tryd.func52 (by kernel_rfl) rfl #[.string (⟨#[48, 32, 111, 112, 32, 111, 117, 116, 32, 48, 10, 48, 32, 111, 117, 116, 32, 50, 10, 116, 105, 99, 107, 32, 53, 10, 48, 32, 98, 108, 111, 99, 107, 32, 119, 97, 105, 116, 10, 48, 32, 101, 110, 100, 32, 102, 97, 117, 108, 116, 101, 100, 32, 50, 10]⟩ : ByteArray)] rfl (by (try simp only [List.map_toArray, List.map_cons, List.map_nil]); first | done | rfl | (simp only [List.length_drop, List.length_take]; rfl)) ?_; (with_reducible refine (trace_Parse.calls k (⟨#[48, 32, 111, 112, 32, 111, 117, 116, 32, 48, 10, 48, 32, 111, 117, 116, 32, 50, 10, 116, 105, 99, 107, 32, 53, 10, 48, 32, 98, 108, 111, 99, 107, 32, 119, 97, 105, 116, 10, 48, 32, 101, 110, 100, 32, 102, 97, 117, 108, 116, 101, 100, 32, 50, 10]⟩ : ByteArray) t227 t228 _ A1.out ?side1).mono ?_); (case side1 => exact Gl.below HG.out (by repeat (first | (with_reducible first | exact HB.out | apply below_alloc | apply pw_below_drewN | apply below_drew1) | exact HB.out))); rintro e w28 ⟨v229, rfl, ho0, hb⟩; refine ⟨_, rfl, ?_⟩; have n0_ := Aside0.mk (Kd.R_lower ho0 (below_size (by repeat (first | (with_reducible first | exact HB.out | apply below_alloc | apply pw_below_drewN | apply below_drew1) | exact HB.out)))); have n1_ := Aside0.mk (below_step (by repeat (first | (with_reducible first | exact HB.out | apply below_alloc | apply pw_below_drewN | apply below_drew1) | exact HB.out)) hb); clear HB; have HO230 := n0_; have HB := n1_; clear n0_ n1_; (try clear hb); (try clear hb2); (try clear hk); (try clear hi); (try clear ho0); obtain ⟨Ao29, co29, eo29⟩ := Kd.R_slice HO230.out; subst eo29) | ((with_reducible refine gate_callee (f := 48) rfl ?_); refine goesL_ (some 13) rfl rfl Tryd.func48 (by kernel_rfl) rfl #[.slice Ao29 t227.length co29] rfl (by (try simp only [List.map_toArray, List.map_cons, List.map_nil]); first | done | rfl | (simp only [List.length_drop, List.length_take]; rfl)) ?_; (with_reducible refine (o_Text.calls _ _ t227 t231 t232 _ ?side1 ?side2 A2.out ?side3).mono ?_); (case side1 => repeat (first | exact (Kd.R_reads' HO230.out).2.2 | (with_reducible refine Kd.C_alloc ?_ _) | (with_reducible refine Kd.C_drewN ?_ _) | (with_reducible refine Kd.C_drew ?_))); (case side2 => exact (Kd.R_reads' HO230.out).2.1); (case side3 => exact Gl.below HG.out (by repeat (first | (with_reducible first | exact HB.out | apply below_alloc | apply pw_below_drewN | apply below_drew1) | exact HB.out))); rintro e w30 ⟨rfl, hb⟩; refine ⟨_, rfl, ?_⟩; have n0_ := Aside0.mk (Kd.R_below (by (with_reducible repeat (first | apply Kd.R_alloc | apply Kd.R_drewN | apply Kd.R_drew)); exact HO230.out) hb); have n1_ := Aside0.mk (below_step (by repeat (first | (with_reducible first | exact HB.out | apply below_alloc | apply pw_below_drewN | apply below_drew1) | exact HB.out)) hb); clear HO230; clear HB; have HO230 := n0_; have HB := n1_; clear n0_ n1_; (try clear hb); (try clear hb2); (try clear hk); (try clear hi)))
    go_ret
    exact ⟨by first | rfl | (simp [errW_none, errW_some] <;> rfl) | (simp [*, errW_none, errW_some] <;> rfl), by repeat (first | (with_reducible first | exact HB.out | apply below_alloc | apply pw_below_drewN | apply below_drew1) | exact HB.out)⟩
  ·rw [if_neg c4] at H
   have c4b0 : (t232 == 0) = false := beq_eq_false_iff_ne.mpr c4
   have c4b1 : (t232 != 0) = true := bne_iff_ne.mpr c4
   obtain rfl := Option.some.inj H
   go_enter Tryd.func51, Tryd.ntmps51
   go_wp2_with (first | ((with_reducible refine gate_callee (f := 52) rfl ?_); refine goesL_ (some 8) rfl rfl Tryd.func52 (by kernel_rfl) rfl #[.string (⟨#[48, 32, 111, 112, 32, 111, 117, 116, 32, 48, 10, 48, 32, 111, 117, 116, 32, 50, 10, 116, 105, 99, 107, 32, 53, 10, 48, 32, 98, 108, 111, 99, 107, 32, 119, 97, 105, 116, 10, 48, 32, 101, 110, 100, 32, 102, 97, 117, 108, 116, 101, 100, 32, 50, 10]⟩ : ByteArray)] rfl (by (try simp only [List.map_toArray, List.map_cons, List.map_nil]); first | done | rfl | (simp only [List.length_drop, List.length_take]; rfl)) ?_; (with_reducible refine (trace_Parse.calls k (⟨#[48, 32, 111, 112, 32, 111, 117, 116, 32, 48, 10, 48, 32, 111, 117, 116, 32, 50, 10, 116, 105, 99, 107, 32, 53, 10, 48, 32, 98, 108, 111, 99, 107, 32, 119, 97, 105, 116, 10, 48, 32, 101, 110, 100, 32, 102, 97, 117, 108, 116, 101, 100, 32, 50, 10]⟩ : ByteArray) t227 t228 _ A1.out ?side1).mono ?_); (case side1 => exact Gl.below HG.out (by repeat (first | (with_reducible first | exact HB.out | apply below_alloc | apply pw_below_drewN | apply below_drew1) | exact HB.out))); rintro e w31 ⟨v229, rfl, ho0, hb⟩; refine ⟨_, rfl, ?_⟩; have n0_ := Aside0.mk (Kd.R_lower ho0 (below_size (by repeat (first | (with_reducible first | exact HB.out | apply below_alloc | apply pw_below_drewN | apply below_drew1) | exact HB.out)))); have n1_ := Aside0.mk (below_step (by repeat (first | (with_reducible first | exact HB.out | apply below_alloc | apply pw_below_drewN | apply below_drew1) | exact HB.out)) hb); clear HB; have HO230 := n0_; have HB := n1_; clear n0_ n1_; (try clear hb); (try clear hb2); (try clear hk); (try clear hi); (try clear ho0); obtain ⟨Ao32, co32, eo32⟩ := Kd.R_slice HO230.out; subst eo32) | ((with_reducible refine gate_callee (f := 48) rfl ?_); refine goesL_ (some 13) rfl rfl Tryd.func48 (by kernel_rfl) rfl #[.slice Ao32 t227.length co32] rfl (by (try simp only [List.map_toArray, List.map_cons, List.map_nil]); first | done | rfl | (simp only [List.length_drop, List.length_take]; rfl)) ?_; (with_reducible refine (o_Text.calls _ _ t227 t231 t232 _ ?side1 ?side2 A2.out ?side3).mono ?_); (case side1 => repeat (first | exact (Kd.R_reads' HO230.out).2.2 | (with_reducible refine Kd.C_alloc ?_ _) | (with_reducible refine Kd.C_drewN ?_ _) | (with_reducible refine Kd.C_drew ?_))); (case side2 => exact (Kd.R_reads' HO230.out).2.1); (case side3 => exact Gl.below HG.out (by repeat (first | (with_reducible first | exact HB.out | apply below_alloc | apply pw_below_drewN | apply below_drew1) | exact HB.out))); rintro e w33 ⟨rfl, hb⟩; refine ⟨_, rfl, ?_⟩; have n0_ := Aside0.mk (Kd.R_below (by (with_reducible repeat (first | apply Kd.R_alloc | apply Kd.R_drewN | apply Kd.R_drew)); exact HO230.out) hb); have n1_ := Aside0.mk (below_step (by repeat (first | (with_reducible first | exact HB.out | apply below_alloc | apply pw_below_drewN | apply below_drew1) | exact HB.out)) hb); clear HO230; clear HB; have HO230 := n0_; have HB := n1_; clear n0_ n1_; (try clear hb); (try clear hb2); (try clear hk); (try clear hi)))
   go_ret
   exact ⟨by first | rfl | (simp [errW_none, errW_some] <;> rfl) | (simp [*, errW_none, errW_some] <;> rfl), by repeat (first | (with_reducible first | exact HB.out | apply below_alloc | apply pw_below_drewN | apply below_drew1) | exact HB.out)⟩
 ·rw [if_neg c3] at H
  have c3b0 : (t228 == 0) = false := beq_eq_false_iff_ne.mpr c3
  have c3b1 : (t228 != 0) = true := bne_iff_ne.mpr c3
  obtain rfl := Option.some.inj H
  go_enter Tryd.func51, Tryd.ntmps51
  go_wp2_with (first | ((with_reducible refine gate_callee (f := 52) rfl ?_); refine goesL_ (some 8) rfl rfl Tryd.func52 (by kernel_rfl) rfl #[.string (⟨#[48, 32, 111, 112, 32, 111, 117, 116, 32, 48, 10, 48, 32, 111, 117, 116, 32, 50, 10, 116, 105, 99, 107, 32, 53, 10, 48, 32, 98, 108, 111, 99, 107, 32, 119, 97, 105, 116, 10, 48, 32, 101, 110, 100, 32, 102, 97, 117, 108, 116, 101, 100, 32, 50, 10]⟩ : ByteArray)] rfl (by (try simp only [List.map_toArray, List.map_cons, List.map_nil]); first | done | rfl | (simp only [List.length_drop, List.length_take]; rfl)) ?_; (with_reducible refine (trace_Parse.calls k (⟨#[48, 32, 111, 112, 32, 111, 117, 116, 32, 48, 10, 48, 32, 111, 117, 116, 32, 50, 10, 116, 105, 99, 107, 32, 53, 10, 48, 32, 98, 108, 111, 99, 107, 32, 119, 97, 105, 116, 10, 48, 32, 101, 110, 100, 32, 102, 97, 117, 108, 116, 101, 100, 32, 50, 10]⟩ : ByteArray) t227 t228 _ A1.out ?side1).mono ?_); (case side1 => exact Gl.below HG.out (by repeat (first | (with_reducible first | exact HB.out | apply below_alloc | apply pw_below_drewN | apply below_drew1) | exact HB.out))); rintro e w34 ⟨v229, rfl, ho0, hb⟩; refine ⟨_, rfl, ?_⟩; have n0_ := Aside0.mk (Kd.R_lower ho0 (below_size (by repeat (first | (with_reducible first | exact HB.out | apply below_alloc | apply pw_below_drewN | apply below_drew1) | exact HB.out)))); have n1_ := Aside0.mk (below_step (by repeat (first | (with_reducible first | exact HB.out | apply below_alloc | apply pw_below_drewN | apply below_drew1) | exact HB.out)) hb); clear HB; have HO230 := n0_; have HB := n1_; clear n0_ n1_; (try clear hb); (try clear hb2); (try clear hk); (try clear hi); (try clear ho0); obtain ⟨Ao35, co35, eo35⟩ := Kd.R_slice HO230.out; subst eo35) | ((with_reducible refine gate_callee (f := 48) rfl ?_); refine goesL_ (some 13) rfl rfl Tryd.func48 (by kernel_rfl) rfl #[.slice Ao35 t227.length co35] rfl (by (try simp only [List.map_toArray, List.map_cons, List.map_nil]); first | done | rfl | (simp only [List.length_drop, List.length_take]; rfl)) ?_; (with_reducible refine (o_Text.calls _ _ t227 t231 t232 _ ?side1 ?side2 A2.out ?side3).mono ?_); (case side1 => repeat (first | exact (Kd.R_reads' HO230.out).2.2 | (with_reducible refine Kd.C_alloc ?_ _) | (with_reducible refine Kd.C_drewN ?_ _) | (with_reducible refine Kd.C_drew ?_))); (case side2 => exact (Kd.R_reads' HO230.out).2.1); (case side3 => exact Gl.below HG.out (by repeat (first | (with_reducible first | exact HB.out | apply below_alloc | apply pw_below_drewN | apply below_drew1) | exact HB.out))); rintro e w36 ⟨rfl, hb⟩; refine ⟨_, rfl, ?_⟩; have n0_ := Aside0.mk (Kd.R_below (by (with_reducible repeat (first | apply Kd.R_alloc | apply Kd.R_drewN | apply Kd.R_drew)); exact HO230.out) hb); have n1_ := Aside0.mk (below_step (by repeat (first | (with_reducible first | exact HB.out | apply below_alloc | apply pw_below_drewN | apply below_drew1) | exact HB.out)) hb); clear HO230; clear HB; have HO230 := n0_; have HB := n1_; clear n0_ n1_; (try clear hb); (try clear hb2); (try clear hk); (try clear hi)))
  go_ret
  exact ⟨by first | rfl | (simp [errW_none, errW_some] <;> rfl) | (simp [*, errW_none, errW_some] <;> rfl), by repeat (first | (with_reducible first | exact HB.out | apply below_alloc | apply pw_below_drewN | apply below_drew1) | exact HB.out)⟩
end Go.Proofs.YtadepdeckapgcaaDoor.PTr
end

section
namespace Go.Proofs.YtadepdeckapgcaaDoor.Tr
open Go.RowKit Go.Proofs.YtadepdeckapgcaaDoorW.PrintWords Go.Proofs.YtadepdeckapgcaaDoor.PTr Go.Proofs.YtadepdeckapgcaaDoor.Orc
set_option linter.unusedVariables false
set_option linter.unusedSimpArgs false
theorem no_itoa (c : UInt8) (hc : ¬ (48 ≤ c.toNat ∧ c.toNat ≤ 57)) (h45 : c ≠ 45) (n : Int) : ∀ b ∈ Lib.itoa n, b ≠ c := by
  intro b hb e
  subst e
  rcases itoa_mem n b hb with h | h
  · exact hc h
  · exact h45 h
theorem nm_free : ∀ i : Fin 52, ∀ b ∈ (rdOf ByteArray.empty NM (i.val : Int)).data.toList, b ≠ 32 ∧ b ≠ 10 := by decide +kernel
theorem ed_free : ∀ i : Fin 3, ∀ b ∈ (rdOf ByteArray.empty ED (i.val : Int)).data.toList, b ≠ 32 ∧ b ≠ 10 := by decide +kernel
theorem nm_no (A : Int) (h0 : 0 ≤ A) (h1 : A < 52) : ∀ b ∈ (nmB A).data.toList, b ≠ 32 ∧ b ≠ 10 := by
  have := nm_free ⟨A.toNat, by omega⟩
  simp only at this
  rw [show ((A.toNat : Nat) : Int) = A by omega] at this
  exact this
theorem ed_no (A : Int) (h0 : 0 ≤ A) (h1 : A < 3) : ∀ b ∈ (edB A).data.toList, b ≠ 32 ∧ b ≠ 10 := by
  have := ed_free ⟨A.toNat, by omega⟩
  simp only at this
  rw [show ((A.toNat : Nat) : Int) = A by omega] at this
  exact this
theorem nm_of : ∀ i : Fin 52, (ofGo (rdOf ByteArray.empty NM (i.val : Int)) NM 0).1 = (i.val : Int) := by decide +kernel
theorem ed_ix : ∀ i : Fin 3, ixGo (rdOf ByteArray.empty ED (i.val : Int)) ED 0 = (i.val : Int) := by decide +kernel
theorem nm_back (A : Int) (h0 : 0 ≤ A) (h1 : A < 52) : (ofGo (nmB A) NM 0).1 = A := by
  have := nm_of ⟨A.toNat, by omega⟩
  simp only at this
  rw [show ((A.toNat : Nat) : Int) = A by omega] at this
  exact this
theorem ed_back (A : Int) (h0 : 0 ≤ A) (h1 : A < 3) : ixGo (edB A) ED 0 = A := by
  have := ed_ix ⟨A.toNat, by omega⟩
  simp only at this
  rw [show ((A.toNat : Nat) : Int) = A by omega] at this
  exact this
def wordsL (K T A B : Int) : List (List UInt8) :=
  if K = 6 then [tickW, Lib.itoa A]
  else if K = 1 then [Lib.itoa T, opW, (nmB A).data.toList, Lib.itoa B]
  else if K = 2 then [Lib.itoa T, outW, Lib.itoa A]
  else if K = 3 then [Lib.itoa T, blockW, (nmB A).data.toList]
  else if K = 4 then [Lib.itoa T, wakeW, Lib.itoa A]
  else if K = 5 then [Lib.itoa T, endW, (edB A).data.toList, Lib.itoa B]
  else [Lib.itoa T, abortW, Lib.itoa A]
theorem line_glue (K T A B : Int) (h : chk K T A B = 0) : (lineB K T A B).data.toList = glue 32 (wordsL K T A B) := by
  obtain ⟨k1, k7, _⟩ := chk_zero h
  have hK : K = 1 ∨ K = 2 ∨ K = 3 ∨ K = 4 ∨ K = 5 ∨ K = 6 ∨ K = 7 := by omega
  unfold lineB wordsB wordsL
  rcases hK with rfl | rfl | rfl | rfl | rfl | rfl | rfl <;> simp [glue, itB_data, spB, opW, outW, blockW, wakeW, endW, abortW, tickW]
theorem words_free (c : UInt8) (hc : c = 32 ∨ c = 10) (K T A B : Int) (h : chk K T A B = 0) : ∀ p ∈ wordsL K T A B, ∀ b ∈ p, b ≠ c := by
  obtain ⟨k1, k7, _, _, hn, he, _⟩ := chk_zero h
  have hd : ∀ n, ∀ b ∈ Lib.itoa n, b ≠ c := fun n => no_itoa c (by rcases hc with rfl | rfl <;> decide) (by rcases hc with rfl | rfl <;> decide) n
  have hK : K = 1 ∨ K = 2 ∨ K = 3 ∨ K = 4 ∨ K = 5 ∨ K = 6 ∨ K = 7 := by omega
  have w : ∀ p ∈ [opW, outW, blockW, wakeW, endW, abortW, tickW], ∀ b ∈ p, b ≠ c := by rcases hc with rfl | rfl <;> decide
  unfold wordsL
  intro p hp
  rcases hK with rfl | rfl | rfl | rfl | rfl | rfl | rfl
  · have := nm_no A (hn (.inl rfl)).1 (hn (.inl rfl)).2
    simp at hp
    rcases hp with rfl | rfl | rfl | rfl
    · exact hd _
    · exact w _ (by simp)
    · intro b hb; rcases hc with rfl | rfl; exact (this b hb).1; exact (this b hb).2
    · exact hd _
  · simp at hp
    rcases hp with rfl | rfl | rfl
    · exact hd _
    · exact w _ (by simp)
    · exact hd _
  · have := nm_no A (hn (.inr rfl)).1 (hn (.inr rfl)).2
    simp at hp
    rcases hp with rfl | rfl | rfl
    · exact hd _
    · exact w _ (by simp)
    · intro b hb; rcases hc with rfl | rfl; exact (this b hb).1; exact (this b hb).2
  · simp at hp
    rcases hp with rfl | rfl | rfl
    · exact hd _
    · exact w _ (by simp)
    · exact hd _
  · have := ed_no A (he rfl).1 (he rfl).2
    simp at hp
    rcases hp with rfl | rfl | rfl | rfl
    · exact hd _
    · exact w _ (by simp)
    · intro b hb; rcases hc with rfl | rfl; exact (this b hb).1; exact (this b hb).2
    · exact hd _
  · simp at hp
    rcases hp with rfl | rfl
    · exact w _ (by simp)
    · exact hd _
  · simp at hp
    rcases hp with rfl | rfl | rfl
    · exact hd _
    · exact w _ (by simp)
    · exact hd _
theorem words_ne (K T A B : Int) : wordsL K T A B ≠ [] := by
  unfold wordsL; repeat' split
  all_goals simp
theorem itoa_tick (n : Int) : Lib.itoa n ≠ tickW := by
  intro e
  have := itoa_mem n 116 (by rw [e]; decide)
  rcases this with h | h
  · revert h; unfold isDig; decide
  · revert h; decide
theorem gs_words (e : S72) (he : inE e) (h : chkE e = 0) : gsE ((wordsL e.f0 e.f1 e.f2 e.f3).map mkB) = e := by
  obtain ⟨K, T, A, B⟩ := e
  obtain ⟨hK0, hT, hA, hB⟩ := he
  obtain ⟨k1, k7, h6, _, hn, hed, hB0⟩ := chk_zero (show chk K T A B = 0 from h)
  have hK : K = 1 ∨ K = 2 ∨ K = 3 ∨ K = 4 ∨ K = 5 ∨ K = 6 ∨ K = 7 := by omega
  dsimp only at hK0 hT hA hB
  have ht := itoa_tick T
  unfold wordsL gsE
  rcases hK with rfl | rfl | rfl | rfl | rfl | rfl | rfl
  · have := nm_back A (hn (.inl rfl)).1 (hn (.inl rfl)).2
    simp [rdOf, mkB_list, ht, atoiN_itoa, hT, hA, hB, mkB_of, this]
  · obtain rfl := hB0 (by decide) (by decide)
    simp [rdOf, mkB_list, ht, atoiN_itoa, hT, hA, opW, outW]
  · obtain rfl := hB0 (by decide) (by decide)
    have := nm_back A (hn (.inr rfl)).1 (hn (.inr rfl)).2
    simp [rdOf, mkB_list, ht, atoiN_itoa, hT, mkB_of, this, opW, outW, blockW]
  · obtain rfl := hB0 (by decide) (by decide)
    simp [rdOf, mkB_list, ht, atoiN_itoa, hT, hA, opW, outW, blockW, wakeW]
  · have := ed_back A (hed rfl).1 (hed rfl).2
    simp [rdOf, mkB_list, ht, atoiN_itoa, hT, hB, mkB_of, this, opW, outW, blockW, wakeW, endW]
  · obtain rfl := hB0 (by decide) (by decide)
    obtain rfl := h6 rfl
    simp [rdOf, mkB_list, atoiN_itoa, hA]
  · obtain rfl := hB0 (by decide) (by decide)
    simp [rdOf, mkB_list, ht, atoiN_itoa, hT, hA, opW, outW, blockW, wakeW, endW, abortW]
end Go.Proofs.YtadepdeckapgcaaDoor.Tr
end

section
namespace Go.Proofs.YtadepdeckapgcaaDoor.Tr
open Go.RowKit Go.Proofs.YtadepdeckapgcaaDoorW.PrintWords Go.Proofs.YtadepdeckapgcaaDoor.PTr Go.Proofs.YtadepdeckapgcaaDoor.Orc
set_option linter.unusedVariables false
set_option linter.unusedSimpArgs false
theorem first_eq {c : UInt8} {p r p' r' : List UInt8} (h : p ++ c :: r = p' ++ c :: r') (hp : ∀ b ∈ p, b ≠ c) (hp' : ∀ b ∈ p', b ≠ c) : p = p' ∧ r = r' := by
  have a := cut_one c p r hp
  have b := cut_one c p' r' hp'
  rw [h, b] at a
  injection a with a1 a2; injection a2 with a2 _
  exact ⟨a1.symm, a2.symm⟩
theorem glue_mem (c : UInt8) : ∀ (ps : List (List UInt8)) (b : UInt8), b ∈ glue c ps → b = c ∨ ∃ p ∈ ps, b ∈ p
  | [], b, h => by simp [glue] at h
  | [p], b, h => .inr ⟨p, by simp, h⟩
  | p :: q :: ps, b, h => by
    simp only [glue, List.mem_append, List.mem_cons] at h
    rcases h with h | h | h
    · exact .inr ⟨p, by simp, h⟩
    · exact .inl h
    · rcases glue_mem c (q :: ps) b h with h | ⟨x, hx, hb⟩
      · exact .inl h
      · exact .inr ⟨x, List.mem_cons_of_mem _ hx, hb⟩
def okE (e : S72) : Prop := inE e ∧ chkE e = 0
def bytesE (e : S72) : List UInt8 := (lineB e.f0 e.f1 e.f2 e.f3).data.toList
theorem line_no10 (e : S72) (h : okE e) : ∀ b ∈ bytesE e, b ≠ 10 := by
  intro b hb
  unfold bytesE at hb
  rw [line_glue _ _ _ _ h.2] at hb
  rcases glue_mem 32 _ b hb with h1 | ⟨p, hp, hb⟩
  · rw [h1]; decide
  · exact words_free 10 (.inr rfl) _ _ _ _ h.2 p hp b hb
def flat : List S72 → List UInt8
  | [] => []
  | e :: l => bytesE e ++ 10 :: flat l
theorem textOf_flat : ∀ (l : List S72) (L : List UInt8), (∀ e ∈ l, okE e) → textOf l L = (mkB (L ++ flat l), 0)
  | [], L, _ => by simp [textOf, flat, mkB]
  | e :: l, L, h => by
    have he := h e (by simp)
    simp only [textOf]
    rw [if_pos he.2, textOf_flat l _ (fun x hx => h x (by simp [hx]))]
    simp [flat, lnE, bytesE]
theorem pieces_line (e : S72) (h : okE e) : pieces 32 (bytesE e) = wordsL e.f0 e.f1 e.f2 e.f3 := by
  unfold bytesE
  rw [line_glue _ _ _ _ h.2]
  exact pieces_glue 32 _ (words_ne _ _ _ _) (words_free 32 (.inl rfl) _ _ _ _ h.2)
theorem back_line (e : S72) (h : okE e) : gsE ((pieces 32 (bytesE e)).map mkB) = e := by rw [pieces_line e h]; exact gs_words e h.1 h.2
theorem flat_inj : ∀ (l l' : List S72), (∀ e ∈ l, okE e) → (∀ e ∈ l', okE e) → flat l = flat l' → l = l'
  | [], [], _, _, _ => rfl
  | [], e :: l, _, _, h => by simp [flat] at h
  | e :: l, [], _, _, h => by simp [flat] at h
  | e :: l, e' :: l', h1, h2, h => by
    have a := h1 e (by simp)
    have b := h2 e' (by simp)
    obtain ⟨x, y⟩ := first_eq h (line_no10 e a) (line_no10 e' b)
    have q := back_line e a
    rw [x, back_line e' b] at q
    rw [← q, flat_inj l l' (fun x hx => h1 x (by simp [hx])) (fun x hx => h2 x (by simp [hx])) y]
theorem map_mk (l : List ByteArray) : (l.map (·.data.toList)).map mkB = l := by
  rw [List.map_map]; conv => rhs; rw [← List.map_id l]
  exact List.map_congr_left (fun x _ => mkB_of x)
theorem split_some (s : List UInt8) (hs : s.length ≤ 60000) : o_Split.f (mkB s) (⟨#[32]⟩ : ByteArray) = some ((pieces 32 s).map mkB) := by
  unfold o_Split.f
  rw [if_pos ⟨by rw [mkB_size]; omega, by decide⟩]
  have h := Lib.splitB_data (⟨#[32]⟩ : ByteArray) 0 (Lib.countB (mkB s) (⟨#[32]⟩ : ByteArray)) (mkB s)
  rw [mkB_data] at h
  have hc : Lib.countB (mkB s) (⟨#[32]⟩ : ByteArray) = s.count 32 := by
    unfold Lib.countB; rw [mkB_data]; exact Lib.count_one 32 s
  rw [hc] at h ⊢
  have e : (⟨#[32]⟩ : ByteArray).data.toList = [32] := rfl
  rw [e, splitK_pieces 32 s.length s (Nat.le_refl _)] at h
  rw [← h, map_mk]
theorem pieces_len (c : UInt8) : ∀ l : List UInt8, (pieces c l).length ≤ l.length + 1 ∧ ∀ p ∈ pieces c l, p.length ≤ l.length
  | [] => by simp [pieces]
  | b :: l => by
    obtain ⟨i1, i2⟩ := pieces_len c l
    unfold pieces
    split
    · refine ⟨by simp; omega, fun p hp => ?_⟩
      rcases List.mem_cons.1 hp with rfl | hp
      · simp
      · have := i2 p hp; simp; omega
    · cases e : pieces c l with
      | nil => exact absurd e (pieces_ne _ _)
      | cons q ps =>
        rw [e] at i1 i2
        refine ⟨by simp at i1 ⊢; omega, fun p hp => ?_⟩
        simp only [List.mem_cons] at hp
        rcases hp with rfl | hp
        · have := i2 q (by simp); simp; omega
        · have := i2 p (by simp [hp]); simp; omega
theorem guess_line (s : List UInt8) (hs : s.length ≤ 60000) : Ev (fun k => trace_guess.f k ((pieces 32 s).map mkB)) ((gsE ((pieces 32 s).map mkB)).f0, (gsE ((pieces 32 s).map mkB)).f1, (gsE ((pieces 32 s).map mkB)).f2, (gsE ((pieces 32 s).map mkB)).f3) := by
  obtain ⟨h1, h2⟩ := pieces_len 32 s
  refine guess_ev _ (fun w hw => ?_) (by rw [List.length_map]; omega)
  obtain ⟨p, hp, rfl⟩ := List.mem_map.1 hw
  rw [mkB_size]; have := h2 p hp; omega
theorem cutB_yes (p r : List UInt8) (hp : ∀ b ∈ p, b ≠ 10) (hs : (p ++ 10 :: r).length ≤ 60000) : o_Cut.f (mkB (p ++ 10 :: r)) (⟨#[10]⟩ : ByteArray) = some (mkB p, mkB r, true) := by
  unfold o_Cut.f
  rw [if_pos (by rw [mkB_size]; omega), mkB_data]
  have e : (⟨#[10]⟩ : ByteArray).data.toList = [10] := rfl
  rw [e, cut_one 10 p r hp]
  rfl
theorem cutB_no (p : List UInt8) (hp : ∀ b ∈ p, b ≠ 10) (hs : p.length ≤ 60000) : o_Cut.f (mkB p) (⟨#[10]⟩ : ByteArray) = some (mkB p, mkB [], false) := by
  unfold o_Cut.f
  rw [if_pos (by rw [mkB_size]; omega), mkB_data]
  have e : (⟨#[10]⟩ : ByteArray).data.toList = [10] := rfl
  rw [e, cut_no 10 p hp]
  rfl
theorem parse_any : ∀ (n : Nat) (s : List UInt8) (acc : List S72), s.length ≤ n → s.length ≤ 60000 → acc.length + n ≤ 1000000 →
    (∃ l, (∀ e ∈ l, okE e) ∧ s = flat l ∧ Ev (fun k => trace_Parse.l0 k (mkB s) acc) (acc ++ l, 0)) ∨
    ((¬ ∃ l, (∀ e ∈ l, okE e) ∧ s = flat l) ∧ Ev (fun k => trace_Parse.l0 k (mkB s) acc) (([] : List S72), 2)) := by
  intro n
  induction n with
  | zero =>
    intro s acc hn hs ha
    obtain rfl : s = [] := List.eq_nil_of_length_eq_zero (by omega)
    refine .inl ⟨[], by simp, rfl, Ev.step1 (fun k => ?_)⟩
    simp only [trace_Parse.l0]
    rw [if_pos (by rw [mkB_list])]
    simp
  | succ n ih =>
    intro s acc hn hs ha
    by_cases h0 : s = []
    · subst h0
      refine .inl ⟨[], by simp, rfl, Ev.step1 (fun k => ?_)⟩
      simp only [trace_Parse.l0]
      rw [if_pos (by rw [mkB_list])]
      simp
    have step : ∀ (p : List UInt8) (t : ByteArray) (b : Bool) (R : List S72 × Int), o_Cut.f (mkB s) (⟨#[10]⟩ : ByteArray) = some (mkB p, t, b) → p.length ≤ 60000 →
        Ev (fun k => if b = true then (if (lineR (gsE ((pieces 32 p).map mkB)).f0 (gsE ((pieces 32 p).map mkB)).f1 (gsE ((pieces 32 p).map mkB)).f2 (gsE ((pieces 32 p).map mkB)).f3).2 = 0 then (if (lineR (gsE ((pieces 32 p).map mkB)).f0 (gsE ((pieces 32 p).map mkB)).f1 (gsE ((pieces 32 p).map mkB)).f2 (gsE ((pieces 32 p).map mkB)).f3).1.toList = (mkB p).toList then (if acc.length < 4398046511104 then (trace_Parse.l0 k t (acc ++ [gsE ((pieces 32 p).map mkB)])) else (none)) else (some (([] : List S72), 2))) else (some (([] : List S72), 2))) else (some (([] : List S72), 2))) R →
        Ev (fun k => trace_Parse.l0 k (mkB s) acc) R := by
      intro p t b R hc hp hR
      refine Ev.step (f := _) (fun k => by simp only [trace_Parse.l0]; rw [if_neg (by rw [mkB_list]; exact h0)]) ?_
      refine Ev.bind (Ev.const fun k => hc) ?_
      refine Ev.bind (Ev.const fun k => split_some p hp) ?_
      refine Ev.bind (guess_line p hp) ?_
      have hi := gsE_in ((pieces 32 p).map mkB)
      exact Ev.bind (pline _ _ _ _ hi.2.1 hi.2.2.1 hi.2.2.2) hR
    rcases cut_cases 10 s with hno | ⟨p, r, rfl, hp⟩
    · refine .inr ⟨?_, step s (mkB []) false _ (cutB_no s hno hs) hs (Ev.const fun k => rfl)⟩
      rintro ⟨l, hl, rfl⟩
      cases l with
      | nil => exact h0 rfl
      | cons e l => exact hno 10 (by simp [flat]) rfl
    · have hlen : p.length + r.length + 1 ≤ 60000 ∧ p.length + r.length + 1 ≤ n + 1 := by simp at hs hn; omega
      have hi := gsE_in ((pieces 32 p).map mkB)
      by_cases hg : chkE (gsE ((pieces 32 p).map mkB)) = 0 ∧ bytesE (gsE ((pieces 32 p).map mkB)) = p
      · obtain ⟨hg1, hg2⟩ := hg
        have hR : ∀ R, Ev (fun k => trace_Parse.l0 k (mkB r) (acc ++ [gsE ((pieces 32 p).map mkB)])) R → Ev (fun k => trace_Parse.l0 k (mkB (p ++ 10 :: r)) acc) R := by
          intro R hR
          refine step p (mkB r) true R (cutB_yes p r hp hs) (by omega) ?_
          refine Ev.congr (fun k => ?_) hR
          rw [if_pos rfl]
          unfold lineR
          rw [if_pos (show chk _ _ _ _ = 0 from hg1), if_pos rfl, if_pos (by rw [mkB_list, Lib.toList_data]; exact hg2), if_pos (by omega)]
        rcases ih r (acc ++ [gsE ((pieces 32 p).map mkB)]) (by omega) (by omega) (by simp; omega) with ⟨l, hl, rfl, hE⟩ | ⟨hnone, hE⟩
        · refine .inl ⟨gsE ((pieces 32 p).map mkB) :: l, ?_, ?_, ?_⟩
          · intro e he
            rcases List.mem_cons.1 he with rfl | he
            · exact ⟨hi, hg1⟩
            · exact hl e he
          · simp only [flat]; rw [hg2]
          · have q := hR _ hE
            simpa using q
        · refine .inr ⟨?_, hR _ hE⟩
          rintro ⟨l, hl, hf⟩
          cases l with
          | nil => simp [flat] at hf
          | cons e l =>
            obtain ⟨x, y⟩ := first_eq hf hp (line_no10 e (hl e (by simp)))
            exact hnone ⟨l, fun x hx => hl x (by simp [hx]), y⟩
      · refine .inr ⟨?_, step p (mkB r) true _ (cutB_yes p r hp hs) (by omega) (Ev.const fun k => ?_)⟩
        · rintro ⟨l, hl, hf⟩
          cases l with
          | nil => simp [flat] at hf
          | cons e l =>
            have he := hl e (by simp)
            obtain ⟨x, y⟩ := first_eq hf hp (line_no10 e he)
            apply hg
            rw [x, back_line e he]
            exact ⟨he.2, rfl⟩
        · rw [if_pos rfl]
          unfold lineR
          by_cases hc : chkE (gsE ((pieces 32 p).map mkB)) = 0
          · rw [if_pos (show chk _ _ _ _ = 0 from hc), if_pos rfl, if_neg (by rw [mkB_list, Lib.toList_data]; exact fun e => hg ⟨hc, e⟩)]
          · rw [if_neg (show ¬ chk _ _ _ _ = 0 from hc)]
            dsimp only
            rw [if_neg (show ¬ chk _ _ _ _ = 0 from hc)]
theorem parse_text (l : List S72) (h : ∀ e ∈ l, okE e) (hs : (flat l).length ≤ 60000) : Ev (fun k => trace_Parse.f k (mkB (flat l))) (l, 0) := by
  unfold trace_Parse.f
  refine Ev.congr (fun k => by rw [if_neg (by rw [mkB_size]; omega)]) ?_
  rcases parse_any 60000 (flat l) [] hs hs (by simp) with ⟨l', hl', hf, hE⟩ | ⟨hno, _⟩
  · rw [flat_inj l l' h hl' hf]
    rw [flat_inj l l' h hl' hf] at hE
    simpa using hE
  · exact absurd ⟨l, h, rfl⟩ hno
theorem parse_long (s : ByteArray) (h : 60000 < s.size) : Ev (fun k => trace_Parse.f k s) (([] : List S72), 4) := by
  unfold trace_Parse.f
  exact Ev.const fun k => by rw [if_pos (by omega)]
end Go.Proofs.YtadepdeckapgcaaDoor.Tr
end

section
namespace Go.Proofs.YtadepdeckapgcaaDoor.PTr
open Go.RowKit Go.Proofs.YtadepdeckapgcaaDoor.Orc Go.Proofs.YtadepdeckapgcaaDoorW.PrintWords Go.Proofs.YtadepdeckapgcaaDoorW.PrintLast Go.Proofs.YtadepdeckapgcaaDoorW.PrintMore
attribute [local go_sem] max2_int min2_int max_two min_two max_three min_three max_four min_four
set_option linter.unusedVariables false
set_option linter.unusedSimpArgs false
attribute [local go_sem high] eqA72
def logjamlaw41_same.l0 : Nat → List (S72) → List (S72) → Int → Option (Bool)
 | 0, _, _, _ => none
 | k + 1, x0, x1, x5 => if x5 < (x0.length : Int) then (if 0 ≤ x5 then (if x5 < (x1.length : Int) then (if (!(((rd_T72 x0 x5).f0) == ((rd_T72 x1 x5).f0)) || (!(((rd_T72 x0 x5).f1) == ((rd_T72 x1 x5).f1)) || (!(((rd_T72 x0 x5).f2) == ((rd_T72 x1 x5).f2)) || (!(((rd_T72 x0 x5).f3) == ((rd_T72 x1 x5).f3)))))) = true then (some false) else (logjamlaw41_same.l0 k x0 x1 (wrap64 (x5 + 1)))) else (none)) else (none)) else (some true)
def logjamlaw41_same.f (k : Nat) (l0 : List (S72)) (l1 : List (S72)) : Option (Bool) := if (l0.length : Int) = (l1.length : Int) then (logjamlaw41_same.l0 k l0 l1 0) else (some false)
set_option maxHeartbeats 8000000 in
set_option maxRecDepth 100000 in
theorem logjamlaw41_same.calls (k : Nat) (A0 : Option Addr) (c0 : Nat) (l0 : List (S72)) (A1 : Option Addr) (c1 : Nat) (l1 : List (S72)) (r : Bool) (w : World) (hr0 : Kd.C k72 w A0 l0.length l0) (hc0 : l0.length ≤ c0) (hr1 : Kd.C k72 w A1 l1.length l1) (hc1 : l1.length ≤ c1) (h : logjamlaw41_same.f k l0 l1 = some r) :
  Calls Tryd.prog 54 #[.slice A0 l0.length c0, .slice A1 l1.length c1] w fun e w' => e = .returned (.bool r) ∧ Drawn0 w w' := by
 have hu72 := Tryd.underlying72
 have HR0 := Aside0.mk hr0
 have HC0 := Aside0.mk hc0
 clear hr0 hc0
 have HR1 := Aside0.mk hr1
 have HC1 := Aside0.mk hc1
 clear hr1 hc1
 have H : (if (l0.length : Int) = (l1.length : Int) then (logjamlaw41_same.l0 k l0 l1 0) else (some false)) = some r := h
 clear h
 by_cases c3 : (l0.length : Int) = (l1.length : Int)
 ·rw [if_pos c3] at H
  have c3b0 : ((l0.length : Int) == (l1.length : Int)) = true := beq_iff_eq.mpr c3
  have c3b1 : ((l0.length : Int) != (l1.length : Int)) = false := bne_eq_false_iff_eq.mpr c3
  have c3b2 : (l0.length == l1.length) = true := by first | simpa using c3 | (simp at c3 ⊢; omega)
  clear c3
  have H' := Aside0.mk H
  clear H
  go_enter Tryd.func54, Tryd.ntmps54
  go_wp2
  repeat (go_quiet (fail); try go_wp2)
  go_loopg [5] k (fun kq v5 w' => ∃ (x5_1 : Int), v5 = .int .i64 x5_1 ∧ Aside0 (logjamlaw41_same.l0 kq l0 l1 x5_1 = some r) ∧ Aside0 (kq ≤ k) ∧ Drawn0 w w')
  case atStart => exact ⟨(0), (by first | rfl | (simp; done) | (simp only [emptyNe_, emptyEq_]; done) | (simp [*]; done)), H', ⟨Nat.le_refl _⟩, by repeat (first | exact Drawn0.refl _ | apply Drawn0.step)⟩
  case round =>
   clear H'
   try clear c1
   try clear p2
   try clear c3
   try clear c3b0
   try clear c3b1
   try clear c3b2
   obtain ⟨x5_1, rfl, HA, HK1, ⟨m1, rfl⟩⟩ := hrel
   cases gk with
   | zero => exact absurd HA.out (by simp [logjamlaw41_same.l0])
   | succ k1 =>
    have H := HA.out
    clear HA
    simp only [logjamlaw41_same.l0] at H
    by_cases c4 : x5_1 < (l0.length : Int)
    ·rw [if_pos c4] at H
     have c4b0 : decide (x5_1 < (l0.length : Int)) = true := decide_eq_true c4
     clear c4
     by_cases c5 : 0 ≤ x5_1
     ·rw [if_pos c5] at H
      have c5b0 : decide (0 ≤ x5_1) = true := decide_eq_true c5
      clear c5
      by_cases c6 : x5_1 < (l1.length : Int)
      ·rw [if_pos c6] at H
       have c6b0 : decide (x5_1 < (l1.length : Int)) = true := decide_eq_true c6
       clear c6
       by_cases c7 : (!(((rd_T72 l0 x5_1).f0) == ((rd_T72 l1 x5_1).f0)) || (!(((rd_T72 l0 x5_1).f1) == ((rd_T72 l1 x5_1).f1)) || (!(((rd_T72 l0 x5_1).f2) == ((rd_T72 l1 x5_1).f2)) || (!(((rd_T72 l0 x5_1).f3) == ((rd_T72 l1 x5_1).f3)))))) = true
       ·rw [if_pos c7] at H
        have c7b0 : (!(((rd_T72 l0 x5_1).f0) == ((rd_T72 l1 x5_1).f0)) || (!(((rd_T72 l0 x5_1).f1) == ((rd_T72 l1 x5_1).f1)) || (!(((rd_T72 l0 x5_1).f2) == ((rd_T72 l1 x5_1).f2)) || (!(((rd_T72 l0 x5_1).f3) == ((rd_T72 l1 x5_1).f3)))))) = true := c7
        clear c7
        obtain rfl := Option.some.inj H
        have p255 : 0 ≤ (x5_1 : Int) := of_decide_eq_true (by first | (with_reducible assumption) | assumption)
        have q255 : x5_1 < (l0.length : Int) := of_decide_eq_true (by first | (with_reducible assumption) | assumption)
        obtain ⟨ad255, e255, hx255_0, hx255_1, hx255_2, hx255_3⟩ := at_T72 HR0.out x5_1 p255 q255
        cases e255
        replace p255 := eq_true p255
        replace q255 := eq_true q255
        have p256 : 0 ≤ (x5_1 : Int) := of_decide_eq_true (by first | (with_reducible assumption) | assumption)
        have q256 : x5_1 < (l1.length : Int) := of_decide_eq_true (by first | (with_reducible assumption) | assumption)
        obtain ⟨ad256, e256, hx256_0, hx256_1, hx256_2, hx256_3⟩ := at_T72 HR1.out x5_1 p256 q256
        cases e256
        replace p256 := eq_true p256
        replace q256 := eq_true q256
        go_wp2
        repeat (go_quiet (fail); try go_wp2)
        go_ret
        exact ⟨by first | rfl | (simp; done) | (simp only [emptyNe_, emptyEq_]; done) | (simp [*]; done), by repeat (first | exact Drawn0.refl _ | apply Drawn0.step)⟩
       ·rw [if_neg c7] at H
        have c7b0 : (!(((rd_T72 l0 x5_1).f0) == ((rd_T72 l1 x5_1).f0)) || (!(((rd_T72 l0 x5_1).f1) == ((rd_T72 l1 x5_1).f1)) || (!(((rd_T72 l0 x5_1).f2) == ((rd_T72 l1 x5_1).f2)) || (!(((rd_T72 l0 x5_1).f3) == ((rd_T72 l1 x5_1).f3)))))) = false := by simpa using c7
        clear c7
        have H' := Aside0.mk H
        clear H
        have p255 : 0 ≤ (x5_1 : Int) := of_decide_eq_true (by first | (with_reducible assumption) | assumption)
        have q255 : x5_1 < (l0.length : Int) := of_decide_eq_true (by first | (with_reducible assumption) | assumption)
        obtain ⟨ad255, e255, hx255_0, hx255_1, hx255_2, hx255_3⟩ := at_T72 HR0.out x5_1 p255 q255
        cases e255
        replace p255 := eq_true p255
        replace q255 := eq_true q255
        have p256 : 0 ≤ (x5_1 : Int) := of_decide_eq_true (by first | (with_reducible assumption) | assumption)
        have q256 : x5_1 < (l1.length : Int) := of_decide_eq_true (by first | (with_reducible assumption) | assumption)
        obtain ⟨ad256, e256, hx256_0, hx256_1, hx256_2, hx256_3⟩ := at_T72 HR1.out x5_1 p256 q256
        cases e256
        replace p256 := eq_true p256
        replace q256 := eq_true q256
        go_wp2
        repeat (go_quiet (fail); try go_wp2)
        go_roundg k1
        case measure => have := HK1.out; omega
        case rel => exact ⟨(wrap64 (x5_1 + 1)), (by first | rfl | (simp; done) | (simp only [emptyNe_, emptyEq_]; done) | (simp [*]; done)), H', ⟨by have := HK1.out; omega⟩, by repeat (first | exact Drawn0.refl _ | apply Drawn0.step)⟩
      ·rw [if_neg c6] at H
       exact absurd H (by simp)
     ·rw [if_neg c5] at H
      exact absurd H (by simp)
    ·rw [if_neg c4] at H
     have c4b0 : decide (x5_1 < (l0.length : Int)) = false := decide_eq_false c4
     clear c4
     obtain rfl := Option.some.inj H
     go_wp2
     repeat (go_quiet (fail); try go_wp2)
     go_ret
     exact ⟨by first | rfl | (simp; done) | (simp only [emptyNe_, emptyEq_]; done) | (simp [*]; done), by repeat (first | exact Drawn0.refl _ | apply Drawn0.step)⟩
 ·rw [if_neg c3] at H
  have c3b0 : ((l0.length : Int) == (l1.length : Int)) = false := beq_eq_false_iff_ne.mpr c3
  have c3b1 : ((l0.length : Int) != (l1.length : Int)) = true := bne_iff_ne.mpr c3
  have c3b2 : (l0.length == l1.length) = false := by first | simpa using c3 | (simp at c3 ⊢; omega)
  obtain rfl := Option.some.inj H
  go_enter Tryd.func54, Tryd.ntmps54
  go_wp2
  repeat (go_quiet (fail); try go_wp2)
  go_ret
  exact ⟨by first | rfl | (simp; done) | (simp only [emptyNe_, emptyEq_]; done) | (simp [*]; done), by repeat (first | exact Drawn0.refl _ | apply Drawn0.step)⟩
def logjamlaw41_TraceBack.j0 : Nat → ByteArray → Option (Bool)
 | 0, _ => none
 | k + 1, x1 => (trace_Parse.f k x1).bind fun bt271 => (if bt271.2 = 0 then ((o_Text.f bt271.1).bind fun bt275 => (if bt275.2 = 0 then (if bt275.1.toList = x1.toList then ((logjamlaw41_lives.f k).bind fun t277 => (some t277)) else (some false)) else (some false))) else (if (bt271.1.length : Int) = 0 then ((logjamlaw41_lives.f k).bind fun t278 => (some t278)) else (some false)))
def logjamlaw41_TraceBack.f (k : Nat) (l0 : List (S72)) (a1 : ByteArray) : Option (Bool) := (logjamlaw41_few.f l0).bind fun t257 => ((logjamlaw41_few.f t257).bind fun t260 => ((o_Text.f t260).bind fun bt263 => (if bt263.2 = 0 then ((trace_Parse.f k bt263.1).bind fun bt265 => (if (bt263.1.size : Int) > 60000 then (if bt265.2 = 4 then (if (bt263.1.size : Int) ≤ 60000 then (if bt265.2 = 0 then ((logjamlaw41_same.f k bt265.1 t257).bind fun t269 => (if t269 = true then (logjamlaw41_TraceBack.j0 k a1) else (some false))) else (some false)) else (logjamlaw41_TraceBack.j0 k a1)) else (some false)) else (if (bt263.1.size : Int) ≤ 60000 then (if bt265.2 = 0 then ((logjamlaw41_same.f k bt265.1 t257).bind fun t270 => (if t270 = true then (logjamlaw41_TraceBack.j0 k a1) else (some false))) else (some false)) else (logjamlaw41_TraceBack.j0 k a1)))) else (logjamlaw41_TraceBack.j0 k a1))))
set_option maxHeartbeats 8000000 in
set_option maxRecDepth 100000 in
theorem logjamlaw41_TraceBack.calls (k : Nat) (A0 : Option Addr) (c0 : Nat) (l0 : List (S72)) (a1 : ByteArray) (r : Bool) (w : World) (hr0 : Kd.C k72 w A0 l0.length l0) (hc0 : l0.length ≤ c0) (h : logjamlaw41_TraceBack.f k l0 a1 = some r) (hG : Gl w) :
  Calls Tryd.prog 12 #[.slice A0 l0.length c0, .string a1] w fun e w' => e = .returned (.bool r) ∧ Below w.heap.size w w' := by
 have HG := Aside0.mk hG
 clear hG
 have HR0 := Aside0.mk hr0
 have HC0 := Aside0.mk hc0
 clear hr0 hc0
 have HB := Aside0.mk (Below.refl w.heap.size w)
 have H : ((logjamlaw41_few.f l0).bind fun t257 => ((logjamlaw41_few.f t257).bind fun t260 => ((o_Text.f t260).bind fun bt263 => (if bt263.2 = 0 then ((trace_Parse.f k bt263.1).bind fun bt265 => (if (bt263.1.size : Int) > 60000 then (if bt265.2 = 4 then (if (bt263.1.size : Int) ≤ 60000 then (if bt265.2 = 0 then ((logjamlaw41_same.f k bt265.1 t257).bind fun t269 => (if t269 = true then (logjamlaw41_TraceBack.j0 k a1) else (some false))) else (some false)) else (logjamlaw41_TraceBack.j0 k a1)) else (some false)) else (if (bt263.1.size : Int) ≤ 60000 then (if bt265.2 = 0 then ((logjamlaw41_same.f k bt265.1 t257).bind fun t270 => (if t270 = true then (logjamlaw41_TraceBack.j0 k a1) else (some false))) else (some false)) else (logjamlaw41_TraceBack.j0 k a1)))) else (logjamlaw41_TraceBack.j0 k a1))))) = some r := h
 clear h
 replace H := Option.bind_eq_some_iff.mp H
 obtain ⟨t257, A30, H⟩ := H
 replace H : ((logjamlaw41_few.f t257).bind fun t260 => ((o_Text.f t260).bind fun bt263 => (if bt263.2 = 0 then ((trace_Parse.f k bt263.1).bind fun bt265 => (if (bt263.1.size : Int) > 60000 then (if bt265.2 = 4 then (if (bt263.1.size : Int) ≤ 60000 then (if bt265.2 = 0 then ((logjamlaw41_same.f k bt265.1 t257).bind fun t269 => (if t269 = true then (logjamlaw41_TraceBack.j0 k a1) else (some false))) else (some false)) else (logjamlaw41_TraceBack.j0 k a1)) else (some false)) else (if (bt263.1.size : Int) ≤ 60000 then (if bt265.2 = 0 then ((logjamlaw41_same.f k bt265.1 t257).bind fun t270 => (if t270 = true then (logjamlaw41_TraceBack.j0 k a1) else (some false))) else (some false)) else (logjamlaw41_TraceBack.j0 k a1)))) else (logjamlaw41_TraceBack.j0 k a1)))) = some r := H
 have A3 := Aside0.mk A30
 clear A30
 replace H := Option.bind_eq_some_iff.mp H
 obtain ⟨t260, A40, H⟩ := H
 replace H : ((o_Text.f t260).bind fun bt263 => (if bt263.2 = 0 then ((trace_Parse.f k bt263.1).bind fun bt265 => (if (bt263.1.size : Int) > 60000 then (if bt265.2 = 4 then (if (bt263.1.size : Int) ≤ 60000 then (if bt265.2 = 0 then ((logjamlaw41_same.f k bt265.1 t257).bind fun t269 => (if t269 = true then (logjamlaw41_TraceBack.j0 k a1) else (some false))) else (some false)) else (logjamlaw41_TraceBack.j0 k a1)) else (some false)) else (if (bt263.1.size : Int) ≤ 60000 then (if bt265.2 = 0 then ((logjamlaw41_same.f k bt265.1 t257).bind fun t270 => (if t270 = true then (logjamlaw41_TraceBack.j0 k a1) else (some false))) else (some false)) else (logjamlaw41_TraceBack.j0 k a1)))) else (logjamlaw41_TraceBack.j0 k a1))) = some r := H
 have A4 := Aside0.mk A40
 clear A40
 replace H := Option.bind_eq_some_iff.mp H
 obtain ⟨⟨t263, t264⟩, A50, H⟩ := H
 replace H : (if t264 = 0 then ((trace_Parse.f k t263).bind fun bt265 => (if (t263.size : Int) > 60000 then (if bt265.2 = 4 then (if (t263.size : Int) ≤ 60000 then (if bt265.2 = 0 then ((logjamlaw41_same.f k bt265.1 t257).bind fun t269 => (if t269 = true then (logjamlaw41_TraceBack.j0 k a1) else (some false))) else (some false)) else (logjamlaw41_TraceBack.j0 k a1)) else (some false)) else (if (t263.size : Int) ≤ 60000 then (if bt265.2 = 0 then ((logjamlaw41_same.f k bt265.1 t257).bind fun t270 => (if t270 = true then (logjamlaw41_TraceBack.j0 k a1) else (some false))) else (some false)) else (logjamlaw41_TraceBack.j0 k a1)))) else (logjamlaw41_TraceBack.j0 k a1)) = some r := H
 have A5 := Aside0.mk A50
 clear A50
 have HC6 := Aside0.mk H
 clear H
 go_enter Tryd.func12, Tryd.ntmps12
 go_upto_if 22 with (first | ((with_reducible refine gate_callee (f := 44) rfl ?_); refine goesL_ (some 14) rfl rfl Tryd.func44 (by kernel_rfl) rfl #[.slice A0 l0.length c0] rfl (by (try simp only [List.map_toArray, List.map_cons, List.map_nil]); first | done | rfl | (simp only [List.length_drop, List.length_take]; rfl)) ?_; (with_reducible refine (logjamlaw41_few.calls _ _ l0 t257 _ ?side1 ?side2 A3.out).mono ?_); (case side1 => repeat (first | exact HR0.out | (with_reducible refine Kd.C_alloc ?_ _) | (with_reducible refine Kd.C_drewN ?_ _) | (with_reducible refine Kd.C_drew ?_))); (case side2 => exact HC0.out); rintro e w7 ⟨v258, rfl, ho0, hb⟩; refine ⟨_, rfl, ?_⟩; have n0_ := Aside0.mk (Kd.R_lower ho0 (below_size (by repeat (first | (with_reducible first | exact HB.out | apply below_alloc | apply pw_below_drewN | apply below_drew1) | exact HB.out)))); have n1_ := Aside0.mk (below_step (by repeat (first | (with_reducible first | exact HB.out | apply below_alloc | apply pw_below_drewN | apply below_drew1) | exact HB.out)) hb); clear HB; have HO259 := n0_; have HB := n1_; clear n0_ n1_; (try clear hb); (try clear hb2); (try clear hk); (try clear hi); (try clear ho0); obtain ⟨Ao8, co8, eo8⟩ := Kd.R_slice HO259.out; subst eo8) | ((with_reducible refine gate_callee (f := 44) rfl ?_); refine goesL_ (some 17) rfl rfl Tryd.func44 (by kernel_rfl) rfl #[.slice Ao8 t257.length co8] rfl (by (try simp only [List.map_toArray, List.map_cons, List.map_nil]); first | done | rfl | (simp only [List.length_drop, List.length_take]; rfl)) ?_; (with_reducible refine (logjamlaw41_few.calls _ _ t257 t260 _ ?side1 ?side2 A4.out).mono ?_); (case side1 => repeat (first | exact (Kd.R_reads' HO259.out).2.2 | (with_reducible refine Kd.C_alloc ?_ _) | (with_reducible refine Kd.C_drewN ?_ _) | (with_reducible refine Kd.C_drew ?_))); (case side2 => exact (Kd.R_reads' HO259.out).2.1); rintro e w9 ⟨v261, rfl, ho0, hb⟩; refine ⟨_, rfl, ?_⟩; have n0_ := Aside0.mk (Kd.R_elder' (by (with_reducible repeat (first | apply Kd.R_alloc | apply Kd.R_drewN | apply Kd.R_drew)); exact HO259.out) (Kd.R_base ho0) hb); have n1_ := Aside0.mk (Kd.R_lower (Kd.R_new' ho0 (Kd.R_lt (by (with_reducible repeat (first | apply Kd.R_alloc | apply Kd.R_drewN | apply Kd.R_drew)); exact HO259.out))) (below_size (by repeat (first | (with_reducible first | exact HB.out | apply below_alloc | apply pw_below_drewN | apply below_drew1) | exact HB.out)))); have n2_ := Aside0.mk (below_step (by repeat (first | (with_reducible first | exact HB.out | apply below_alloc | apply pw_below_drewN | apply below_drew1) | exact HB.out)) hb); clear HO259; clear HB; have HO259 := n0_; have HO262 := n1_; have HB := n2_; clear n0_ n1_ n2_; (try clear hb); (try clear hb2); (try clear hk); (try clear hi); (try clear ho0); obtain ⟨Ao10, co10, eo10⟩ := Kd.R_slice HO262.out; subst eo10) | ((with_reducible refine gate_callee (f := 48) rfl ?_); refine goesL_ (some 18) rfl rfl Tryd.func48 (by kernel_rfl) rfl #[.slice Ao10 t260.length co10] rfl (by (try simp only [List.map_toArray, List.map_cons, List.map_nil]); first | done | rfl | (simp only [List.length_drop, List.length_take]; rfl)) ?_; (with_reducible refine (o_Text.calls _ _ t260 t263 t264 _ ?side1 ?side2 A5.out ?side3).mono ?_); (case side1 => repeat (first | exact (Kd.R_reads' HO262.out).2.2 | (with_reducible refine Kd.C_alloc ?_ _) | (with_reducible refine Kd.C_drewN ?_ _) | (with_reducible refine Kd.C_drew ?_))); (case side2 => exact (Kd.R_reads' HO262.out).2.1); (case side3 => exact Gl.below HG.out (by repeat (first | (with_reducible first | exact HB.out | apply below_alloc | apply pw_below_drewN | apply below_drew1) | exact HB.out))); rintro e w11 ⟨rfl, hb⟩; refine ⟨_, rfl, ?_⟩; have n0_ := Aside0.mk (Kd.R_below (by (with_reducible repeat (first | apply Kd.R_alloc | apply Kd.R_drewN | apply Kd.R_drew)); exact HO259.out) hb); have n1_ := Aside0.mk (Kd.R_below (by (with_reducible repeat (first | apply Kd.R_alloc | apply Kd.R_drewN | apply Kd.R_drew)); exact HO262.out) hb); have n2_ := Aside0.mk (below_step (by repeat (first | (with_reducible first | exact HB.out | apply below_alloc | apply pw_below_drewN | apply below_drew1) | exact HB.out)) hb); clear HO259; clear HO262; clear HB; have HO259 := n0_; have HO262 := n1_; have HB := n2_; clear n0_ n1_ n2_; (try clear hb); (try clear hb2); (try clear hk); (try clear hi)))
 (try simp only [Act.put, List.setIfInBounds_toArray, List.set_cons_zero, List.set_cons_succ])
 go_cut [] (fun wc => ∃ (kq : Nat), Aside0 (logjamlaw41_TraceBack.j0 kq a1 = some r) ∧ Aside0 (kq ≤ k) ∧ Aside0 (Below w.heap.size w wc))
 case first =>
  have H := HC6.out
  clear HC6
  by_cases c12 : t264 = 0
  ·rw [if_pos c12] at H
   have c12b0 : (t264 == 0) = true := beq_iff_eq.mpr c12
   have c12b1 : (t264 != 0) = false := bne_eq_false_iff_eq.mpr c12
   clear c12
   (first | rw [c12b0] | (simp only [i64_w, i32_w]; rw [c12b0]) | skip)
   replace H := Option.bind_eq_some_iff.mp H
   obtain ⟨⟨t265, t266⟩, A130, H⟩ := H
   replace H : (if (t263.size : Int) > 60000 then (if t266 = 4 then (if (t263.size : Int) ≤ 60000 then (if t266 = 0 then ((logjamlaw41_same.f k t265 t257).bind fun t269 => (if t269 = true then (logjamlaw41_TraceBack.j0 k a1) else (some false))) else (some false)) else (logjamlaw41_TraceBack.j0 k a1)) else (some false)) else (if (t263.size : Int) ≤ 60000 then (if t266 = 0 then ((logjamlaw41_same.f k t265 t257).bind fun t270 => (if t270 = true then (logjamlaw41_TraceBack.j0 k a1) else (some false))) else (some false)) else (logjamlaw41_TraceBack.j0 k a1))) = some r := H
   have A13 := Aside0.mk A130
   clear A130
   by_cases c14 : (t263.size : Int) > 60000
   ·rw [if_pos c14] at H
    have c14b0 : decide (60000 < (t263.size : Int)) = true := decide_eq_true c14
    have c14b1 : decide (60000 < t263.size) = true := decide_eq_true (by omega)
    clear c14
    by_cases c15 : t266 = 4
    ·rw [if_pos c15] at H
     have c15b0 : (t266 == 4) = true := beq_iff_eq.mpr c15
     have c15b1 : (t266 != 4) = false := bne_eq_false_iff_eq.mpr c15
     clear c15
     by_cases c16 : (t263.size : Int) ≤ 60000
     ·rw [if_pos c16] at H
      have c16b0 : decide ((t263.size : Int) ≤ 60000) = true := decide_eq_true c16
      have c16b1 : decide (t263.size ≤ 60000) = true := decide_eq_true (by omega)
      clear c16
      by_cases c17 : t266 = 0
      ·rw [if_pos c17] at H
       have c17b0 : (t266 == 0) = true := beq_iff_eq.mpr c17
       have c17b1 : (t266 != 0) = false := bne_eq_false_iff_eq.mpr c17
       clear c17
       replace H := Option.bind_eq_some_iff.mp H
       obtain ⟨t269, A180, H⟩ := H
       replace H : (if t269 = true then (logjamlaw41_TraceBack.j0 k a1) else (some false)) = some r := H
       have A18 := Aside0.mk A180
       clear A180
       by_cases c19 : t269 = true
       ·subst c19
        have H1 : (logjamlaw41_TraceBack.j0 k a1) = some r := by rw [if_pos rfl] at H; exact H
        clear H
        have H := H1
        clear H1
        have H' := Aside0.mk H
        clear H
        go_wp2_with (first | ((with_reducible refine gate_callee (f := 52) rfl ?_); refine goesL_ (some 25) rfl rfl Tryd.func52 (by kernel_rfl) rfl #[.string t263] rfl (by (try simp only [List.map_toArray, List.map_cons, List.map_nil]); first | done | rfl | (simp only [List.length_drop, List.length_take]; rfl)) ?_; (with_reducible refine (trace_Parse.calls k t263 t265 t266 _ A13.out ?side1).mono ?_); (case side1 => exact Gl.below HG.out (by repeat (first | (with_reducible first | exact HB.out | apply below_alloc | apply pw_below_drewN | apply below_drew1) | exact HB.out))); rintro e w20 ⟨v267, rfl, ho0, hb⟩; refine ⟨_, rfl, ?_⟩; have n0_ := Aside0.mk (Kd.R_elder' (by (with_reducible repeat (first | apply Kd.R_alloc | apply Kd.R_drewN | apply Kd.R_drew)); exact HO259.out) (Kd.R_base ho0) hb); have n1_ := Aside0.mk (Kd.R_elder' (by (with_reducible repeat (first | apply Kd.R_alloc | apply Kd.R_drewN | apply Kd.R_drew)); exact HO262.out) (Kd.R_base ho0) hb); have n2_ := Aside0.mk (Kd.R_lower (Kd.R_new' (Kd.R_new' ho0 (Kd.R_lt (by (with_reducible repeat (first | apply Kd.R_alloc | apply Kd.R_drewN | apply Kd.R_drew)); exact HO259.out))) (Kd.R_lt (by (with_reducible repeat (first | apply Kd.R_alloc | apply Kd.R_drewN | apply Kd.R_drew)); exact HO262.out))) (below_size (by repeat (first | (with_reducible first | exact HB.out | apply below_alloc | apply pw_below_drewN | apply below_drew1) | exact HB.out)))); have n3_ := Aside0.mk (below_step (by repeat (first | (with_reducible first | exact HB.out | apply below_alloc | apply pw_below_drewN | apply below_drew1) | exact HB.out)) hb); clear HO259; clear HO262; clear HB; have HO259 := n0_; have HO262 := n1_; have HO268 := n2_; have HB := n3_; clear n0_ n1_ n2_ n3_; (try clear hb); (try clear hb2); (try clear hk); (try clear hi); (try clear ho0); obtain ⟨Ao21, co21, eo21⟩ := Kd.R_slice HO268.out; subst eo21) | (go_at_call 54; (with_reducible refine (logjamlaw41_same.calls k _ _ t265 _ _ t257 true _ ?side1 ?side2 ?side3 ?side4 A18.out).mono ?_); (case side1 => repeat (first | exact (Kd.R_reads' HO268.out).2.2 | (with_reducible refine Kd.C_alloc ?_ _) | (with_reducible refine Kd.C_drewN ?_ _) | (with_reducible refine Kd.C_drew ?_))); (case side2 => exact (Kd.R_reads' HO268.out).2.1); (case side3 => repeat (first | exact (Kd.R_reads' HO259.out).2.2 | (with_reducible refine Kd.C_alloc ?_ _) | (with_reducible refine Kd.C_drewN ?_ _) | (with_reducible refine Kd.C_drew ?_))); (case side4 => exact (Kd.R_reads' HO259.out).2.1); rintro e w' ⟨rfl, ⟨nd, rfl⟩⟩))
        go_meet
        case rel => exact ⟨_, H', ⟨by first | omega | exact Nat.le_refl _⟩, ⟨by repeat (first | (with_reducible first | exact HB.out | apply below_alloc | apply pw_below_drewN | apply below_drew1) | exact HB.out)⟩⟩
       ·replace c19 := Bool.eq_false_iff.mpr c19
        subst c19
        have H1 : (some false) = some r := by rw [if_neg (show ¬ (false = true) by decide)] at H; exact H
        clear H
        have H := H1
        clear H1
        obtain rfl := Option.some.inj H
        go_wp2_with (first | ((with_reducible refine gate_callee (f := 52) rfl ?_); refine goesL_ (some 25) rfl rfl Tryd.func52 (by kernel_rfl) rfl #[.string t263] rfl (by (try simp only [List.map_toArray, List.map_cons, List.map_nil]); first | done | rfl | (simp only [List.length_drop, List.length_take]; rfl)) ?_; (with_reducible refine (trace_Parse.calls k t263 t265 t266 _ A13.out ?side1).mono ?_); (case side1 => exact Gl.below HG.out (by repeat (first | (with_reducible first | exact HB.out | apply below_alloc | apply pw_below_drewN | apply below_drew1) | exact HB.out))); rintro e w22 ⟨v267, rfl, ho0, hb⟩; refine ⟨_, rfl, ?_⟩; have n0_ := Aside0.mk (Kd.R_elder' (by (with_reducible repeat (first | apply Kd.R_alloc | apply Kd.R_drewN | apply Kd.R_drew)); exact HO259.out) (Kd.R_base ho0) hb); have n1_ := Aside0.mk (Kd.R_elder' (by (with_reducible repeat (first | apply Kd.R_alloc | apply Kd.R_drewN | apply Kd.R_drew)); exact HO262.out) (Kd.R_base ho0) hb); have n2_ := Aside0.mk (Kd.R_lower (Kd.R_new' (Kd.R_new' ho0 (Kd.R_lt (by (with_reducible repeat (first | apply Kd.R_alloc | apply Kd.R_drewN | apply Kd.R_drew)); exact HO259.out))) (Kd.R_lt (by (with_reducible repeat (first | apply Kd.R_alloc | apply Kd.R_drewN | apply Kd.R_drew)); exact HO262.out))) (below_size (by repeat (first | (with_reducible first | exact HB.out | apply below_alloc | apply pw_below_drewN | apply below_drew1) | exact HB.out)))); have n3_ := Aside0.mk (below_step (by repeat (first | (with_reducible first | exact HB.out | apply below_alloc | apply pw_below_drewN | apply below_drew1) | exact HB.out)) hb); clear HO259; clear HO262; clear HB; have HO259 := n0_; have HO262 := n1_; have HO268 := n2_; have HB := n3_; clear n0_ n1_ n2_ n3_; (try clear hb); (try clear hb2); (try clear hk); (try clear hi); (try clear ho0); obtain ⟨Ao23, co23, eo23⟩ := Kd.R_slice HO268.out; subst eo23) | (go_at_call 54; (with_reducible refine (logjamlaw41_same.calls k _ _ t265 _ _ t257 false _ ?side1 ?side2 ?side3 ?side4 A18.out).mono ?_); (case side1 => repeat (first | exact (Kd.R_reads' HO268.out).2.2 | (with_reducible refine Kd.C_alloc ?_ _) | (with_reducible refine Kd.C_drewN ?_ _) | (with_reducible refine Kd.C_drew ?_))); (case side2 => exact (Kd.R_reads' HO268.out).2.1); (case side3 => repeat (first | exact (Kd.R_reads' HO259.out).2.2 | (with_reducible refine Kd.C_alloc ?_ _) | (with_reducible refine Kd.C_drewN ?_ _) | (with_reducible refine Kd.C_drew ?_))); (case side4 => exact (Kd.R_reads' HO259.out).2.1); rintro e w' ⟨rfl, ⟨nd, rfl⟩⟩))
        go_ret
        exact ⟨by first | rfl | (simp [errW_none, errW_some] <;> rfl) | (simp [*, errW_none, errW_some] <;> rfl), by repeat (first | (with_reducible first | exact HB.out | apply below_alloc | apply pw_below_drewN | apply below_drew1) | exact HB.out)⟩
      ·rw [if_neg c17] at H
       have c17b0 : (t266 == 0) = false := beq_eq_false_iff_ne.mpr c17
       have c17b1 : (t266 != 0) = true := bne_iff_ne.mpr c17
       obtain rfl := Option.some.inj H
       go_wp2_with (first | ((with_reducible refine gate_callee (f := 52) rfl ?_); refine goesL_ (some 25) rfl rfl Tryd.func52 (by kernel_rfl) rfl #[.string t263] rfl (by (try simp only [List.map_toArray, List.map_cons, List.map_nil]); first | done | rfl | (simp only [List.length_drop, List.length_take]; rfl)) ?_; (with_reducible refine (trace_Parse.calls k t263 t265 t266 _ A13.out ?side1).mono ?_); (case side1 => exact Gl.below HG.out (by repeat (first | (with_reducible first | exact HB.out | apply below_alloc | apply pw_below_drewN | apply below_drew1) | exact HB.out))); rintro e w24 ⟨v267, rfl, ho0, hb⟩; refine ⟨_, rfl, ?_⟩; have n0_ := Aside0.mk (Kd.R_elder' (by (with_reducible repeat (first | apply Kd.R_alloc | apply Kd.R_drewN | apply Kd.R_drew)); exact HO259.out) (Kd.R_base ho0) hb); have n1_ := Aside0.mk (Kd.R_elder' (by (with_reducible repeat (first | apply Kd.R_alloc | apply Kd.R_drewN | apply Kd.R_drew)); exact HO262.out) (Kd.R_base ho0) hb); have n2_ := Aside0.mk (Kd.R_lower (Kd.R_new' (Kd.R_new' ho0 (Kd.R_lt (by (with_reducible repeat (first | apply Kd.R_alloc | apply Kd.R_drewN | apply Kd.R_drew)); exact HO259.out))) (Kd.R_lt (by (with_reducible repeat (first | apply Kd.R_alloc | apply Kd.R_drewN | apply Kd.R_drew)); exact HO262.out))) (below_size (by repeat (first | (with_reducible first | exact HB.out | apply below_alloc | apply pw_below_drewN | apply below_drew1) | exact HB.out)))); have n3_ := Aside0.mk (below_step (by repeat (first | (with_reducible first | exact HB.out | apply below_alloc | apply pw_below_drewN | apply below_drew1) | exact HB.out)) hb); clear HO259; clear HO262; clear HB; have HO259 := n0_; have HO262 := n1_; have HO268 := n2_; have HB := n3_; clear n0_ n1_ n2_ n3_; (try clear hb); (try clear hb2); (try clear hk); (try clear hi); (try clear ho0)))
       go_ret
       exact ⟨by first | rfl | (simp [errW_none, errW_some] <;> rfl) | (simp [*, errW_none, errW_some] <;> rfl), by repeat (first | (with_reducible first | exact HB.out | apply below_alloc | apply pw_below_drewN | apply below_drew1) | exact HB.out)⟩
     ·rw [if_neg c16] at H
      have c16b0 : decide ((t263.size : Int) ≤ 60000) = false := decide_eq_false c16
      have c16b1 : decide (t263.size ≤ 60000) = false := decide_eq_false (by omega)
      clear c16
      have H' := Aside0.mk H
      clear H
      go_wp2_with (first | ((with_reducible refine gate_callee (f := 52) rfl ?_); refine goesL_ (some 25) rfl rfl Tryd.func52 (by kernel_rfl) rfl #[.string t263] rfl (by (try simp only [List.map_toArray, List.map_cons, List.map_nil]); first | done | rfl | (simp only [List.length_drop, List.length_take]; rfl)) ?_; (with_reducible refine (trace_Parse.calls k t263 t265 t266 _ A13.out ?side1).mono ?_); (case side1 => exact Gl.below HG.out (by repeat (first | (with_reducible first | exact HB.out | apply below_alloc | apply pw_below_drewN | apply below_drew1) | exact HB.out))); rintro e w25 ⟨v267, rfl, ho0, hb⟩; refine ⟨_, rfl, ?_⟩; have n0_ := Aside0.mk (Kd.R_elder' (by (with_reducible repeat (first | apply Kd.R_alloc | apply Kd.R_drewN | apply Kd.R_drew)); exact HO259.out) (Kd.R_base ho0) hb); have n1_ := Aside0.mk (Kd.R_elder' (by (with_reducible repeat (first | apply Kd.R_alloc | apply Kd.R_drewN | apply Kd.R_drew)); exact HO262.out) (Kd.R_base ho0) hb); have n2_ := Aside0.mk (Kd.R_lower (Kd.R_new' (Kd.R_new' ho0 (Kd.R_lt (by (with_reducible repeat (first | apply Kd.R_alloc | apply Kd.R_drewN | apply Kd.R_drew)); exact HO259.out))) (Kd.R_lt (by (with_reducible repeat (first | apply Kd.R_alloc | apply Kd.R_drewN | apply Kd.R_drew)); exact HO262.out))) (below_size (by repeat (first | (with_reducible first | exact HB.out | apply below_alloc | apply pw_below_drewN | apply below_drew1) | exact HB.out)))); have n3_ := Aside0.mk (below_step (by repeat (first | (with_reducible first | exact HB.out | apply below_alloc | apply pw_below_drewN | apply below_drew1) | exact HB.out)) hb); clear HO259; clear HO262; clear HB; have HO259 := n0_; have HO262 := n1_; have HO268 := n2_; have HB := n3_; clear n0_ n1_ n2_ n3_; (try clear hb); (try clear hb2); (try clear hk); (try clear hi); (try clear ho0)))
      go_meet
      case rel => exact ⟨_, H', ⟨by first | omega | exact Nat.le_refl _⟩, ⟨by repeat (first | (with_reducible first | exact HB.out | apply below_alloc | apply pw_below_drewN | apply below_drew1) | exact HB.out)⟩⟩
    ·rw [if_neg c15] at H
     have c15b0 : (t266 == 4) = false := beq_eq_false_iff_ne.mpr c15
     have c15b1 : (t266 != 4) = true := bne_iff_ne.mpr c15
     obtain rfl := Option.some.inj H
     go_wp2_with (first | ((with_reducible refine gate_callee (f := 52) rfl ?_); refine goesL_ (some 25) rfl rfl Tryd.func52 (by kernel_rfl) rfl #[.string t263] rfl (by (try simp only [List.map_toArray, List.map_cons, List.map_nil]); first | done | rfl | (simp only [List.length_drop, List.length_take]; rfl)) ?_; (with_reducible refine (trace_Parse.calls k t263 t265 t266 _ A13.out ?side1).mono ?_); (case side1 => exact Gl.below HG.out (by repeat (first | (with_reducible first | exact HB.out | apply below_alloc | apply pw_below_drewN | apply below_drew1) | exact HB.out))); rintro e w26 ⟨v267, rfl, ho0, hb⟩; refine ⟨_, rfl, ?_⟩; have n0_ := Aside0.mk (Kd.R_elder' (by (with_reducible repeat (first | apply Kd.R_alloc | apply Kd.R_drewN | apply Kd.R_drew)); exact HO259.out) (Kd.R_base ho0) hb); have n1_ := Aside0.mk (Kd.R_elder' (by (with_reducible repeat (first | apply Kd.R_alloc | apply Kd.R_drewN | apply Kd.R_drew)); exact HO262.out) (Kd.R_base ho0) hb); have n2_ := Aside0.mk (Kd.R_lower (Kd.R_new' (Kd.R_new' ho0 (Kd.R_lt (by (with_reducible repeat (first | apply Kd.R_alloc | apply Kd.R_drewN | apply Kd.R_drew)); exact HO259.out))) (Kd.R_lt (by (with_reducible repeat (first | apply Kd.R_alloc | apply Kd.R_drewN | apply Kd.R_drew)); exact HO262.out))) (below_size (by repeat (first | (with_reducible first | exact HB.out | apply below_alloc | apply pw_below_drewN | apply below_drew1) | exact HB.out)))); have n3_ := Aside0.mk (below_step (by repeat (first | (with_reducible first | exact HB.out | apply below_alloc | apply pw_below_drewN | apply below_drew1) | exact HB.out)) hb); clear HO259; clear HO262; clear HB; have HO259 := n0_; have HO262 := n1_; have HO268 := n2_; have HB := n3_; clear n0_ n1_ n2_ n3_; (try clear hb); (try clear hb2); (try clear hk); (try clear hi); (try clear ho0)))
     go_ret
     exact ⟨by first | rfl | (simp [errW_none, errW_some] <;> rfl) | (simp [*, errW_none, errW_some] <;> rfl), by repeat (first | (with_reducible first | exact HB.out | apply below_alloc | apply pw_below_drewN | apply below_drew1) | exact HB.out)⟩
   ·rw [if_neg c14] at H
    have c14b0 : decide (60000 < (t263.size : Int)) = false := decide_eq_false c14
    have c14b1 : decide (60000 < t263.size) = false := decide_eq_false (by omega)
    clear c14
    by_cases c27 : (t263.size : Int) ≤ 60000
    ·rw [if_pos c27] at H
     have c27b0 : decide ((t263.size : Int) ≤ 60000) = true := decide_eq_true c27
     have c27b1 : decide (t263.size ≤ 60000) = true := decide_eq_true (by omega)
     clear c27
     by_cases c28 : t266 = 0
     ·rw [if_pos c28] at H
      have c28b0 : (t266 == 0) = true := beq_iff_eq.mpr c28
      have c28b1 : (t266 != 0) = false := bne_eq_false_iff_eq.mpr c28
      clear c28
      replace H := Option.bind_eq_some_iff.mp H
      obtain ⟨t270, A290, H⟩ := H
      replace H : (if t270 = true then (logjamlaw41_TraceBack.j0 k a1) else (some false)) = some r := H
      have A29 := Aside0.mk A290
      clear A290
      by_cases c30 : t270 = true
      ·subst c30
       have H1 : (logjamlaw41_TraceBack.j0 k a1) = some r := by rw [if_pos rfl] at H; exact H
       clear H
       have H := H1
       clear H1
       have H' := Aside0.mk H
       clear H
       go_wp2_with (first | ((with_reducible refine gate_callee (f := 52) rfl ?_); refine goesL_ (some 25) rfl rfl Tryd.func52 (by kernel_rfl) rfl #[.string t263] rfl (by (try simp only [List.map_toArray, List.map_cons, List.map_nil]); first | done | rfl | (simp only [List.length_drop, List.length_take]; rfl)) ?_; (with_reducible refine (trace_Parse.calls k t263 t265 t266 _ A13.out ?side1).mono ?_); (case side1 => exact Gl.below HG.out (by repeat (first | (with_reducible first | exact HB.out | apply below_alloc | apply pw_below_drewN | apply below_drew1) | exact HB.out))); rintro e w31 ⟨v267, rfl, ho0, hb⟩; refine ⟨_, rfl, ?_⟩; have n0_ := Aside0.mk (Kd.R_elder' (by (with_reducible repeat (first | apply Kd.R_alloc | apply Kd.R_drewN | apply Kd.R_drew)); exact HO259.out) (Kd.R_base ho0) hb); have n1_ := Aside0.mk (Kd.R_elder' (by (with_reducible repeat (first | apply Kd.R_alloc | apply Kd.R_drewN | apply Kd.R_drew)); exact HO262.out) (Kd.R_base ho0) hb); have n2_ := Aside0.mk (Kd.R_lower (Kd.R_new' (Kd.R_new' ho0 (Kd.R_lt (by (with_reducible repeat (first | apply Kd.R_alloc | apply Kd.R_drewN | apply Kd.R_drew)); exact HO259.out))) (Kd.R_lt (by (with_reducible repeat (first | apply Kd.R_alloc | apply Kd.R_drewN | apply Kd.R_drew)); exact HO262.out))) (below_size (by repeat (first | (with_reducible first | exact HB.out | apply below_alloc | apply pw_below_drewN | apply below_drew1) | exact HB.out)))); have n3_ := Aside0.mk (below_step (by repeat (first | (with_reducible first | exact HB.out | apply below_alloc | apply pw_below_drewN | apply below_drew1) | exact HB.out)) hb); clear HO259; clear HO262; clear HB; have HO259 := n0_; have HO262 := n1_; have HO268 := n2_; have HB := n3_; clear n0_ n1_ n2_ n3_; (try clear hb); (try clear hb2); (try clear hk); (try clear hi); (try clear ho0); obtain ⟨Ao32, co32, eo32⟩ := Kd.R_slice HO268.out; subst eo32) | (go_at_call 54; (with_reducible refine (logjamlaw41_same.calls k _ _ t265 _ _ t257 true _ ?side1 ?side2 ?side3 ?side4 A29.out).mono ?_); (case side1 => repeat (first | exact (Kd.R_reads' HO268.out).2.2 | (with_reducible refine Kd.C_alloc ?_ _) | (with_reducible refine Kd.C_drewN ?_ _) | (with_reducible refine Kd.C_drew ?_))); (case side2 => exact (Kd.R_reads' HO268.out).2.1); (case side3 => repeat (first | exact (Kd.R_reads' HO259.out).2.2 | (with_reducible refine Kd.C_alloc ?_ _) | (with_reducible refine Kd.C_drewN ?_ _) | (with_reducible refine Kd.C_drew ?_))); (case side4 => exact (Kd.R_reads' HO259.out).2.1); rintro e w' ⟨rfl, ⟨nd, rfl⟩⟩))
       go_meet
       case rel => exact ⟨_, H', ⟨by first | omega | exact Nat.le_refl _⟩, ⟨by repeat (first | (with_reducible first | exact HB.out | apply below_alloc | apply pw_below_drewN | apply below_drew1) | exact HB.out)⟩⟩
      ·replace c30 := Bool.eq_false_iff.mpr c30
       subst c30
       have H1 : (some false) = some r := by rw [if_neg (show ¬ (false = true) by decide)] at H; exact H
       clear H
       have H := H1
       clear H1
       obtain rfl := Option.some.inj H
       go_wp2_with (first | ((with_reducible refine gate_callee (f := 52) rfl ?_); refine goesL_ (some 25) rfl rfl Tryd.func52 (by kernel_rfl) rfl #[.string t263] rfl (by (try simp only [List.map_toArray, List.map_cons, List.map_nil]); first | done | rfl | (simp only [List.length_drop, List.length_take]; rfl)) ?_; (with_reducible refine (trace_Parse.calls k t263 t265 t266 _ A13.out ?side1).mono ?_); (case side1 => exact Gl.below HG.out (by repeat (first | (with_reducible first | exact HB.out | apply below_alloc | apply pw_below_drewN | apply below_drew1) | exact HB.out))); rintro e w33 ⟨v267, rfl, ho0, hb⟩; refine ⟨_, rfl, ?_⟩; have n0_ := Aside0.mk (Kd.R_elder' (by (with_reducible repeat (first | apply Kd.R_alloc | apply Kd.R_drewN | apply Kd.R_drew)); exact HO259.out) (Kd.R_base ho0) hb); have n1_ := Aside0.mk (Kd.R_elder' (by (with_reducible repeat (first | apply Kd.R_alloc | apply Kd.R_drewN | apply Kd.R_drew)); exact HO262.out) (Kd.R_base ho0) hb); have n2_ := Aside0.mk (Kd.R_lower (Kd.R_new' (Kd.R_new' ho0 (Kd.R_lt (by (with_reducible repeat (first | apply Kd.R_alloc | apply Kd.R_drewN | apply Kd.R_drew)); exact HO259.out))) (Kd.R_lt (by (with_reducible repeat (first | apply Kd.R_alloc | apply Kd.R_drewN | apply Kd.R_drew)); exact HO262.out))) (below_size (by repeat (first | (with_reducible first | exact HB.out | apply below_alloc | apply pw_below_drewN | apply below_drew1) | exact HB.out)))); have n3_ := Aside0.mk (below_step (by repeat (first | (with_reducible first | exact HB.out | apply below_alloc | apply pw_below_drewN | apply below_drew1) | exact HB.out)) hb); clear HO259; clear HO262; clear HB; have HO259 := n0_; have HO262 := n1_; have HO268 := n2_; have HB := n3_; clear n0_ n1_ n2_ n3_; (try clear hb); (try clear hb2); (try clear hk); (try clear hi); (try clear ho0); obtain ⟨Ao34, co34, eo34⟩ := Kd.R_slice HO268.out; subst eo34) | (go_at_call 54; (with_reducible refine (logjamlaw41_same.calls k _ _ t265 _ _ t257 false _ ?side1 ?side2 ?side3 ?side4 A29.out).mono ?_); (case side1 => repeat (first | exact (Kd.R_reads' HO268.out).2.2 | (with_reducible refine Kd.C_alloc ?_ _) | (with_reducible refine Kd.C_drewN ?_ _) | (with_reducible refine Kd.C_drew ?_))); (case side2 => exact (Kd.R_reads' HO268.out).2.1); (case side3 => repeat (first | exact (Kd.R_reads' HO259.out).2.2 | (with_reducible refine Kd.C_alloc ?_ _) | (with_reducible refine Kd.C_drewN ?_ _) | (with_reducible refine Kd.C_drew ?_))); (case side4 => exact (Kd.R_reads' HO259.out).2.1); rintro e w' ⟨rfl, ⟨nd, rfl⟩⟩))
       go_ret
       exact ⟨by first | rfl | (simp [errW_none, errW_some] <;> rfl) | (simp [*, errW_none, errW_some] <;> rfl), by repeat (first | (with_reducible first | exact HB.out | apply below_alloc | apply pw_below_drewN | apply below_drew1) | exact HB.out)⟩
     ·rw [if_neg c28] at H
      have c28b0 : (t266 == 0) = false := beq_eq_false_iff_ne.mpr c28
      have c28b1 : (t266 != 0) = true := bne_iff_ne.mpr c28
      obtain rfl := Option.some.inj H
      go_wp2_with (first | ((with_reducible refine gate_callee (f := 52) rfl ?_); refine goesL_ (some 25) rfl rfl Tryd.func52 (by kernel_rfl) rfl #[.string t263] rfl (by (try simp only [List.map_toArray, List.map_cons, List.map_nil]); first | done | rfl | (simp only [List.length_drop, List.length_take]; rfl)) ?_; (with_reducible refine (trace_Parse.calls k t263 t265 t266 _ A13.out ?side1).mono ?_); (case side1 => exact Gl.below HG.out (by repeat (first | (with_reducible first | exact HB.out | apply below_alloc | apply pw_below_drewN | apply below_drew1) | exact HB.out))); rintro e w35 ⟨v267, rfl, ho0, hb⟩; refine ⟨_, rfl, ?_⟩; have n0_ := Aside0.mk (Kd.R_elder' (by (with_reducible repeat (first | apply Kd.R_alloc | apply Kd.R_drewN | apply Kd.R_drew)); exact HO259.out) (Kd.R_base ho0) hb); have n1_ := Aside0.mk (Kd.R_elder' (by (with_reducible repeat (first | apply Kd.R_alloc | apply Kd.R_drewN | apply Kd.R_drew)); exact HO262.out) (Kd.R_base ho0) hb); have n2_ := Aside0.mk (Kd.R_lower (Kd.R_new' (Kd.R_new' ho0 (Kd.R_lt (by (with_reducible repeat (first | apply Kd.R_alloc | apply Kd.R_drewN | apply Kd.R_drew)); exact HO259.out))) (Kd.R_lt (by (with_reducible repeat (first | apply Kd.R_alloc | apply Kd.R_drewN | apply Kd.R_drew)); exact HO262.out))) (below_size (by repeat (first | (with_reducible first | exact HB.out | apply below_alloc | apply pw_below_drewN | apply below_drew1) | exact HB.out)))); have n3_ := Aside0.mk (below_step (by repeat (first | (with_reducible first | exact HB.out | apply below_alloc | apply pw_below_drewN | apply below_drew1) | exact HB.out)) hb); clear HO259; clear HO262; clear HB; have HO259 := n0_; have HO262 := n1_; have HO268 := n2_; have HB := n3_; clear n0_ n1_ n2_ n3_; (try clear hb); (try clear hb2); (try clear hk); (try clear hi); (try clear ho0)))
      go_ret
      exact ⟨by first | rfl | (simp [errW_none, errW_some] <;> rfl) | (simp [*, errW_none, errW_some] <;> rfl), by repeat (first | (with_reducible first | exact HB.out | apply below_alloc | apply pw_below_drewN | apply below_drew1) | exact HB.out)⟩
    ·rw [if_neg c27] at H
     have c27b0 : decide ((t263.size : Int) ≤ 60000) = false := decide_eq_false c27
     have c27b1 : decide (t263.size ≤ 60000) = false := decide_eq_false (by omega)
     clear c27
     have H' := Aside0.mk H
     clear H
     go_wp2_with (first | ((with_reducible refine gate_callee (f := 52) rfl ?_); refine goesL_ (some 25) rfl rfl Tryd.func52 (by kernel_rfl) rfl #[.string t263] rfl (by (try simp only [List.map_toArray, List.map_cons, List.map_nil]); first | done | rfl | (simp only [List.length_drop, List.length_take]; rfl)) ?_; (with_reducible refine (trace_Parse.calls k t263 t265 t266 _ A13.out ?side1).mono ?_); (case side1 => exact Gl.below HG.out (by repeat (first | (with_reducible first | exact HB.out | apply below_alloc | apply pw_below_drewN | apply below_drew1) | exact HB.out))); rintro e w36 ⟨v267, rfl, ho0, hb⟩; refine ⟨_, rfl, ?_⟩; have n0_ := Aside0.mk (Kd.R_elder' (by (with_reducible repeat (first | apply Kd.R_alloc | apply Kd.R_drewN | apply Kd.R_drew)); exact HO259.out) (Kd.R_base ho0) hb); have n1_ := Aside0.mk (Kd.R_elder' (by (with_reducible repeat (first | apply Kd.R_alloc | apply Kd.R_drewN | apply Kd.R_drew)); exact HO262.out) (Kd.R_base ho0) hb); have n2_ := Aside0.mk (Kd.R_lower (Kd.R_new' (Kd.R_new' ho0 (Kd.R_lt (by (with_reducible repeat (first | apply Kd.R_alloc | apply Kd.R_drewN | apply Kd.R_drew)); exact HO259.out))) (Kd.R_lt (by (with_reducible repeat (first | apply Kd.R_alloc | apply Kd.R_drewN | apply Kd.R_drew)); exact HO262.out))) (below_size (by repeat (first | (with_reducible first | exact HB.out | apply below_alloc | apply pw_below_drewN | apply below_drew1) | exact HB.out)))); have n3_ := Aside0.mk (below_step (by repeat (first | (with_reducible first | exact HB.out | apply below_alloc | apply pw_below_drewN | apply below_drew1) | exact HB.out)) hb); clear HO259; clear HO262; clear HB; have HO259 := n0_; have HO262 := n1_; have HO268 := n2_; have HB := n3_; clear n0_ n1_ n2_ n3_; (try clear hb); (try clear hb2); (try clear hk); (try clear hi); (try clear ho0)))
     go_meet
     case rel => exact ⟨_, H', ⟨by first | omega | exact Nat.le_refl _⟩, ⟨by repeat (first | (with_reducible first | exact HB.out | apply below_alloc | apply pw_below_drewN | apply below_drew1) | exact HB.out)⟩⟩
  ·rw [if_neg c12] at H
   have c12b0 : (t264 == 0) = false := beq_eq_false_iff_ne.mpr c12
   have c12b1 : (t264 != 0) = true := bne_iff_ne.mpr c12
   (first | rw [c12b0] | (simp only [i64_w, i32_w]; rw [c12b0]) | skip)
   have H' := Aside0.mk H
   clear H
   go_wp2
   go_meet
   case rel => exact ⟨_, H', ⟨by first | omega | exact Nat.le_refl _⟩, ⟨by repeat (first | (with_reducible first | exact HB.out | apply below_alloc | apply pw_below_drewN | apply below_drew1) | exact HB.out)⟩⟩
 case rest =>
  clear HC6
  try clear c1
  try clear c2
  try clear p2
  try clear c3
  try clear c4
  try clear c5
  try clear c12
  try clear c12b0
  try clear c12b1
  try clear c14
  try clear c14b0
  try clear c14b1
  try clear c15
  try clear c15b0
  try clear c15b1
  try clear c16
  try clear c16b0
  try clear c16b1
  try clear c17
  try clear c17b0
  try clear c17b1
  try clear c19
  try clear c27
  try clear c27b0
  try clear c27b1
  try clear c28
  try clear c28b0
  try clear c28b1
  try clear c30
  obtain ⟨kq, HA, HJ5, HB⟩ := hcut
  cases kq with
  | zero => exact absurd HA.out (by simp [logjamlaw41_TraceBack.j0])
  | succ kj5 =>
   have H := HA.out
   clear HA
   simp only [logjamlaw41_TraceBack.j0] at H
   replace H := Option.bind_eq_some_iff.mp H
   obtain ⟨⟨t271, t272⟩, A370, H⟩ := H
   replace H : (if t272 = 0 then ((o_Text.f t271).bind fun bt275 => (if bt275.2 = 0 then (if bt275.1.toList = a1.toList then ((logjamlaw41_lives.f kj5).bind fun t277 => (some t277)) else (some false)) else (some false))) else (if (t271.length : Int) = 0 then ((logjamlaw41_lives.f kj5).bind fun t278 => (some t278)) else (some false))) = some r := H
   have A37 := Aside0.mk A370
   clear A370
   by_cases c38 : t272 = 0
   ·rw [if_pos c38] at H
    have c38b0 : (t272 == 0) = true := beq_iff_eq.mpr c38
    have c38b1 : (t272 != 0) = false := bne_eq_false_iff_eq.mpr c38
    clear c38
    replace H := Option.bind_eq_some_iff.mp H
    obtain ⟨⟨t275, t276⟩, A390, H⟩ := H
    replace H : (if t276 = 0 then (if t275.toList = a1.toList then ((logjamlaw41_lives.f kj5).bind fun t277 => (some t277)) else (some false)) else (some false)) = some r := H
    have A39 := Aside0.mk A390
    clear A390
    by_cases c40 : t276 = 0
    ·rw [if_pos c40] at H
     have c40b0 : (t276 == 0) = true := beq_iff_eq.mpr c40
     have c40b1 : (t276 != 0) = false := bne_eq_false_iff_eq.mpr c40
     clear c40
     by_cases c41 : t275.toList = a1.toList
     ·rw [if_pos c41] at H
      have c41b0 : (t275.toList == a1.toList) = true := beq_iff_eq.mpr c41
      have c41b1 : (t275.toList != a1.toList) = false := bne_eq_false_iff_eq.mpr c41
      clear c41
      replace H := Option.bind_eq_some_iff.mp H
      obtain ⟨t277, A420, H⟩ := H
      replace H : (some t277) = some r := H
      have A42 := Aside0.mk A420
      clear A420
      obtain rfl := Option.some.inj H
      go_wp2_with (first | ((with_reducible refine gate_callee (f := 52) rfl ?_); refine goesL_ (some 52) rfl rfl Tryd.func52 (by kernel_rfl) rfl #[.string a1] rfl (by (try simp only [List.map_toArray, List.map_cons, List.map_nil]); first | done | rfl | (simp only [List.length_drop, List.length_take]; rfl)) ?_; (with_reducible refine (trace_Parse.calls kj5 a1 t271 t272 _ A37.out ?side1).mono ?_); (case side1 => exact Gl.below HG.out (by repeat (first | (with_reducible first | exact HB.out | apply below_alloc | apply pw_below_drewN | apply below_drew1) | exact HB.out))); rintro e w43 ⟨v273, rfl, ho0, hb⟩; refine ⟨_, rfl, ?_⟩; have n0_ := Aside0.mk (Kd.R_lower ho0 (below_size (by repeat (first | (with_reducible first | exact HB.out | apply below_alloc | apply pw_below_drewN | apply below_drew1) | exact HB.out)))); have n1_ := Aside0.mk (below_step (by repeat (first | (with_reducible first | exact HB.out | apply below_alloc | apply pw_below_drewN | apply below_drew1) | exact HB.out)) hb); clear HB; have HO274 := n0_; have HB := n1_; clear n0_ n1_; (try clear hb); (try clear hb2); (try clear hk); (try clear hi); (try clear ho0); obtain ⟨Ao44, co44, eo44⟩ := Kd.R_slice HO274.out; subst eo44) | ((with_reducible refine gate_callee (f := 48) rfl ?_); refine goesL_ (some 65) rfl rfl Tryd.func48 (by kernel_rfl) rfl #[.slice Ao44 t271.length co44] rfl (by (try simp only [List.map_toArray, List.map_cons, List.map_nil]); first | done | rfl | (simp only [List.length_drop, List.length_take]; rfl)) ?_; (with_reducible refine (o_Text.calls _ _ t271 t275 t276 _ ?side1 ?side2 A39.out ?side3).mono ?_); (case side1 => repeat (first | exact (Kd.R_reads' HO274.out).2.2 | (with_reducible refine Kd.C_alloc ?_ _) | (with_reducible refine Kd.C_drewN ?_ _) | (with_reducible refine Kd.C_drew ?_))); (case side2 => exact (Kd.R_reads' HO274.out).2.1); (case side3 => exact Gl.below HG.out (by repeat (first | (with_reducible first | exact HB.out | apply below_alloc | apply pw_below_drewN | apply below_drew1) | exact HB.out))); rintro e w45 ⟨rfl, hb⟩; refine ⟨_, rfl, ?_⟩; have n0_ := Aside0.mk (Kd.R_below (by (with_reducible repeat (first | apply Kd.R_alloc | apply Kd.R_drewN | apply Kd.R_drew)); exact HO274.out) hb); have n1_ := Aside0.mk (below_step (by repeat (first | (with_reducible first | exact HB.out | apply below_alloc | apply pw_below_drewN | apply below_drew1) | exact HB.out)) hb); clear HO274; clear HB; have HO274 := n0_; have HB := n1_; clear n0_ n1_; (try clear hb); (try clear hb2); (try clear hk); (try clear hi)) | (go_at_call 51; (with_reducible refine (logjamlaw41_lives.calls kj5  t277 _ A42.out ?side1).mono ?_); (case side1 => exact Gl.below HG.out (by repeat (first | (with_reducible first | exact HB.out | apply below_alloc | apply pw_below_drewN | apply below_drew1) | exact HB.out))); rintro e w46 ⟨rfl, hb⟩; have n0_ := Aside0.mk (Kd.R_below (by (with_reducible repeat (first | apply Kd.R_alloc | apply Kd.R_drewN | apply Kd.R_drew)); exact HO274.out) hb); have n1_ := Aside0.mk (below_step (by repeat (first | (with_reducible first | exact HB.out | apply below_alloc | apply pw_below_drewN | apply below_drew1) | exact HB.out)) hb); clear HO274; clear HB; have HO274 := n0_; have HB := n1_; clear n0_ n1_; (try clear hb); (try clear hb2); (try clear hk); (try clear hi)))
      go_ret
      exact ⟨by first | rfl | (simp [errW_none, errW_some] <;> rfl) | (simp [*, errW_none, errW_some] <;> rfl), by repeat (first | (with_reducible first | exact HB.out | apply below_alloc | apply pw_below_drewN | apply below_drew1) | exact HB.out)⟩
     ·rw [if_neg c41] at H
      have c41b0 : (t275.toList == a1.toList) = false := beq_eq_false_iff_ne.mpr c41
      have c41b1 : (t275.toList != a1.toList) = true := bne_iff_ne.mpr c41
      obtain rfl := Option.some.inj H
      go_wp2_with (first | ((with_reducible refine gate_callee (f := 52) rfl ?_); refine goesL_ (some 52) rfl rfl Tryd.func52 (by kernel_rfl) rfl #[.string a1] rfl (by (try simp only [List.map_toArray, List.map_cons, List.map_nil]); first | done | rfl | (simp only [List.length_drop, List.length_take]; rfl)) ?_; (with_reducible refine (trace_Parse.calls kj5 a1 t271 t272 _ A37.out ?side1).mono ?_); (case side1 => exact Gl.below HG.out (by repeat (first | (with_reducible first | exact HB.out | apply below_alloc | apply pw_below_drewN | apply below_drew1) | exact HB.out))); rintro e w47 ⟨v273, rfl, ho0, hb⟩; refine ⟨_, rfl, ?_⟩; have n0_ := Aside0.mk (Kd.R_lower ho0 (below_size (by repeat (first | (with_reducible first | exact HB.out | apply below_alloc | apply pw_below_drewN | apply below_drew1) | exact HB.out)))); have n1_ := Aside0.mk (below_step (by repeat (first | (with_reducible first | exact HB.out | apply below_alloc | apply pw_below_drewN | apply below_drew1) | exact HB.out)) hb); clear HB; have HO274 := n0_; have HB := n1_; clear n0_ n1_; (try clear hb); (try clear hb2); (try clear hk); (try clear hi); (try clear ho0); obtain ⟨Ao48, co48, eo48⟩ := Kd.R_slice HO274.out; subst eo48) | ((with_reducible refine gate_callee (f := 48) rfl ?_); refine goesL_ (some 65) rfl rfl Tryd.func48 (by kernel_rfl) rfl #[.slice Ao48 t271.length co48] rfl (by (try simp only [List.map_toArray, List.map_cons, List.map_nil]); first | done | rfl | (simp only [List.length_drop, List.length_take]; rfl)) ?_; (with_reducible refine (o_Text.calls _ _ t271 t275 t276 _ ?side1 ?side2 A39.out ?side3).mono ?_); (case side1 => repeat (first | exact (Kd.R_reads' HO274.out).2.2 | (with_reducible refine Kd.C_alloc ?_ _) | (with_reducible refine Kd.C_drewN ?_ _) | (with_reducible refine Kd.C_drew ?_))); (case side2 => exact (Kd.R_reads' HO274.out).2.1); (case side3 => exact Gl.below HG.out (by repeat (first | (with_reducible first | exact HB.out | apply below_alloc | apply pw_below_drewN | apply below_drew1) | exact HB.out))); rintro e w49 ⟨rfl, hb⟩; refine ⟨_, rfl, ?_⟩; have n0_ := Aside0.mk (Kd.R_below (by (with_reducible repeat (first | apply Kd.R_alloc | apply Kd.R_drewN | apply Kd.R_drew)); exact HO274.out) hb); have n1_ := Aside0.mk (below_step (by repeat (first | (with_reducible first | exact HB.out | apply below_alloc | apply pw_below_drewN | apply below_drew1) | exact HB.out)) hb); clear HO274; clear HB; have HO274 := n0_; have HB := n1_; clear n0_ n1_; (try clear hb); (try clear hb2); (try clear hk); (try clear hi)))
      go_ret
      exact ⟨by first | rfl | (simp [errW_none, errW_some] <;> rfl) | (simp [*, errW_none, errW_some] <;> rfl), by repeat (first | (with_reducible first | exact HB.out | apply below_alloc | apply pw_below_drewN | apply below_drew1) | exact HB.out)⟩
    ·rw [if_neg c40] at H
     have c40b0 : (t276 == 0) = false := beq_eq_false_iff_ne.mpr c40
     have c40b1 : (t276 != 0) = true := bne_iff_ne.mpr c40
     obtain rfl := Option.some.inj H
     go_wp2_with (first | ((with_reducible refine gate_callee (f := 52) rfl ?_); refine goesL_ (some 52) rfl rfl Tryd.func52 (by kernel_rfl) rfl #[.string a1] rfl (by (try simp only [List.map_toArray, List.map_cons, List.map_nil]); first | done | rfl | (simp only [List.length_drop, List.length_take]; rfl)) ?_; (with_reducible refine (trace_Parse.calls kj5 a1 t271 t272 _ A37.out ?side1).mono ?_); (case side1 => exact Gl.below HG.out (by repeat (first | (with_reducible first | exact HB.out | apply below_alloc | apply pw_below_drewN | apply below_drew1) | exact HB.out))); rintro e w50 ⟨v273, rfl, ho0, hb⟩; refine ⟨_, rfl, ?_⟩; have n0_ := Aside0.mk (Kd.R_lower ho0 (below_size (by repeat (first | (with_reducible first | exact HB.out | apply below_alloc | apply pw_below_drewN | apply below_drew1) | exact HB.out)))); have n1_ := Aside0.mk (below_step (by repeat (first | (with_reducible first | exact HB.out | apply below_alloc | apply pw_below_drewN | apply below_drew1) | exact HB.out)) hb); clear HB; have HO274 := n0_; have HB := n1_; clear n0_ n1_; (try clear hb); (try clear hb2); (try clear hk); (try clear hi); (try clear ho0); obtain ⟨Ao51, co51, eo51⟩ := Kd.R_slice HO274.out; subst eo51) | ((with_reducible refine gate_callee (f := 48) rfl ?_); refine goesL_ (some 65) rfl rfl Tryd.func48 (by kernel_rfl) rfl #[.slice Ao51 t271.length co51] rfl (by (try simp only [List.map_toArray, List.map_cons, List.map_nil]); first | done | rfl | (simp only [List.length_drop, List.length_take]; rfl)) ?_; (with_reducible refine (o_Text.calls _ _ t271 t275 t276 _ ?side1 ?side2 A39.out ?side3).mono ?_); (case side1 => repeat (first | exact (Kd.R_reads' HO274.out).2.2 | (with_reducible refine Kd.C_alloc ?_ _) | (with_reducible refine Kd.C_drewN ?_ _) | (with_reducible refine Kd.C_drew ?_))); (case side2 => exact (Kd.R_reads' HO274.out).2.1); (case side3 => exact Gl.below HG.out (by repeat (first | (with_reducible first | exact HB.out | apply below_alloc | apply pw_below_drewN | apply below_drew1) | exact HB.out))); rintro e w52 ⟨rfl, hb⟩; refine ⟨_, rfl, ?_⟩; have n0_ := Aside0.mk (Kd.R_below (by (with_reducible repeat (first | apply Kd.R_alloc | apply Kd.R_drewN | apply Kd.R_drew)); exact HO274.out) hb); have n1_ := Aside0.mk (below_step (by repeat (first | (with_reducible first | exact HB.out | apply below_alloc | apply pw_below_drewN | apply below_drew1) | exact HB.out)) hb); clear HO274; clear HB; have HO274 := n0_; have HB := n1_; clear n0_ n1_; (try clear hb); (try clear hb2); (try clear hk); (try clear hi)))
     go_ret
     exact ⟨by first | rfl | (simp [errW_none, errW_some] <;> rfl) | (simp [*, errW_none, errW_some] <;> rfl), by repeat (first | (with_reducible first | exact HB.out | apply below_alloc | apply pw_below_drewN | apply below_drew1) | exact HB.out)⟩
   ·rw [if_neg c38] at H
    have c38b0 : (t272 == 0) = false := beq_eq_false_iff_ne.mpr c38
    have c38b1 : (t272 != 0) = true := bne_iff_ne.mpr c38
    by_cases c53 : (t271.length : Int) = 0
    ·rw [if_pos c53] at H
     have c53b0 : ((t271.length : Int) == 0) = true := beq_iff_eq.mpr c53
     have c53b1 : ((t271.length : Int) != 0) = false := bne_eq_false_iff_eq.mpr c53
     clear c53
     replace H := Option.bind_eq_some_iff.mp H
     obtain ⟨t278, A540, H⟩ := H
     replace H : (some t278) = some r := H
     have A54 := Aside0.mk A540
     clear A540
     obtain rfl := Option.some.inj H
     go_wp2_with (first | ((with_reducible refine gate_callee (f := 52) rfl ?_); refine goesL_ (some 52) rfl rfl Tryd.func52 (by kernel_rfl) rfl #[.string a1] rfl (by (try simp only [List.map_toArray, List.map_cons, List.map_nil]); first | done | rfl | (simp only [List.length_drop, List.length_take]; rfl)) ?_; (with_reducible refine (trace_Parse.calls kj5 a1 t271 t272 _ A37.out ?side1).mono ?_); (case side1 => exact Gl.below HG.out (by repeat (first | (with_reducible first | exact HB.out | apply below_alloc | apply pw_below_drewN | apply below_drew1) | exact HB.out))); rintro e w55 ⟨v273, rfl, ho0, hb⟩; refine ⟨_, rfl, ?_⟩; have n0_ := Aside0.mk (Kd.R_lower ho0 (below_size (by repeat (first | (with_reducible first | exact HB.out | apply below_alloc | apply pw_below_drewN | apply below_drew1) | exact HB.out)))); have n1_ := Aside0.mk (below_step (by repeat (first | (with_reducible first | exact HB.out | apply below_alloc | apply pw_below_drewN | apply below_drew1) | exact HB.out)) hb); clear HB; have HO274 := n0_; have HB := n1_; clear n0_ n1_; (try clear hb); (try clear hb2); (try clear hk); (try clear hi); (try clear ho0); obtain ⟨Ao56, co56, eo56⟩ := Kd.R_slice HO274.out; subst eo56) | (go_at_call 51; (with_reducible refine (logjamlaw41_lives.calls kj5  t278 _ A54.out ?side1).mono ?_); (case side1 => exact Gl.below HG.out (by repeat (first | (with_reducible first | exact HB.out | apply below_alloc | apply pw_below_drewN | apply below_drew1) | exact HB.out))); rintro e w57 ⟨rfl, hb⟩; have n0_ := Aside0.mk (Kd.R_below (by (with_reducible repeat (first | apply Kd.R_alloc | apply Kd.R_drewN | apply Kd.R_drew)); exact HO274.out) hb); have n1_ := Aside0.mk (below_step (by repeat (first | (with_reducible first | exact HB.out | apply below_alloc | apply pw_below_drewN | apply below_drew1) | exact HB.out)) hb); clear HO274; clear HB; have HO274 := n0_; have HB := n1_; clear n0_ n1_; (try clear hb); (try clear hb2); (try clear hk); (try clear hi)))
     go_ret
     exact ⟨by first | rfl | (simp [errW_none, errW_some] <;> rfl) | (simp [*, errW_none, errW_some] <;> rfl), by repeat (first | (with_reducible first | exact HB.out | apply below_alloc | apply pw_below_drewN | apply below_drew1) | exact HB.out)⟩
    ·rw [if_neg c53] at H
     have c53b0 : ((t271.length : Int) == 0) = false := beq_eq_false_iff_ne.mpr c53
     have c53b1 : ((t271.length : Int) != 0) = true := bne_iff_ne.mpr c53
     have c53b2 : ¬ (t271 = []) := fun h_ => c53 (by rw [h_]; rfl)
     obtain rfl := Option.some.inj H
     go_wp2_with (first | ((with_reducible refine gate_callee (f := 52) rfl ?_); refine goesL_ (some 52) rfl rfl Tryd.func52 (by kernel_rfl) rfl #[.string a1] rfl (by (try simp only [List.map_toArray, List.map_cons, List.map_nil]); first | done | rfl | (simp only [List.length_drop, List.length_take]; rfl)) ?_; (with_reducible refine (trace_Parse.calls kj5 a1 t271 t272 _ A37.out ?side1).mono ?_); (case side1 => exact Gl.below HG.out (by repeat (first | (with_reducible first | exact HB.out | apply below_alloc | apply pw_below_drewN | apply below_drew1) | exact HB.out))); rintro e w58 ⟨v273, rfl, ho0, hb⟩; refine ⟨_, rfl, ?_⟩; have n0_ := Aside0.mk (Kd.R_lower ho0 (below_size (by repeat (first | (with_reducible first | exact HB.out | apply below_alloc | apply pw_below_drewN | apply below_drew1) | exact HB.out)))); have n1_ := Aside0.mk (below_step (by repeat (first | (with_reducible first | exact HB.out | apply below_alloc | apply pw_below_drewN | apply below_drew1) | exact HB.out)) hb); clear HB; have HO274 := n0_; have HB := n1_; clear n0_ n1_; (try clear hb); (try clear hb2); (try clear hk); (try clear hi); (try clear ho0); obtain ⟨Ao59, co59, eo59⟩ := Kd.R_slice HO274.out; subst eo59))
     go_ret
     exact ⟨by first | rfl | (simp [errW_none, errW_some] <;> rfl) | (simp [*, errW_none, errW_some] <;> rfl), by repeat (first | (with_reducible first | exact HB.out | apply below_alloc | apply pw_below_drewN | apply below_drew1) | exact HB.out)⟩
end Go.Proofs.YtadepdeckapgcaaDoor.PTr
end

section
namespace Go.Proofs.YtadepdeckapgcaaDoor.Tr
open Go.RowKit Go.Proofs.YtadepdeckapgcaaDoorW.PrintWords Go.Proofs.YtadepdeckapgcaaDoor.PTr Go.Proofs.YtadepdeckapgcaaDoor.Orc
set_option linter.unusedVariables false
set_option linter.unusedSimpArgs false
def L5 : List S72 := [⟨1, 0, 24, 0⟩, ⟨2, 0, 2, 0⟩, ⟨6, -1, 5, 0⟩, ⟨3, 0, 26, 0⟩, ⟨5, 0, 1, 2⟩]
def B5 : List UInt8 := [48, 32, 111, 112, 32, 111, 117, 116, 32, 48, 10, 48, 32, 111, 117, 116, 32, 50, 10, 116, 105, 99, 107, 32, 53, 10, 48, 32, 98, 108, 111, 99, 107, 32, 119, 97, 105, 116, 10, 48, 32, 101, 110, 100, 32, 102, 97, 117, 108, 116, 101, 100, 32, 50, 10]
theorem itoa_dig (n : Nat) (h : n < 10) : Lib.itoa (n : Int) = [UInt8.ofNat (48 + n)] := by rw [Lib.itoa_nonneg, Lib.decDigits_one h]
theorem flat5 : flat L5 = B5 := by
  have e0 : Lib.itoa 0 = [48] := itoa_dig 0 (by decide)
  have e2 : Lib.itoa 2 = [50] := itoa_dig 2 (by decide)
  have e5 : Lib.itoa 5 = [53] := itoa_dig 5 (by decide)
  have n24 : (nmB 24).data.toList = [111, 117, 116] := by decide +kernel
  have n26 : (nmB 26).data.toList = [119, 97, 105, 116] := by decide +kernel
  have d1 : (edB 1).data.toList = [102, 97, 117, 108, 116, 101, 100] := by decide +kernel
  simp only [flat, L5, bytesE]
  rw [line_glue 1 0 24 0 (by decide), line_glue 2 0 2 0 (by decide), line_glue 6 (-1) 5 0 (by decide), line_glue 3 0 26 0 (by decide), line_glue 5 0 1 2 (by decide)]
  simp [wordsL, glue, e0, e2, e5, n24, n26, d1, tickW, opW, outW, blockW, endW, B5]
theorem ok5 : ∀ e ∈ L5, okE e := by
  intro e he
  simp only [L5, List.mem_cons, List.not_mem_nil, or_false] at he
  rcases he with rfl | rfl | rfl | rfl | rfl <;> exact ⟨⟨⟨by decide, by decide⟩, ⟨by decide, by decide⟩, ⟨by decide, by decide⟩, ⟨by decide, by decide⟩⟩, by decide⟩
theorem of5 : trace_Of.f 10 L5 0 = some [⟨1, 0, 24, 0⟩, ⟨2, 0, 2, 0⟩, ⟨3, 0, 26, 0⟩, ⟨5, 0, 1, 2⟩] := by kernel_rfl
theorem lives_ev : Ev (fun k => logjamlaw41_lives.f k) true := by
  have hp := parse_text L5 ok5 (by rw [flat5]; decide)
  rw [flat5] at hp
  unfold logjamlaw41_lives.f
  refine Ev.bind (a := (L5, 0)) hp ?_
  refine Ev.bind (Ev.const fun k => (text_some L5 (fun e he => (ok5 e he).1) (by decide)).trans (congrArg some (textOf_flat L5 [] ok5))) ?_
  refine Ev.congr (fun k => by rw [if_pos rfl, if_pos rfl, if_pos (by rw [mkB_list, List.nil_append, flat5]; rfl), if_pos (by decide), if_pos (by decide), if_pos (by decide)]) ?_
  refine Ev.bind (pcheck 0 0 0 0) ?_
  refine Ev.congr (fun k => by rw [if_pos (by decide)]) ?_
  exact Ev.bind (Ev.of (trace_Of.mono L5 0) of5) (Ev.const fun k => rfl)
theorem take_idem (l : List S72) : (l.take 300).take 300 = l.take 300 := by rw [List.take_take, Nat.min_self]
theorem same_ev (l : List S72) (hl : l.length ≤ 1000000) : Ev (fun k => logjamlaw41_same.f k l l) true := by
  have key : ∀ (d i : Nat), i + d = l.length → Ev (fun k => logjamlaw41_same.l0 k l l (i : Int)) true := by
    intro d
    induction d with
    | zero =>
      intro i hi
      refine Ev.step1 (fun k => ?_)
      simp only [logjamlaw41_same.l0]
      rw [if_neg (by omega)]
    | succ d ih =>
      intro i hi
      have hw : wrap64 ((i : Int) + 1) = ((i + 1 : Nat) : Int) := by unfold wrap64; omega
      refine Ev.step (f := fun k => logjamlaw41_same.l0 k l l ((i + 1 : Nat) : Int)) (fun k => ?_) (ih (i + 1) (by omega))
      simp only [logjamlaw41_same.l0]
      rw [if_pos (by omega), if_pos (by omega), if_pos (by omega), if_neg (by simp), hw]
  unfold logjamlaw41_same.f
  refine Ev.congr (fun k => by rw [if_pos rfl]) ?_
  exact key l.length 0 (by omega)
theorem textOf_ok : ∀ (l : List S72) (L : List UInt8), (∀ e ∈ l, inE e) → (textOf l L).2 = 0 → ∀ e ∈ l, okE e
  | [], _, _, _ => by simp
  | e :: l, L, h, h0 => by
    simp only [textOf] at h0
    by_cases hc : chkE e = 0
    · rw [if_pos hc] at h0
      have ih := textOf_ok l _ (fun x hx => h x (by simp [hx])) h0
      intro x hx
      rcases List.mem_cons.1 hx with rfl | hx
      · exact ⟨h x (by simp), hc⟩
      · exact ih x hx
    · rw [if_neg hc] at h0
      exact absurd h0 hc
theorem flat_len : ∀ l : List S72, l.length ≤ (flat l).length
  | [] => Nat.zero_le _
  | e :: l => by have := flat_len l; simp [flat]; omega
theorem back_pure (l : List S72) (hl : ∀ e ∈ l, inE e) (s : ByteArray) : Ev (fun k => logjamlaw41_TraceBack.f k l s) true := by
  have hl' : ∀ e ∈ l.take 300, inE e := fun e he => hl e (List.mem_of_mem_take he)
  have hlen : (l.take 300).length ≤ 300 := by rw [List.length_take]; omega
  have hj : Ev (fun k => logjamlaw41_TraceBack.j0 k s) true := by
    refine Ev.step (f := fun k => (trace_Parse.f k s).bind fun bt271 => (if bt271.2 = 0 then ((o_Text.f bt271.1).bind fun bt275 => (if bt275.2 = 0 then (if bt275.1.toList = s.toList then ((logjamlaw41_lives.f k).bind fun t277 => (some t277)) else (some false)) else (some false))) else (if (bt271.1.length : Int) = 0 then ((logjamlaw41_lives.f k).bind fun t278 => (some t278)) else (some false)))) (fun k => by simp only [logjamlaw41_TraceBack.j0]) ?_
    by_cases hs : 60000 < s.size
    · refine Ev.bind (parse_long s hs) ?_
      refine Ev.congr (fun k => by rw [if_neg (by decide), if_pos (by decide)]) ?_
      exact Ev.bind lives_ev (Ev.const fun k => rfl)
    · have hsl : s.data.toList.length ≤ 60000 := by rw [← Lib.size_eq]; omega
      have hf : ∀ R, Ev (fun k => trace_Parse.l0 k (mkB s.data.toList) []) R → Ev (fun k => trace_Parse.f k s) R := by
        intro R hR
        rw [mkB_of] at hR
        unfold trace_Parse.f
        exact Ev.congr (fun k => by rw [if_neg (by omega)]) hR
      rcases parse_any 60000 s.data.toList [] hsl hsl (by simp) with ⟨m, hm, he, hE⟩ | ⟨_, hE⟩
      · have hml := flat_len m
        rw [← he] at hml
        rw [List.nil_append] at hE
        refine Ev.bind (hf _ hE) ?_
        refine Ev.congr (fun k => by rw [if_pos rfl]) ?_
        refine Ev.bind (Ev.const fun k => (text_some m (fun e he => (hm e he).1) (by omega)).trans (congrArg some (textOf_flat m [] hm))) ?_
        refine Ev.congr (fun k => by rw [if_pos rfl, if_pos (by rw [List.nil_append, ← he, mkB_of])]) ?_
        exact Ev.bind lives_ev (Ev.const fun k => rfl)
      · refine Ev.bind (hf _ hE) ?_
        refine Ev.congr (fun k => by rw [if_neg (by decide), if_pos (by decide)]) ?_
        exact Ev.bind lives_ev (Ev.const fun k => rfl)
  unfold logjamlaw41_TraceBack.f
  refine Ev.bind (Ev.const fun k => few_some l) ?_
  refine Ev.bind (Ev.const fun k => (few_some (l.take 300)).trans (by rw [take_idem])) ?_
  refine Ev.bind (Ev.const fun k => text_some (l.take 300) hl' (by omega)) ?_
  by_cases h0 : (textOf (l.take 300) []).2 = 0
  · have hok := textOf_ok (l.take 300) [] hl' h0
    have ht := textOf_flat (l.take 300) [] hok
    rw [List.nil_append] at ht
    rw [ht]
    refine Ev.congr (fun k => by rw [if_pos rfl]) ?_
    by_cases hs : 60000 < (flat (l.take 300)).length
    · refine Ev.bind (parse_long (mkB (flat (l.take 300))) (by rw [mkB_size]; exact hs)) ?_
      refine Ev.congr (fun k => by rw [if_pos (by rw [mkB_size]; omega), if_pos rfl, if_neg (by rw [mkB_size]; omega)]) ?_
      exact hj
    · refine Ev.bind (parse_text (l.take 300) hok (by omega)) ?_
      refine Ev.congr (fun k => by rw [if_neg (by rw [mkB_size]; omega), if_pos (by rw [mkB_size]; omega), if_pos rfl]) ?_
      refine Ev.bind (same_ev (l.take 300) (by omega)) ?_
      refine Ev.congr (fun k => by rw [if_pos rfl]) ?_
      exact hj
  · exact Ev.congr (fun k => by rw [if_neg h0]) hj
abbrev shE : Sh (Int × Int × Int × Int) := shP shInt (shP shInt (shP shInt shInt))
def toE (x : Int × Int × Int × Int) : S72 := ⟨x.1, x.2.1, x.2.2.1, x.2.2.2⟩
theorem ent_of {w : World} (a : Int × Int × Int × Int) (cs : List Value) (h : shE.rd w w.heap.size a cs) : k72.K w (toE a) cs := by
  obtain ⟨c1, c2, rfl, _, ⟨rfl, _⟩, ⟨c3, c4, rfl, _, ⟨rfl, _⟩, ⟨c5, c6, rfl, _, ⟨rfl, _⟩, ⟨rfl, _⟩⟩⟩⟩ := h
  exact k72_mk w (toE a)
theorem ent_in {w : World} (a : Int × Int × Int × Int) (cs : List Value) (h : shE.rd w w.heap.size a cs) : inE (toE a) := by
  obtain ⟨c1, c2, rfl, _, ⟨rfl, h1⟩, ⟨c3, c4, rfl, _, ⟨rfl, h2⟩, ⟨c5, c6, rfl, _, ⟨rfl, h3⟩, ⟨rfl, h4⟩⟩⟩⟩ := h
  exact ⟨h1, h2, h3, h4⟩
theorem list_in {w : World} {l : List (Int × Int × Int × Int)} {v : Value} (h : (shL shE).rd w w.heap.size l [v]) : ∀ e ∈ l.map toE, inE e := by
  have := all_of_shape (S := shE) (p := fun a => inE (toE a)) ent_in h
  intro e he
  obtain ⟨a, ha, rfl⟩ := List.mem_map.1 he
  exact this a ha
theorem traceBackW (W : World) (hG : Gl W) (v0 : Value) (a0 : List (Int × Int × Int × Int)) (e0 : (shL shE).rd W W.heap.size a0 [v0]) (a1 : ByteArray) :
    Calls Tryd.prog 12 #[v0, .string a1] W fun e w' => e = .returned (.bool true) ∧ Below W.heap.size W w' := by
  have hin := list_in e0
  obtain ⟨A, c, rfl, hC, hc⟩ := C_of_shape (S := shE) (d := k72) toE rfl ent_of e0
  obtain ⟨k, hk⟩ := (back_pure (a0.map toE) hin a1).rounds
  exact logjamlaw41_TraceBack.calls k A c (a0.map toE) a1 true W hC hc hk hG
end Go.Proofs.YtadepdeckapgcaaDoor.Tr
end
