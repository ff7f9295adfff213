/- LawWitnessTells, part 6: what the proof stands on (merged by wip/shake.py out of the session's texts and of what the print wrote for this claim). -/
import Derived.Deep.RegionHeld3
import Derived.Deep.RegionHeldLaw
import Derived.Test.YtadepdeckapgcaaDoorZtE

section
namespace Go.Proofs.YtadepdeckapgcaaDoor
open Go.RowKit Go.Proofs.YtadepdeckapgcaaDoorW.PrintWords Go.Proofs.YtadepdeckapgcaaDoorW.PrintLast Go.Proofs.YtadepdeckapgcaaDoorW.PrintMore PWitnessTells
set_option linter.unusedSimpArgs false
set_option linter.unusedVariables false
theorem ev_snd_l1 (dead : Nat) (hd : dead < B64) (time : Int) (dd : List Int) (n : List NNode) (i : Nat) (hi : i < n.length) (hn : n.length ≤ MX) (hws : Bws (rd_T92 n (i : Int)).f1) (r : Bool)
    (hr : Ev (fun k => logjamref37_Sound.l0 k (dead : Int) ((i + 1 : Nat) : Int) time dd n) r) :
    ∀ (d j : Nat), j + d = (rd_T92 n (i : Int)).f1.length → Ev (fun k => logjamref37_Sound.l1 k (dead : Int) (i : Int) (j : Int) time dd n) (((rd_T92 n (i : Int)).f1.drop j).all (wayOk dead) && r) := by
  have hwi := Lib.hid <| wrap_succ i n.length hi hn
  generalize hM : rd_T92 n (i : Int) = x at *
  intro d
  induction d with
  | zero =>
    intro j hj
    rw [List.drop_of_length_le (by omega), List.all_nil, Bool.true_and]
    refine Ev.step (f := fun k => logjamref37_Sound.l0 k (dead : Int) ((i + 1 : Nat) : Int) time dd n) (fun k => ?_) hr
    simp only [logjamref37_Sound.l1, hM]
    rw [if_pos (by omega), if_pos (by omega), if_neg (by omega), hwi.out]
  | succ d ih =>
    intro j hj
    have hwj := Lib.hid <| wrap_succ j x.f1.length (by omega) hws.1
    have hrd : rd_L5 x.f1 (j : Int) = x.f1.getD j [] := rfl
    have hbw := hws.2 _ (getD_mem [] x.f1 j (by omega))
    rw [drop_cons' [] x.f1 j (by omega), List.all_cons]
    generalize x.f1.getD j [] = way at *
    refine Ev.step (f := fun k => (logjamref37_Lacks.f k way (dead : Int)).bind fun t246 => (if t246 < 0 then (some false) else (logjamref37_Sound.l1 k (dead : Int) (i : Int) ((j + 1 : Nat) : Int) time dd n))) (fun k => ?_) ?_
    · simp only [logjamref37_Sound.l1, hM]
      rw [if_pos (by omega), if_pos (by omega), if_pos (by omega), if_pos (by omega), hrd, hwj.out]
    refine Ev.bind (ev_lacks way hbw dead hd) ?_
    have hok : wayOk dead way = decide (0 ≤ lacksL dead 0 way) := rfl
    by_cases q : lacksL dead 0 way < 0
    · rw [hok, decide_eq_false (by omega), Bool.false_and, Bool.false_and]
      exact Ev.congr (f := fun _ => some false) (fun k => by rw [if_pos q]) (Ev.now _)
    · rw [hok, decide_eq_true (by omega), Bool.true_and]
      exact Ev.congr (f := fun k => logjamref37_Sound.l1 k (dead : Int) (i : Int) ((j + 1 : Nat) : Int) time dd n) (fun k => by rw [if_neg q]) (ih (j + 1) (by omega))
theorem ev_snd_l0 (dead : Nat) (hd : dead < B64) (time : Int) (dd : List Int) (n : List NNode) (hb : Bns n) : ∀ (d i : Nat), i + d = n.length → Ev (fun k => logjamref37_Sound.l0 k (dead : Int) (i : Int) time dd n) (nodesOk dead (n.drop i)) := by
  intro d
  induction d with
  | zero =>
    intro i hi
    rw [List.drop_of_length_le (by omega)]
    exact Ev.step (f := fun _ => some true) (fun k => by simp only [logjamref37_Sound.l0]; rw [if_neg (by omega)]) (Ev.now _)
  | succ d ih =>
    intro i hi
    have hrd : rd_T92 n (i : Int) = n.getD i z92 := rfl
    have hws := (hb.2 _ (getD_mem z92 n i (by omega)))
    rw [drop_cons' z92 n i (by omega)]
    have e : nodesOk dead (n.getD i z92 :: n.drop (i + 1)) = ((n.getD i z92).f1.all (wayOk dead) && nodesOk dead (n.drop (i + 1))) := by unfold nodesOk; rw [List.all_cons]
    rw [e]
    rw [← hrd] at hws ⊢
    refine Ev.step (f := fun k => logjamref37_Sound.l1 k (dead : Int) (i : Int) ((0 : Nat) : Int) time dd n) (fun k => by simp only [logjamref37_Sound.l0]; rw [if_pos (by omega)]; rfl) ?_
    exact ev_snd_l1 dead hd time dd n i (by omega) hb.1 hws _ (ih (i + 1) (by omega)) (rd_T92 n (i : Int)).f1.length 0 (Nat.zero_add _)
theorem ev_sound (time : Int) (dd : List Int) (hd : dd.length ≤ MX) (n : List NNode) (hb : Bns n) : Ev (fun k => logjamref37_Sound.f k time dd n) (soundR time dd n) := by
  unfold soundR
  refine Ev.congr (f := fun k => (logjamref36_Check.f k time dd n).bind fun t241 => (if t241 = 0 then ((logjamref02_Of.f k dd).bind fun t242 => (logjamref37_Sound.l0 k t242 0 time dd n)) else (some false))) (fun k => rfl) ?_
  refine Ev.bind (ev_rchk time dd hd n hb) ?_
  by_cases q : chkR time dd n = 0
  · rw [decide_eq_true q, Bool.true_and]
    refine Ev.congr (f := fun k => (logjamref02_Of.f k dd).bind fun t242 => (logjamref37_Sound.l0 k t242 0 time dd n)) (fun k => by rw [if_pos q]) ?_
    exact Ev.bind (ev_of dd hd) (ev_snd_l0 _ (ofL_lt dd 0 (by decide)) time dd n hb n.length 0 (Nat.zero_add _))
  · rw [decide_eq_false q, Bool.false_and]
    exact Ev.congr (f := fun _ => some false) (fun k => by rw [if_neg q]) (Ev.now _)
theorem ev_lack (time : Int) (dd : List Int) (hd : dd.length ≤ MX) (n : List NNode) (hb : Bns n) (t : Int) : Ev (fun k => logjamref37_Lack.f k time dd n t) (lackR time dd n t) := by
  refine Ev.congr (f := fun k => (logjamref36_Check.f k time dd n).bind fun t227 => (if t227 = 0 then ((logjamref37_find.f k time dd n t).bind fun t228 => (if t228 < 0 then (logjamref37_Lack.j0 k t228 true time dd n) else (if 0 ≤ t228 then (if t228 < (n.length : Int) then (logjamref37_Lack.j0 k t228 ((((rd_T92 n t228).f1).length : Int) == 0) time dd n) else (none)) else (none)))) else (some (-1)))) (fun k => rfl) ?_
  refine Ev.bind (ev_rchk time dd hd n hb) ?_
  unfold lackR
  by_cases q : chkR time dd n = 0
  · obtain ⟨hlen, _, _⟩ := chkR_zero _ _ _ q
    rw [if_pos q]
    refine Ev.congr (f := fun k => (logjamref37_find.f k time dd n t).bind fun t228 => (if t228 < 0 then (logjamref37_Lack.j0 k t228 true time dd n) else (if 0 ≤ t228 then (if t228 < (n.length : Int) then (logjamref37_Lack.j0 k t228 ((((rd_T92 n t228).f1).length : Int) == 0) time dd n) else (none)) else (none)))) (fun k => by rw [if_pos q]) ?_
    refine Ev.bind (ev_find t time dd hd n) ?_
    rcases findL_spec t dd 0 with ⟨hf, _⟩ | ⟨j, hf, hj, _⟩
    · rw [hf, if_pos (by omega)]
      refine Ev.congr (f := fun k => logjamref37_Lack.j0 k (-1) true time dd n) (fun k => by rw [if_pos (by omega)]) ?_
      exact Ev.step (f := fun _ => some (-1)) (fun k => by simp only [logjamref37_Lack.j0]; rw [if_pos trivial]) (Ev.now _)
    · rw [Nat.zero_add] at hf
      rw [hf, if_neg (by omega), Int.toNat_natCast]
      have hrd : rd_T92 n (j : Int) = n.getD j z92 := rfl
      have hws := (hb.2 _ (getD_mem z92 n j (by omega)))
      refine Ev.congr (f := fun k => logjamref37_Lack.j0 k (j : Int) ((((n.getD j z92).f1).length : Int) == 0) time dd n) (fun k => by rw [if_neg (by omega), if_pos (by omega), if_pos (by omega), hrd]) ?_
      generalize n.getD j z92 = x at *
      by_cases q0 : x.f1.length = 0
      · rw [if_pos q0, q0]
        exact Ev.step (f := fun _ => some (-1)) (fun k => by simp only [logjamref37_Lack.j0]; rfl) (Ev.now _)
      · rw [if_neg q0]
        have hq : (((x.f1).length : Int) == 0) = false := by rw [beq_eq_false_iff_ne]; omega
        rw [hq]
        have hrd0 : rd_L5 x.f1 0 = x.f1.getD 0 [] := rfl
        refine Ev.step (f := fun k => (logjamref02_Of.f k dd).bind fun t232 => ((logjamref37_Lacks.f k (x.f1.getD 0 []) t232).bind fun t233 => (some t233))) (fun k => ?_) ?_
        · simp only [logjamref37_Lack.j0, hrd, hrd0]
          rw [if_neg (by simp), if_pos (by omega), if_pos (by omega), if_pos (by omega)]
        refine Ev.bind (ev_of dd hd) ?_
        exact Ev.bind (ev_lacks _ (hws.2 _ (getD_mem [] x.f1 0 (by omega))) _ (ofL_lt dd 0 (by decide))) (Ev.now _)
  · rw [if_neg q]
    exact Ev.congr (f := fun _ => some (-1)) (fun k => by rw [if_neg q]) (Ev.now _)
theorem ev_ns_l2 (i j : Nat) (a0 b0 : Bool) (A B : List (List NTerm)) (K L : Int) (f g : List NShare) (hl : f.length = g.length) (hm : f.length ≤ MX) (r : Bool)
    (hr : Ev (fun k => logjamref28_Same.l1 k (i : Int) (wrap64 ((j : Int) + 1)) a0 A b0 B) r) :
    ∀ (d q : Nat), q + d = f.length → Ev (fun k => logjamref28_Same.l2 k (i : Int) (j : Int) (q : Int) a0 A b0 B K f L g) (eqL shE (f.drop q) (g.drop q) && r) := by
  intro d
  induction d with
  | zero =>
    intro q hq
    rw [List.drop_of_length_le (by omega), List.drop_of_length_le (by omega)]
    have e : (eqL shE [] [] && r) = r := by simp [eqL]
    rw [e]
    exact Ev.step (f := fun k => logjamref28_Same.l1 k (i : Int) (wrap64 ((j : Int) + 1)) a0 A b0 B) (fun k => by simp only [logjamref28_Same.l2]; rw [if_neg (by omega)]) hr
  | succ d ih =>
    intro q hq
    have hwq := Lib.hid <| wrap_succ q f.length (by omega) hm
    have hf : rd_T108 f (q : Int) = f.getD q z108 := rfl
    have hg : rd_T108 g (q : Int) = g.getD q z108 := rfl
    rw [drop_cons' z108 f q (by omega), drop_cons' z108 g q (by omega), eqL_cons]
    have ih' := ih (q + 1) (by omega)
    generalize f.getD q z108 = s at *
    generalize g.getD q z108 = u at *
    have hsh : shE s u = !(!(s.f0 == u.f0) || !(s.f1 == u.f1)) := by unfold shE; simp
    refine Ev.step (f := fun k => if (!(s.f0 == u.f0) || !(s.f1 == u.f1)) = true then some false else logjamref28_Same.l2 k (i : Int) (j : Int) ((q + 1 : Nat) : Int) a0 A b0 B K f L g) (fun k => ?_) ?_
    · simp only [logjamref28_Same.l2]
      rw [if_pos (by omega), if_pos (by omega), if_pos (by omega), hf, hg, hwq.out]
    cases hc : (!(s.f0 == u.f0) || !(s.f1 == u.f1))
    · rw [hsh, hc, Bool.not_false, Bool.true_and]
      exact Ev.congr (f := fun k => logjamref28_Same.l2 k (i : Int) (j : Int) ((q + 1 : Nat) : Int) a0 A b0 B K f L g) (fun k => by rw [if_neg (by simp)]) ih'
    · rw [hsh, hc, Bool.not_true, Bool.false_and, Bool.false_and]
      exact Ev.congr (f := fun _ => some false) (fun k => by rw [if_pos rfl]) (Ev.now _)
theorem ev_ns_l1 (i : Nat) (a0 b0 : Bool) (A B : List (List NTerm)) (hi : i < A.length) (hiB : i < B.length) (hA : A.length ≤ MX) (hl : (rd_L5 A (i : Int)).length = (rd_L5 B (i : Int)).length) (hbw : Bw (rd_L5 A (i : Int))) (r : Bool)
    (hr : Ev (fun k => logjamref28_Same.l0 k ((i + 1 : Nat) : Int) a0 A b0 B) r) :
    ∀ (d j : Nat), j + d = (rd_L5 A (i : Int)).length → Ev (fun k => logjamref28_Same.l1 k (i : Int) (j : Int) a0 A b0 B) (eqL tmE ((rd_L5 A (i : Int)).drop j) ((rd_L5 B (i : Int)).drop j) && r) := by
  have hwi := Lib.hid <| wrap_succ i A.length hi hA
  generalize ha : rd_L5 A (i : Int) = a at *
  generalize hb : rd_L5 B (i : Int) = b at *
  intro d
  induction d with
  | zero =>
    intro j hj
    rw [List.drop_of_length_le (by omega), List.drop_of_length_le (by omega)]
    have e : (eqL tmE [] [] && r) = r := by simp [eqL]
    rw [e]
    refine Ev.step (f := fun k => logjamref28_Same.l0 k ((i + 1 : Nat) : Int) a0 A b0 B) (fun k => ?_) hr
    simp only [logjamref28_Same.l1, ha, hb]
    rw [if_pos (by omega), if_pos (by omega), if_neg (by omega), hwi.out]
  | succ d ih =>
    intro j hj
    have hwj := Lib.hid <| wrap_succ j a.length (by omega) hbw.1
    have hf : rd_T96 a (j : Int) = a.getD j z96 := rfl
    have hg : rd_T96 b (j : Int) = b.getD j z96 := rfl
    have hmm := hbw.2 _ (getD_mem z96 a j (by omega))
    rw [drop_cons' z96 a j (by omega), drop_cons' z96 b j (by omega), eqL_cons]
    have ih' := ih (j + 1) (by omega)
    generalize a.getD j z96 = s at *
    generalize b.getD j z96 = u at *
    have htm : tmE s u = (s.f0 == u.f0 && eqL shE s.f1 u.f1) := rfl
    have hF : Ev (fun k => logjamref28_Same.j3 k (i : Int) (j : Int) true a0 A b0 B s.f0 s.f1 u.f0 u.f1) false := Ev.step (f := fun _ => some false) (fun k => by simp only [logjamref28_Same.j3]; rw [if_pos trivial]) (Ev.now _)
    by_cases h0 : s.f0 = u.f0
    · have hb0 : (s.f0 == u.f0) = true := by rw [h0]; simp
      rw [htm, hb0, Bool.true_and]
      refine Ev.step (f := fun k => logjamref28_Same.j3 k (i : Int) (j : Int) ((s.f1.length : Int) != (u.f1.length : Int)) a0 A b0 B s.f0 s.f1 u.f0 u.f1) (fun k => ?_) ?_
      · simp only [logjamref28_Same.l1, ha, hb]
        rw [if_pos (by omega), if_pos (by omega), if_pos (by omega), if_pos (by omega), if_pos (by omega), if_pos (by omega), hf, hg, if_pos h0]
      by_cases h1 : s.f1.length = u.f1.length
      · have hne : ((s.f1.length : Int) != (u.f1.length : Int)) = false := by rw [h1]; simp
        rw [hne]
        refine Ev.step (f := fun k => logjamref28_Same.l2 k (i : Int) (j : Int) ((0 : Nat) : Int) a0 A b0 B s.f0 s.f1 u.f0 u.f1) (fun k => by simp only [logjamref28_Same.j3]; rw [if_neg (by simp)]; rfl) ?_
        rw [Bool.and_assoc]
        exact ev_ns_l2 i j a0 b0 A B s.f0 u.f0 s.f1 u.f1 h1 hmm _ (by rw [hwj.out]; exact ih') s.f1.length 0 (Nat.zero_add _)
      · have hne : ((s.f1.length : Int) != (u.f1.length : Int)) = true := by rw [bne_iff_ne]; omega
        rw [hne, eqL_len _ _ _ h1, Bool.false_and, Bool.false_and]
        exact hF
    · have hb0 : (s.f0 == u.f0) = false := by rw [beq_eq_false_iff_ne]; exact h0
      rw [htm, hb0, Bool.false_and, Bool.false_and, Bool.false_and]
      refine Ev.step (f := fun k => logjamref28_Same.j3 k (i : Int) (j : Int) true a0 A b0 B s.f0 s.f1 u.f0 u.f1) (fun k => ?_) hF
      simp only [logjamref28_Same.l1, ha, hb]
      rw [if_pos (by omega), if_pos (by omega), if_pos (by omega), if_pos (by omega), if_pos (by omega), if_pos (by omega), hf, hg, if_neg h0]
theorem ev_ns_l0 (a0 b0 : Bool) (A B : List (List NTerm)) (hl : A.length = B.length) (hA : Bws A) : ∀ (d i : Nat), i + d = A.length → Ev (fun k => logjamref28_Same.l0 k (i : Int) a0 A b0 B) (eqL wyE (A.drop i) (B.drop i)) := by
  intro d
  induction d with
  | zero =>
    intro i hi
    rw [List.drop_of_length_le (by omega), List.drop_of_length_le (by omega)]
    exact Ev.step (f := fun _ => some true) (fun k => by simp only [logjamref28_Same.l0]; rw [if_neg (by omega)]) (Ev.now _)
  | succ d ih =>
    intro i hi
    have ha : rd_L5 A (i : Int) = A.getD i [] := rfl
    have hb : rd_L5 B (i : Int) = B.getD i [] := rfl
    have hbw := hA.2 _ (getD_mem [] A i (by omega))
    have ih' := ih (i + 1) (by omega)
    rw [drop_cons' [] A i (by omega), drop_cons' [] B i (by omega), eqL_cons]
    rw [← ha] at hbw
    rw [← ha, ← hb]
    by_cases q : (rd_L5 A (i : Int)).length = (rd_L5 B (i : Int)).length
    · refine Ev.step (f := fun k => logjamref28_Same.l1 k (i : Int) ((0 : Nat) : Int) a0 A b0 B) (fun k => ?_) ?_
      · simp only [logjamref28_Same.l0]
        rw [if_pos (by omega), if_pos (by omega), if_pos (by omega), if_pos (by omega)]
        rfl
      · exact ev_ns_l1 i a0 b0 A B (by omega) (by omega) hA.1 q hbw _ ih' (rd_L5 A (i : Int)).length 0 (Nat.zero_add _)
    · have e : wyE (rd_L5 A (i : Int)) (rd_L5 B (i : Int)) = false := eqL_len _ _ _ q
      rw [e, Bool.false_and]
      refine Ev.step (f := fun _ => some false) (fun k => ?_) (Ev.now _)
      simp only [logjamref28_Same.l0]
      rw [if_pos (by omega), if_pos (by omega), if_pos (by omega), if_neg (by omega)]
theorem ev_nsame (x y : NNode) (hA : Bws x.f1) : Ev (fun k => logjamref28_Same.f k x.f0 x.f1 y.f0 y.f1) (ndE x y) := by
  have e : ndE x y = (x.f0 == y.f0 && eqL wyE x.f1 y.f1) := rfl
  have hF : Ev (fun k => logjamref28_Same.j0 k true x.f0 x.f1 y.f0 y.f1) false := Ev.step (f := fun _ => some false) (fun k => by simp only [logjamref28_Same.j0]; rw [if_pos trivial]) (Ev.now _)
  rw [e]
  by_cases q : x.f0 = y.f0
  · have hb : (x.f0 == y.f0) = true := by rw [q]; simp
    have hc : (x.f0 != y.f0) = false := by rw [q]; simp
    rw [hb, Bool.true_and]
    refine Ev.congr (f := fun k => logjamref28_Same.j0 k ((x.f1.length : Int) != (y.f1.length : Int)) x.f0 x.f1 y.f0 y.f1) (fun k => by simp only [logjamref28_Same.f]; rw [if_neg (by rw [hc]; simp)]) ?_
    by_cases h1 : x.f1.length = y.f1.length
    · have hne : ((x.f1.length : Int) != (y.f1.length : Int)) = false := by rw [h1]; simp
      rw [hne]
      refine Ev.step (f := fun k => logjamref28_Same.l0 k ((0 : Nat) : Int) x.f0 x.f1 y.f0 y.f1) (fun k => by simp only [logjamref28_Same.j0]; rw [if_neg (by simp)]; rfl) ?_
      exact ev_ns_l0 x.f0 y.f0 x.f1 y.f1 h1 hA x.f1.length 0 (Nat.zero_add _)
    · have hne : ((x.f1.length : Int) != (y.f1.length : Int)) = true := by rw [bne_iff_ne]; omega
      rw [hne, eqL_len _ _ _ h1]
      exact hF
  · have hb : (x.f0 == y.f0) = false := by rw [beq_eq_false_iff_ne]; exact q
    have hc : (x.f0 != y.f0) = true := by rw [bne_iff_ne]; exact q
    rw [hb, Bool.false_and]
    exact Ev.congr (f := fun k => logjamref28_Same.j0 k true x.f0 x.f1 y.f0 y.f1) (fun k => by simp only [logjamref28_Same.f]; rw [if_pos hc]) hF
end Go.Proofs.YtadepdeckapgcaaDoor
end

section
namespace Go.Proofs.YtadepdeckapgcaaDoor
open Go.RowKit Go.Proofs.YtadepdeckapgcaaDoorW.PrintWords Go.Proofs.YtadepdeckapgcaaDoorW.PrintLast Go.Proofs.YtadepdeckapgcaaDoorW.PrintMore PWitnessTells
set_option linter.unusedSimpArgs false
set_option linter.unusedVariables false
def intE (a b : Int) : Bool := a == b
theorem eqL_int : ∀ a b : List Int, eqL intE a b = decide (a = b)
  | [], [] => rfl
  | a :: r, b :: s => by
    rw [eqL_cons, eqL_int r s, Bool.eq_iff_iff]
    simp [intE]
  | [], _ :: _ => rfl
  | _ :: _, [] => rfl
theorem ev_ints_l0 (a b : List Int) (ha : a.length ≤ MX) (hl : a.length = b.length) : ∀ (d i : Nat), i + d = a.length → Ev (fun k => logjamlaw30_Ints.l0 k a b (i : Int)) (eqL intE (a.drop i) (b.drop i)) := by
  intro d
  induction d with
  | zero =>
    intro i hi
    rw [List.drop_of_length_le (by omega), List.drop_of_length_le (by omega)]
    exact Ev.step (f := fun _ => some true) (fun k => by simp only [logjamlaw30_Ints.l0]; rw [if_neg (by omega)]) (Ev.now _)
  | succ d ih =>
    intro i hi
    have hw := Lib.hid <| wrap_succ i a.length (by omega) ha
    have h1 : rd a (i : Int) = a.getD i 0 := rfl
    have h2 : rd b (i : Int) = b.getD i 0 := rfl
    have ih' := ih (i + 1) (by omega)
    rw [drop_cons' 0 a i (by omega), drop_cons' 0 b i (by omega), eqL_cons]
    by_cases q : a.getD i 0 = b.getD i 0
    · have e : intE (a.getD i 0) (b.getD i 0) = true := by unfold intE; rw [q]; simp
      rw [e, Bool.true_and]
      exact Ev.step (f := fun k => logjamlaw30_Ints.l0 k a b ((i + 1 : Nat) : Int)) (fun k => by simp only [logjamlaw30_Ints.l0]; rw [if_pos (by omega), if_pos (by omega), if_pos (by omega), h1, h2, if_pos q, hw.out]) ih'
    · have e : intE (a.getD i 0) (b.getD i 0) = false := by unfold intE; rw [beq_eq_false_iff_ne]; exact q
      rw [e, Bool.false_and]
      exact Ev.step (f := fun _ => some false) (fun k => by simp only [logjamlaw30_Ints.l0]; rw [if_pos (by omega), if_pos (by omega), if_pos (by omega), h1, h2, if_neg q]) (Ev.now _)
theorem ev_ints (a b : List Int) (ha : a.length ≤ MX) : Ev (fun k => logjamlaw30_Ints.f k a b) (decide (a = b)) := by
  rw [← eqL_int]
  by_cases q : a.length = b.length
  · refine Ev.congr (f := fun k => logjamlaw30_Ints.l0 k a b ((0 : Nat) : Int)) (fun k => by simp only [logjamlaw30_Ints.f]; rw [if_pos (by omega)]; rfl) ?_
    exact ev_ints_l0 a b ha q a.length 0 (Nat.zero_add _)
  · rw [eqL_len _ _ _ q]
    exact Ev.congr (f := fun _ => some false) (fun k => by simp only [logjamlaw30_Ints.f]; rw [if_neg (by omega)]) (Ev.now _)
def repE (t : Int) (d : List Int) (n : List NNode) (t' : Int) (d' : List Int) (n' : List NNode) : Bool := t == t' && (eqL intE d d' && eqL ndE n n')
theorem eqL_refl {α : Type} (p : α → α → Bool) (h : ∀ a, p a a = true) : ∀ l : List α, eqL p l l = true
  | [] => rfl
  | a :: r => by rw [eqL_cons, h, eqL_refl p h r]; rfl
theorem ndE_refl (x : NNode) : ndE x x = true := by
  have h1 : ∀ s : NShare, shE s s = true := fun s => by simp [shE]
  have h2 : ∀ m : NTerm, tmE m m = true := fun m => by unfold tmE; rw [eqL_refl shE h1]; simp
  have h3 : ∀ w : List NTerm, wyE w w = true := fun w => eqL_refl tmE h2 w
  unfold ndE; rw [eqL_refl wyE h3]; simp
theorem repE_refl (t : Int) (d : List Int) (n : List NNode) : repE t d n t d n = true := by
  unfold repE; rw [eqL_refl intE (fun a => by simp [intE]), eqL_refl ndE ndE_refl]; simp
end Go.Proofs.YtadepdeckapgcaaDoor
end

section
namespace Go.Proofs.YtadepdeckapgcaaDoor
open Go.RowKit Go.Proofs.YtadepdeckapgcaaDoorW.PrintWords Go.Proofs.YtadepdeckapgcaaDoorW.PrintLast Go.Proofs.YtadepdeckapgcaaDoorW.PrintMore PWitnessTells
set_option linter.unusedSimpArgs false
set_option linter.unusedVariables false
theorem hasB_nat (s : Nat) (i : Nat) (h : i ≤ 63) : hasB s i = s.testBit i := by
  unfold hasB; rw [decide_eq_true (by unfold vt; omega)]; simp
theorem setExt (a b : Nat) (ha : a < B64) (hb : b < B64) (h : ∀ t, hasB a t = hasB b t) : a = b := by
  apply Nat.eq_of_testBit_eq
  intro i
  by_cases hi : i ≤ 63
  · rw [← hasB_nat a i hi, ← hasB_nat b i hi, h]
  · have hp : 18446744073709551616 ≤ 2 ^ i := by
      have : 2 ^ 64 ≤ 2 ^ i := Nat.pow_le_pow_right (by decide) (by omega)
      omega
    rw [Nat.testBit_lt_two_pow (Nat.lt_of_lt_of_le ha hp), Nat.testBit_lt_two_pow (Nat.lt_of_lt_of_le hb hp)]
theorem hasB_withB (s : Nat) (t u : Int) : hasB (withB s t) u = (hasB s u || decide (vt t ∧ u = t)) := by
  unfold hasB withB
  by_cases hu : vt u
  · rw [decide_eq_true hu]
    by_cases ht : vt t
    · rw [if_pos ht, Nat.testBit_or, Nat.testBit_two_pow, Bool.true_and, Bool.true_and]
      congr 1
      rw [decide_eq_decide]
      unfold vt at hu ht; constructor
      · intro e; exact ⟨ht, by omega⟩
      · intro e; omega
    · rw [if_neg ht, decide_eq_false (fun q => ht q.1)]; simp
  · rw [decide_eq_false hu, decide_eq_false (show ¬ (vt t ∧ u = t) from fun q => hu (q.2 ▸ q.1))]; simp
theorem woutB_and (s : Nat) (hs : s < B64) (t : Int) (h : vt t) : woutB s t = s &&& (18446744073709551615 - 2 ^ t.toNat) := by
  rw [andNot_eq s t.toNat hs (by unfold vt at h; omega)]
  unfold woutB hasB
  simp [h]
theorem hasB_woutB (s : Nat) (hs : s < B64) (t u : Int) : hasB (woutB s t) u = (hasB s u && decide (u ≠ t)) := by
  by_cases ht : vt t
  · rw [woutB_and s hs t ht]
    unfold hasB
    by_cases hu : vt u
    · have hx : (18446744073709551615 - 2 ^ t.toNat).testBit u.toNat = decide (u ≠ t) := by
        have hp := pow_lt t ht
        unfold B64 at hp
        have := Nat.testBit_two_pow_sub_succ (x := 2 ^ t.toNat) (n := 64) (by omega) u.toNat
        rw [show 2 ^ 64 - (2 ^ t.toNat + 1) = 18446744073709551615 - 2 ^ t.toNat by omega] at this
        rw [this, Nat.testBit_two_pow]
        unfold vt at hu ht
        rw [decide_eq_true (by omega), Bool.true_and]
        by_cases e : u = t
        · subst e; simp
        · rw [decide_eq_true e, decide_eq_false (by omega)]; rfl
      rw [Nat.testBit_and, hx, Bool.and_assoc]
    · rw [decide_eq_false hu]; simp
  · have : hasB s t = false := by unfold hasB; simp [ht]
    unfold woutB
    rw [this]
    by_cases e : u = t
    · subst e; simp [this]
    · simp [e]
theorem hasB_ofL (l : List Int) : ∀ (s : Nat) (u : Int), hasB (ofL s l) u = (hasB s u || decide (vt u ∧ u ∈ l)) := by
  induction l with
  | nil => intro s u; simp [ofL]
  | cons t r ih =>
    intro s u
    rw [ofL_cons, ih, hasB_withB, Bool.or_assoc]
    congr 1
    rw [← Bool.decide_or, decide_eq_decide]
    constructor
    · rintro (⟨a, rfl⟩ | ⟨a, b⟩)
      · exact ⟨a, by simp⟩
      · exact ⟨a, by simp [b]⟩
    · rintro ⟨a, b⟩
      rcases List.mem_cons.1 b with rfl | b
      · exact .inl ⟨a, rfl⟩
      · exact .inr ⟨a, b⟩
theorem hasB_vt {s : Nat} {t : Int} (h : hasB s t = true) : vt t := by unfold hasB at h; simp at h; exact h.1
theorem firstB_has (s : Nat) (h0 : s ≠ 0) (h : s < B64) : hasB s (firstB s) = true := by
  rw [← mem_listB, listB_step s h0 h]; simp
def card (s : Nat) : Nat := (List.range 64).countP fun i => s.testBit i
theorem countP_one (p q : Nat → Bool) (t : Nat) (hp : p t = false) (hq : q t = true) (h : ∀ i, i ≠ t → q i = p i) : ∀ n, (List.range n).countP q = (List.range n).countP p + if t < n then 1 else 0 := by
  intro n
  induction n with
  | zero => simp
  | succ n ih =>
    rw [List.range_succ, List.countP_append, List.countP_append, ih]
    by_cases e : n = t
    · subst e; simp [hp, hq]
    · simp only [List.countP_cons, List.countP_nil, h n e]
      by_cases hl : t < n
      · simp only [hl, show t < n + 1 by omega, if_true]; omega
      · simp only [hl, show ¬ t < n + 1 by omega, if_false]; omega
theorem card_with (s : Nat) (t : Int) (hv : vt t) (h : hasB s t = false) : card (withB s t) = card s + 1 := by
  unfold card
  have hv' := hv; unfold vt at hv'
  rw [countP_one (fun i => s.testBit i) (fun i => (withB s t).testBit i) t.toNat]
  · rw [if_pos (by omega)]
  · unfold hasB at h; simpa [hv] using h
  · unfold withB; rw [if_pos hv, Nat.testBit_or, Nat.testBit_two_pow]; simp
  · intro i hi; unfold withB; rw [if_pos hv, Nat.testBit_or, Nat.testBit_two_pow, decide_eq_false (Ne.symm hi), Bool.or_false]
theorem with_wout (s : Nat) (hs : s < B64) (t : Int) (h : hasB s t = true) : withB (woutB s t) t = s := by
  refine setExt _ _ (withB_lt' _ (by unfold woutB; split <;> (generalize 2 ^ t.toNat = x; omega)) _) hs (fun u => ?_)
  rw [hasB_withB, hasB_woutB s hs]
  by_cases e : u = t
  · subst e; rw [h]; simp [hasB_vt h]
  · simp [e]
theorem woutB_lt' (s : Nat) (hs : s < B64) (t : Int) : woutB s t < B64 := by unfold woutB; split <;> (generalize 2 ^ t.toNat = x; omega)
theorem card_wout (s : Nat) (hs : s < B64) (t : Int) (h : hasB s t = true) : card (woutB s t) + 1 = card s := by
  rw [← card_with (woutB s t) t (hasB_vt h) (by rw [hasB_woutB s hs]; simp), with_wout s hs t h]
theorem card_le (s : Nat) : card s ≤ 64 := by
  unfold card; have := List.countP_le_length (p := fun i => s.testBit i) (l := List.range 64); simpa using this
theorem hasB_bit' (o t : Int) : hasB (bit1 o) t = decide (vt t ∧ o = t) := by
  have : bit1 o = withB 0 o := by unfold bit1 withB; split <;> simp
  rw [this, hasB_withB]
  have : hasB 0 t = false := by unfold hasB; simp
  rw [this, Bool.false_or, decide_eq_decide]
  constructor
  · rintro ⟨a, rfl⟩; exact ⟨a, rfl⟩
  · rintro ⟨a, rfl⟩; exact ⟨a, rfl⟩
theorem pair_lt {l : List Int} (h : l.Pairwise (· < ·)) (i j : Nat) (hij : i < j) (hj : j < l.length) : l.getD i 0 < l.getD j 0 := by
  have := List.pairwise_iff_getElem.1 h i j (by omega) hj hij
  simpa [show i < l.length by omega, hj] using this
def lackOf (dead : Nat) (way : List NTerm) : List NShare := (way.getD (lacksL dead 0 way).toNat z96).f1
def shF (dead : Nat) : Nat × Nat → List NShare → Nat × Nat
  | mt, [] => mt
  | mt, s :: r => shF dead (if hasB dead s.f0 && !hasB mt.1 s.f0 then (withB mt.1 s.f0, withB mt.2 s.f0) else mt) r
theorem shF_cons (dead : Nat) (mt : Nat × Nat) (s : NShare) (r : List NShare) : shF dead mt (s :: r) = shF dead (if hasB dead s.f0 && !hasB mt.1 s.f0 then (withB mt.1 s.f0, withB mt.2 s.f0) else mt) r := rfl
def wyF (dead : Nat) : Nat × Nat → List (List NTerm) → Nat × Nat
  | mt, [] => mt
  | mt, w :: r => wyF dead (shF dead mt (lackOf dead w)) r
theorem wyF_cons (dead : Nat) (mt : Nat × Nat) (w : List NTerm) (r : List (List NTerm)) : wyF dead mt (w :: r) = wyF dead (shF dead mt (lackOf dead w)) r := rfl
def shTo (dead : Nat) (l : List NShare) (v : Int) : Prop := hasB dead v = true ∧ ∃ s ∈ l, s.f0 = v
def goesTo (dead : Nat) (ws : List (List NTerm)) (v : Int) : Prop := ∃ w ∈ ws, shTo dead (lackOf dead w) v
def Grown (P : Int → Prop) (a b : Nat × Nat) : Prop :=
  b.1 < B64 ∧ b.2 < B64 ∧ (∀ u, hasB b.1 u = true ↔ hasB a.1 u = true ∨ P u) ∧ (∀ u, hasB b.2 u = true ↔ hasB a.2 u = true ∨ (P u ∧ hasB a.1 u = false)) ∧
    2 * (64 - card b.1) + card b.2 ≤ 2 * (64 - card a.1) + card a.2
def Sub2 (a : Nat × Nat) : Prop := a.1 < B64 ∧ a.2 < B64 ∧ ∀ u, hasB a.2 u = true → hasB a.1 u = true
theorem Grown.refl {a : Nat × Nat} (h : Sub2 a) : Grown (fun _ => False) a a := ⟨h.1, h.2.1, fun u => by simp, fun u => by simp, Nat.le_refl _⟩
theorem Grown.sub {P : Int → Prop} {a b : Nat × Nat} (g : Grown P a b) (h : Sub2 a) : Sub2 b :=
  ⟨g.1, g.2.1, fun u hu => by
    rcases (g.2.2.2.1 u).1 hu with q | q
    · exact (g.2.2.1 u).2 (.inl (h.2.2 u q))
    · exact (g.2.2.1 u).2 (.inr q.1)⟩
theorem Grown.trans {P Q : Int → Prop} {a b c : Nat × Nat} (g : Grown P a b) (k : Grown Q b c) : Grown (fun u => P u ∨ Q u) a c := by
  refine ⟨k.1, k.2.1, fun u => ?_, fun u => ?_, Nat.le_trans k.2.2.2.2 g.2.2.2.2⟩
  · rw [k.2.2.1, g.2.2.1, or_assoc]
  · rw [k.2.2.2.1, g.2.2.2.1]
    have e : hasB b.1 u = false ↔ ¬ (hasB a.1 u = true ∨ P u) := by rw [← g.2.2.1]; simp
    rw [e]
    have e2 : hasB a.1 u = false ↔ ¬ hasB a.1 u = true := by simp
    rw [e2]
    by_cases h1 : hasB a.1 u = true <;> by_cases h2 : P u <;> by_cases h3 : Q u <;> simp [h1, h2, h3]
theorem Grown.congr {P Q : Int → Prop} {a b : Nat × Nat} (g : Grown P a b) (h : ∀ u, P u ↔ Q u) : Grown Q a b :=
  ⟨g.1, g.2.1, fun u => by rw [g.2.2.1, h], fun u => by rw [g.2.2.2.1, h], g.2.2.2.2⟩
theorem one_grown (dead : Nat) (mt : Nat × Nat) (h : Sub2 mt) (t : Int) : Grown (fun u => hasB dead u = true ∧ u = t) mt (if hasB dead t && !hasB mt.1 t then (withB mt.1 t, withB mt.2 t) else mt) := by
  by_cases c : (hasB dead t && !hasB mt.1 t) = true
  · rw [if_pos c]
    simp only [Bool.and_eq_true, Bool.not_eq_true'] at c
    have hv := hasB_vt c.1
    have h2 : hasB mt.2 t = false := by
      cases q : hasB mt.2 t
      · rfl
      · have := h.2.2 t q; rw [c.2] at this; cases this
    refine ⟨withB_lt' _ h.1 _, withB_lt' _ h.2.1 _, fun u => ?_, fun u => ?_, ?_⟩
    · show hasB (withB mt.1 t) u = true ↔ _
      rw [hasB_withB]
      simp only [Bool.or_eq_true, decide_eq_true_eq]
      constructor
      · rintro (q | q)
        · exact .inl q
        · exact .inr ⟨q.2 ▸ c.1, q.2⟩
      · rintro (q | q)
        · exact .inl q
        · exact .inr ⟨hv, q.2⟩
    · show hasB (withB mt.2 t) u = true ↔ _
      rw [hasB_withB]
      simp only [Bool.or_eq_true, decide_eq_true_eq]
      constructor
      · rintro (q | q)
        · exact .inl q
        · exact .inr ⟨⟨q.2 ▸ c.1, q.2⟩, q.2 ▸ c.2⟩
      · rintro (q | q)
        · exact .inl q
        · exact .inr ⟨hv, q.1.2⟩
    · show 2 * (64 - card (withB mt.1 t)) + card (withB mt.2 t) ≤ _
      have := card_le (withB mt.1 t)
      rw [card_with _ _ hv c.2] at *
      rw [card_with _ _ hv h2]
      omega
  · rw [if_neg c]
    have c' : hasB dead t = true → hasB mt.1 t = true := by
      intro q; cases r : hasB mt.1 t
      · exact absurd (by simp [q, r]) c
      · rfl
    refine ⟨h.1, h.2.1, fun u => ⟨.inl, ?_⟩, fun u => ⟨.inl, ?_⟩, Nat.le_refl _⟩
    · rintro (q | ⟨q1, rfl⟩)
      · exact q
      · exact c' q1
    · rintro (q | ⟨⟨q1, rfl⟩, q2⟩)
      · exact q
      · rw [c' q1] at q2; cases q2
theorem shF_grown (dead : Nat) : ∀ (l : List NShare) (mt : Nat × Nat), Sub2 mt → Grown (shTo dead l) mt (shF dead mt l)
  | [], mt, h => (Grown.refl h).congr (fun u => by unfold shTo; simp)
  | s :: r, mt, h => by
    rw [shF_cons]
    have g := one_grown dead mt h s.f0
    refine (g.trans (shF_grown dead r _ (g.sub h))).congr (fun u => ?_)
    unfold shTo
    constructor
    · rintro (⟨a, b⟩ | ⟨a, x, hx, e⟩)
      · exact ⟨a, s, by simp, b.symm⟩
      · exact ⟨a, x, by simp [hx], e⟩
    · rintro ⟨a, x, hx, e⟩
      rcases List.mem_cons.1 hx with rfl | hx
      · exact .inl ⟨a, e.symm⟩
      · exact .inr ⟨a, x, hx, e⟩
theorem wyF_grown (dead : Nat) : ∀ (l : List (List NTerm)) (mt : Nat × Nat), Sub2 mt → Grown (goesTo dead l) mt (wyF dead mt l)
  | [], mt, h => (Grown.refl h).congr (fun u => by unfold goesTo; simp)
  | w :: r, mt, h => by
    rw [wyF_cons]
    have g := shF_grown dead (lackOf dead w) mt h
    refine (g.trans (wyF_grown dead r _ (g.sub h))).congr (fun u => ?_)
    unfold goesTo
    simp
def Closed (dead : Nat) (d : List Int) (n : List NNode) (S : Nat) : Prop := ∀ i, i < d.length → hasB S (d.getD i 0) = true → ∀ v, goesTo dead (n.getD i z92).f1 v → hasB S v = true
def CoreOK (dead : Nat) (d : List Int) (n : List NNode) (t : Int) (met : Nat) : Prop :=
  met < B64 ∧ hasB met t = true ∧ (∀ u, hasB met u = true → hasB dead u = true) ∧ Closed dead d n met ∧ ∀ S, Closed dead d n S → hasB S t = true → ∀ u, hasB met u = true → hasB S u = true
theorem CoreOK.unique {dead : Nat} {d : List Int} {n : List NNode} {t : Int} {a b : Nat} (h : CoreOK dead d n t a) (k : CoreOK dead d n t b) : a = b :=
  setExt a b h.1 k.1 (fun u => by rw [Bool.eq_iff_iff]; exact ⟨h.2.2.2.2 b k.2.2.2.1 k.2.1 u, k.2.2.2.2 a h.2.2.2.1 h.2.1 u⟩)
def CInv (dead : Nat) (d : List Int) (n : List NNode) (t : Int) (mt : Nat × Nat) : Prop :=
  Sub2 mt ∧ hasB mt.1 t = true ∧ (∀ u, hasB mt.1 u = true → hasB dead u = true) ∧
    (∀ i, i < d.length → hasB mt.1 (d.getD i 0) = true → hasB mt.2 (d.getD i 0) = false → ∀ v, goesTo dead (n.getD i z92).f1 v → hasB mt.1 v = true) ∧
    ∀ S, Closed dead d n S → hasB S t = true → ∀ u, hasB mt.1 u = true → hasB S u = true
theorem CInv.done {dead : Nat} {d : List Int} {n : List NNode} {t : Int} {met : Nat} (h : CInv dead d n t (met, 0)) : CoreOK dead d n t met :=
  ⟨h.1.1, h.2.1, h.2.2.1, fun i hi hu v hv => h.2.2.2.1 i hi hu (by unfold hasB; simp) v hv, h.2.2.2.2⟩
theorem CInv.start {dead : Nat} {d : List Int} {n : List NNode} {t : Int} (h : hasB dead t = true) : CInv dead d n t (bit1 t, bit1 t) := by
  have hu : ∀ u, hasB (bit1 t) u = true ↔ u = t := fun u => by
    rw [hasB_bit']; simp only [decide_eq_true_eq]
    exact ⟨fun q => q.2.symm, fun q => ⟨q ▸ hasB_vt h, q.symm⟩⟩
  refine ⟨⟨bit1_lt t, bit1_lt t, fun u q => q⟩, (hu t).2 rfl, fun u q => by rw [(hu u).1 q]; exact h, ?_, ?_⟩
  · intro i hi h1 h2 v hv
    simp only at h1 h2
    rw [h1] at h2; cases h2
  · intro S hS ht u q
    rw [(hu u).1 q]; exact ht
theorem CInv.step {dead : Nat} {d : List Int} {n : List NNode} {t : Int} {met todo : Nat} (hp : d.Pairwise (· < ·)) (h : CInv dead d n t (met, todo)) (h0 : todo ≠ 0) (i : Nat) (hi : i < d.length) (he : d.getD i 0 = firstB todo) :
    CInv dead d n t (wyF dead (met, woutB todo (firstB todo)) (n.getD i z92).f1) ∧
      2 * (64 - card (wyF dead (met, woutB todo (firstB todo)) (n.getD i z92).f1).1) + card (wyF dead (met, woutB todo (firstB todo)) (n.getD i z92).f1).2 < 2 * (64 - card met) + card todo := by
  obtain ⟨⟨s1, s2, s3⟩, h1, h2, h3, h4⟩ := h
  simp only at s1 s2 s3 h1 h2 h3 h4
  have hf := firstB_has todo h0 s2
  have hw := hasB_woutB todo s2 (firstB todo)
  have hs : Sub2 (met, woutB todo (firstB todo)) := ⟨s1, woutB_lt' _ s2 _, fun u q => s3 u (by simp only at q; rw [hw] at q; simp at q; exact q.1)⟩
  have g := wyF_grown dead (n.getD i z92).f1 _ hs
  have hc := card_wout todo s2 _ hf
  refine ⟨⟨g.sub hs, (g.2.2.1 t).2 (.inl h1), fun u q => ?_, fun j hj q1 q2 v hv => ?_, fun S hS ht u q => ?_⟩, Nat.lt_of_le_of_lt g.2.2.2.2 (by show 2 * (64 - card met) + card (woutB todo (firstB todo)) < _; omega)⟩
  · rcases (g.2.2.1 u).1 q with q | ⟨w, _, q, _⟩
    · exact h2 u q
    · exact q
  · by_cases hji : d.getD j 0 = firstB todo
    · have : j = i := by
        rcases Nat.lt_trichotomy j i with r | r | r
        · have := pair_lt hp j i r hi; omega
        · exact r
        · have := pair_lt hp i j r hj; omega
      subst this
      exact (g.2.2.1 v).2 (.inr hv)
    · rcases (g.2.2.1 _).1 q1 with r | r
      · refine (g.2.2.1 v).2 (.inl (h3 j hj r ?_ v hv))
        cases q : hasB todo (d.getD j 0)
        · rfl
        · exfalso
          have : hasB (woutB todo (firstB todo)) (d.getD j 0) = true := by rw [hw, q, decide_eq_true hji]; rfl
          rw [(g.2.2.2.1 _).2 (.inl this)] at q2; cases q2
      · cases q : hasB met (d.getD j 0)
        · rw [(g.2.2.2.1 _).2 (.inr ⟨r, q⟩)] at q2; cases q2
        · refine (g.2.2.1 v).2 (.inl (h3 j hj q ?_ v hv))
          cases q' : hasB todo (d.getD j 0)
          · rfl
          · exfalso
            have : hasB (woutB todo (firstB todo)) (d.getD j 0) = true := by rw [hw, q', decide_eq_true hji]; rfl
            rw [(g.2.2.2.1 _).2 (.inl this)] at q2; cases q2
  · rcases (g.2.2.1 u).1 q with r | r
    · exact h4 S hS ht u r
    · refine hS i hi ?_ u r
      rw [he]
      exact h4 S hS ht _ (s3 _ hf)
end Go.Proofs.YtadepdeckapgcaaDoor
end

section
namespace Go.Proofs.YtadepdeckapgcaaDoor
open Go.RowKit Go.Proofs.YtadepdeckapgcaaDoorW.PrintWords Go.Proofs.YtadepdeckapgcaaDoorW.PrintLast Go.Proofs.YtadepdeckapgcaaDoorW.PrintMore PWitnessTells
set_option linter.unusedSimpArgs false
set_option linter.unusedVariables false
theorem wOfOne (w : World) (t : Int) (bb : Nat) (h : w.cell? ⟨bb, 0, none⟩ = some (.int .i64 t)) : Calls Tryd.prog 57 #[.slice (some ⟨bb, 0, none⟩) 1 1] w fun e w' => e = .returned (.int .u64 (bit1 t : Nat)) ∧ w = w' := by
  have hb := bit1_lt t
  have E : Hid (bits .or .u64 0 ((bit1 t : Nat) : Int) = (bit1 t : Nat)) := by
    unfold Hid
    have := u64_or_nat 0 _ (by decide) hb
    simpa using this
  go_enter Tryd.func57, Tryd.ntmps57
  go_wp2
  refine wp_loop_rounds 2 ?_; rw [rounds_succ]
  go_wp2_with (go_at_call 104; refine (wOne _ _).mono ?_; rintro e w' ⟨rfl, rfl⟩)
  rw [rounds_succ]
  go_wp2
  go_ret
  exact ⟨ret_int E.out, rfl⟩
theorem bs_at (l : List Int) (hl : l.length ≤ MX) (t : Int) : ∃ i b, BsOK l t (i, b) ∧ ∀ (w : World) (A : Option Addr) (c : Nat), Kd.C (Kd.int .i64) w A l.length l → l.length ≤ c →
    Calls Tryd.prog 55 #[.slice A l.length c, .int .i64 t] w fun e w' => e = .returned (.tuple #[.int .i64 i, .bool b]) ∧ ∃ n, w' = w.drewN n := by
  obtain ⟨⟨i, b⟩, h1, h2⟩ := ev_bs_l0 l hl t l.length 0 l.length (by omega) (by omega) (by omega) (fun _ => ⟨fun i hi => by omega, fun i h1 h2 => by omega⟩)
  obtain ⟨k, hk⟩ := h1.rounds
  exact ⟨i, b, h2, fun w A c hC hc => (slices_BinarySearch_int_int.calls k A c l t i b w hC hc hk).mono fun e w' ⟨he, hd⟩ => ⟨he, hd.out⟩⟩
theorem q_same {P : Program} {f : FuncId} {args : Array Value} {w : World} {n : Nat} {v : Value} (h : Calls P f args (w.drewN n) fun e w' => e = .returned v ∧ w.drewN n = w') : Calls P f args (w.drewN n) fun e w'' => e = .returned v ∧ ∃ m, w'' = w.drewN m :=
  h.mono fun _ _ ⟨he, hm⟩ => ⟨he, n, hm.symm⟩
def CoreRes (time : Int) (d : List Int) (n : List NNode) (t : Int) (l : List Int) : Prop :=
  (soundR time d n = true → hasB (ofL 0 d) t = true → ∃ met, CoreOK (ofL 0 d) d n t met ∧ l = listB met) ∧ ((soundR time d n && hasB (ofL 0 d) t) = false → l = [])
def CoRel (w : World) (dead : Nat) (d : List Int) (n : List NNode) (t : Int) (s6 s7 : Value) (wr : World) : Prop := ∃ met todo : Nat, s6 = .int .u64 met ∧ s7 = .int .u64 todo ∧ CInv dead d n t (met, todo) ∧ Quiet w wr
def WyRel (w : World) (dead : Nat) (ws : List (List NTerm)) (fin : Nat × Nat) (s6 s7 i : Value) (wr : World) : Prop := ∃ (k : Nat) (mt : Nat × Nat), k ≤ ws.length ∧ i = .int .i64 k ∧ s6 = .int .u64 mt.1 ∧ s7 = .int .u64 mt.2 ∧ Sub2 mt ∧ wyF dead mt (ws.drop k) = fin ∧ Quiet w wr
def ShRel (w : World) (dead : Nat) (l : List NShare) (fin : Nat × Nat) (s6 s7 i : Value) (wr : World) : Prop := ∃ (k : Nat) (mt : Nat × Nat), k ≤ l.length ∧ i = .int .i64 k ∧ s6 = .int .u64 mt.1 ∧ s7 = .int .u64 mt.2 ∧ Sub2 mt ∧ shF dead mt (l.drop k) = fin ∧ Quiet w wr
theorem sound_way {dead : Nat} {n : List NNode} (h : nodesOk dead n = true) (x : NNode) (hx : x ∈ n) (w : List NTerm) (hw : w ∈ x.f1) : ∃ j : Nat, lacksL dead 0 w = (j : Int) ∧ j < w.length := by
  unfold nodesOk at h
  have h1 := List.all_eq_true.1 (List.all_eq_true.1 h x hx) w hw
  unfold wayOk at h1
  simp only [decide_eq_true_eq] at h1
  rcases lacksL_range dead w 0 with q | ⟨j, q1, q2⟩
  · omega
  · exact ⟨j, by rw [q1]; omega, q2⟩
theorem one_sub {dead : Nat} {mt : Nat × Nat} (h : Sub2 mt) (t : Int) : Sub2 (if hasB dead t && !hasB mt.1 t then (withB mt.1 t, withB mt.2 t) else mt) := (one_grown dead mt h t).sub h
set_option maxRecDepth 100000 in
set_option maxHeartbeats 4000000 in
theorem wCore (w : World) (hT : Tb w) (time : Int) (A1 : Option Addr) (c1 : Nat) (d : List Int) (A2 : Option Addr) (c2 : Nat) (n : List NNode) (h1 : Kd.C (Kd.int .i64) w A1 d.length d) (h2 : d.length ≤ c1) (h3 : Kd.C k92 w A2 n.length n) (h4 : n.length ≤ c2) (t : Int) :
    Calls Tryd.prog 22 #[.agg #[.int .i64 time, .slice A1 d.length c1, .slice A2 n.length c2], .int .i64 t] w fun e w' => ∃ (l : List Int) (v : Value), CoreRes time d n t l ∧ e = .returned v ∧ w'.ownsRow w.heap.size 3 1 v l.length (nums .i64 l) ∧ Below w.heap.size w w' := by
  have hbx : ∀ o, Quiet w (w.alloc o) := fun o => by (repeat (first | exact Fr.refl _ _ | assumption | (refine Fr.quiet ?_ (by assumption)) | refine Fr.quiet ?_ HF.out | refine Fr.quiet ?_ HF2.out | refine Fr.drew ?_ | refine Fr.drewN ?_ _ | refine Fr.alloc ?_ _ | refine Fr.setCell ?_ (.inr (by first | omega | (simp; done) | (simp; omega))) _))
  have SD := Lib.hid (fun wz (q : Quiet w wz) => wSound wz time A1 c1 d A2 c2 n (Kd.C_below h1 q.bel) h2 (Kd.C_below h3 q.bel) h4)
  have OF := Lib.hid (fun wz (q : Quiet w wz) => wOf wz A1 c1 d (Kd.C_below h1 q.bel) h2)
  have hdl := ofL_lt d 0 (by decide)
  have hB : Hid (∀ wz, Quiet (w.alloc (.cells #[.int .i64 time, .slice A1 d.length c1, .slice A2 n.length c2] 25)) wz → wz.cell? ⟨w.heap.size, 0, none⟩ = some (.int .i64 time) ∧ wz.cell? ⟨w.heap.size, 1, none⟩ = some (.slice A1 d.length c1) ∧ wz.cell? ⟨w.heap.size, 2, none⟩ = some (.slice A2 n.length c2)) := by
    intro wz q
    exact ⟨q.cell (by simp) (fun x => x), q.cell (by simp) (fun x => x), q.cell (by simp) (fun x => x)⟩
  have HD := Lib.hid h1
  have HN := Lib.hid h3
  have HT := Lib.hid hT
  have hm3 := h3.2.1
  have hml := (C_len h1).2
  clear h1 h3 hT
  by_cases c0 : (soundR time d n && hasB (ofL 0 d) t) = true
  · have hs : soundR time d n = true := by simp only [Bool.and_eq_true] at c0; exact c0.1
    have hd : hasB (ofL 0 d) t = true := by simp only [Bool.and_eq_true] at c0; exact c0.2
    have hRes : Hid (∀ met, CoreOK (ofL 0 d) d n t met → CoreRes time d n t (listB met)) := fun met hm => ⟨fun _ _ => ⟨met, hm, rfl⟩, fun q => by rw [c0] at q; cases q⟩
    have hck : chkR time d n = 0 := by unfold soundR at hs; simp only [Bool.and_eq_true, decide_eq_true_eq] at hs; exact hs.1
    have hok : nodesOk (ofL 0 d) n = true := by unfold soundR at hs; simp only [Bool.and_eq_true] at hs; exact hs.2
    obtain ⟨hlen, hdc, _⟩ := chkR_zero _ _ _ hck
    have HOk := Lib.hid (fun x hx w hw => sound_way hok x hx w hw)
    have hst := CInv.start (n := n) (d := d) hd
    have hofm : ∀ u, hasB (ofL 0 d) u = true → u ∈ d := fun u hu => by rw [hasB_ofL] at hu; unfold hasB at hu; simp at hu; exact hu.2
    rw [hs] at SD
    generalize ofL 0 d = dead at *
    have HSt := Lib.hid hst; have HDC := Lib.hid hdc; have HLen := Lib.hid hlen; have HOf := Lib.hid hofm
    clear c0 hs hck hok hst hdc hlen hofm
    go_enter Tryd.func22, Tryd.ntmps22
    go_wp2_with (go_at_call 57; refine (OF.out _ (hbx _)).mono ?_; rintro e w' ⟨rfl, rfl⟩)
    refine (SD.out _ (hbx _)).mono ?_
    rintro e w1 ⟨rfl, hq1⟩
    have HQ1 : Hid (Quiet w w1) := (hbx _).quiet hq1
    obtain ⟨x0, x1, x2⟩ := hB.out w1 hq1
    have hs1 := HQ1.out.size
    clear hq1
    go_wp2_with (first
      | (go_at_call 62; refine (wHas _ _ hdl _).mono ?_; rintro e w' ⟨rfl, rfl⟩)
      | (go_at_call 57; refine (wOfOne _ t _ (by go_simp)).mono ?_; rintro e w' ⟨rfl, rfl⟩))
    go_loopw [6, 7] (fun s6 s7 wr => CoRel w1 dead d n t s6 s7 wr) (fun s6 s7 _ => 2 * (64 - card (intOf s6).toNat) + card (intOf s7).toNat)
    case atStart => exact ⟨_, _, rfl, rfl, HSt.out, by (repeat (first | exact Fr.refl _ _ | assumption | (refine Fr.quiet ?_ (by assumption)) | refine Fr.quiet ?_ HF.out | refine Fr.quiet ?_ HF2.out | refine Fr.drew ?_ | refine Fr.drewN ?_ _ | refine Fr.alloc ?_ _ | refine Fr.setCell ?_ (.inr (by first | omega | (simp; done) | (simp; omega))) _))⟩
    case round =>
      obtain ⟨met, todo, rfl, rfl, hinv, hQ⟩ := hrel
      obtain ⟨wo, hwo⟩ : ∃ x, x = wr := ⟨_, rfl⟩
      subst hwo
      have hQw : Quiet w wo := HQ1.out.quiet hQ
      have hTo : Tb wo := HT.out.quiet hQw
      have hmt := hinv.1.1
      have htd := hinv.1.2.1
      simp only at hmt htd
      by_cases h0 : todo = 0
      · subst h0
        have hR := hRes.out met hinv.done
        have LS := Lib.hid (wList wo met hmt hTo)
        have HQw := Lib.hid hQw
        clear hinv hQ hQw hTo
        generalize listB met = lm at *
        have HR := Lib.hid hR
        clear hR
        go_wp2_with (go_at_call 66; refine LS.out.mono ?_; rintro e w' ⟨v, rfl, hown, hbel⟩; have HO := Lib.hid hown; have HBl := Lib.hid hbel; clear hown hbel)
        go_ret
        exact ⟨lm, v, HR.out, rfl, own_weaken HO.out HQw.out.size, Fr.below (HQw.out.quiet (Quiet.of HBl.out)) (fun _ _ x => x)⟩
      · have hfh := firstB_has todo h0 htd
        have hfd := HOf.out _ (hinv.2.2.1 _ (hinv.1.2.2 _ hfh))
        obtain ⟨bi, bb, hbo, BSc⟩ := bs_at d hml (firstB todo)
        have hbt : bb = true := by
          cases bb
          · exact absurd hfd (hbo.2 HDC.out rfl)
          · rfl
        subst hbt
        obtain ⟨j, ej, hj, hje⟩ := hbo.1 rfl
        simp only at ej
        subst ej
        obtain ⟨hstep, hmeas⟩ := CInv.step (deadC_pairwise d (-1) HDC.out).2 hinv h0 j hj hje
        have hwo := woutB_lt' todo htd (firstB todo)
        have hsub : Sub2 (met, woutB todo (firstB todo)) := ⟨hmt, hwo, fun u q => hinv.1.2.2 u (by rw [hasB_woutB todo htd] at q; simp at q; exact q.1)⟩
        have h0' : ((todo : Int) != 0) = true := by simp; omega
        have hjn : j < n.length := by rw [← HLen.out]; exact hj
        have FI := Lib.hid (fun wz hz => wFirst wz todo htd hz)
        have BSq := Lib.hid (fun wz (q : Quiet w wz) => BSc wz A1 c1 (Kd.C_below HD.out q.bel) h2)
        have WO := Lib.hid (fun wz => wWithout wz todo htd (firstB todo))
        obtain ⟨bd, B1, d1, eB, y0, y1, l2, g2⟩ := at_T92 (Kd.C_below HN.out hQw.bel) j (by omega) (by omega)
        have r2 : rd_T92 n (j : Int) = n.getD j z92 := rfl
        rw [r2] at y0 y1 l2 g2
        have HOx := Lib.hid (HOk.out _ (getD_mem z92 n j hjn))
        generalize n.getD j z92 = x at *
        simp only [Int.toNat_natCast] at y0 y1
        have x1' := hQ.cell x1 (fun x => x)
        have x2' := hQ.cell x2 (fun x => x)
        subst eB
        have hj0 : (0 : Int) ≤ (j : Int) := by omega
        have hj1 : (j : Int) < (n.length : Int) := by omega
        have hm2 := g2.2.1
        have HStep := Lib.hid hstep; have HMeas := Lib.hid hmeas; have HSub := Lib.hid hsub; have HG := Lib.hid g2
        have HQ := Lib.hid hQ; have HQw := Lib.hid hQw; have HTo := Lib.hid hTo
        have HM0 : Hid (2 * (64 - card (intOf (.int .u64 met)).toNat) + card (intOf (.int .u64 todo)).toNat = 2 * (64 - card met) + card todo) := Lib.hid (by simp [intOf])
        clear hstep hmeas hsub g2 hQ hQw hTo r2 hfh hfd hbo BSc hje hinv x0 x1 x2 h0 y0 hwo
        generalize hfu : firstB todo = u at *
        generalize hto : woutB todo u = todo2 at *
        generalize hfin : wyF dead (met, todo2) x.f1 = fin at *
        have HFin := Lib.hid hfin
        clear hfin hfu hto
        go_wp2_with fail
        go_quiet ((first
          | (go_at_call 63; exact q_same (FI.out _ (HTo.out.quiet ((Fr.refl _ _).drewN _))))
          | (go_at_call 55; exact Calls.quiet_of (BSq.out _ (HQw.out.drewN _)))))
        have HQn : Hid (Quiet w1 (wo.drewN nq)) := HQ.out.drewN nq
        have HQwn : Hid (Quiet w (wo.drewN nq)) := HQw.out.drewN nq
        have HTn : Hid (Tb (wo.drewN nq)) := HTo.out.quiet ((Fr.refl _ _).drewN _)
        have HGn := Lib.hid (Kd.C_below HG.out (Quiet.bel ((Fr.refl _ _).drewN nq)))
        go_wp2_with (first
          | (go_at_call 63; refine (FI.out _ HTn.out).mono ?_; rintro e w' ⟨rfl, rfl⟩)
          | (go_at_call 64; refine (WO.out _).mono ?_; rintro e w' ⟨rfl, rfl⟩))
        go_loopw [6, 7, 53] (fun s6 s7 i wr => WyRel (wo.drewN nq) dead x.f1 fin s6 s7 i wr) (fun _ _ i _ => x.f1.length - (intOf i).toNat)
        case atStart => exact ⟨0, (met, todo2), Nat.zero_le _, rfl, rfl, rfl, HSub.out, HFin.out, Fr.refl _ _⟩
        case round =>
          obtain ⟨k, mt, hk, rfl, rfl, rfl, hsub, hwy, hQ2⟩ := hrel
          obtain ⟨wq, hwq⟩ : ∃ x, x = wr := ⟨_, rfl⟩
          subst hwq
          by_cases hlt : k < x.f1.length
          · obtain ⟨ad4, A4, c4, hA4, z0, hl4, hC5⟩ := at_L5 (Kd.C_below HGn.out hQ2.bel) k (by omega) (by omega)
            have hdr := drop_cons [] x.f1 k hlt
            have hrd : rd_L5 x.f1 (k : Int) = x.f1.getD k [] := rfl
            rw [hrd] at z0 hl4 hC5
            rw [hdr, wyF_cons] at hwy
            obtain ⟨jj, hjj, hjl⟩ := HOx.out _ (getD_mem [] x.f1 k hlt)
            simp only [Int.toNat_natCast] at z0
            generalize x.f1.getD k [] = way at *
            subst hA4
            obtain ⟨ae, A5, c5, hA5, u0, u1, hl5, hC6⟩ := at_T96 hC5 jj (by omega) (by omega)
            have hrt : rd_T96 way (jj : Int) = way.getD jj z96 := rfl
            have hlo : (way.getD jj z96).f1 = lackOf dead way := by unfold lackOf; rw [hjj]; rfl
            rw [hrt, hlo] at u1 hl5 hC6
            simp only [Int.toNat_natCast] at u1
            have LK := Lib.hid (wLacks wq way A4 c4 hC5 hl4 dead hdl)
            rw [hjj] at LK
            have hm6 := hC6.2.1
            have HWy := Lib.hid hwy; have HSub2 := Lib.hid hsub; have HQ2 := Lib.hid hQ2; have HC6 := Lib.hid hC6
            have hjj0 : (0 : Int) ≤ (jj : Int) := by omega
            have hjj1 : (jj : Int) < (way.length : Int) := by omega
            subst hA5
            clear hwy hsub hQ2 hC5 hC6 hdr hrd hjj hrt hlo u0
            generalize hfr : lackOf dead way = from_ at *
            clear hfr
            go_wp2_with fail
            refine LK.out.mono ?_
            rintro e w3 ⟨rfl, hq3⟩
            have u1' := hq3.cellA u1
            have HQ3 : Hid (Quiet (wo.drewN nq) w3) := HQ2.out.quiet hq3
            have HC7 := Lib.hid (Kd.C_below HC6.out hq3.bel)
            clear hq3 u1
            go_wp2_with fail
            go_loopw [6, 7, 65] (fun s6 s7 i wr => ShRel w3 dead from_ (shF dead mt from_) s6 s7 i wr) (fun _ _ i _ => from_.length - (intOf i).toNat)
            case atStart => exact ⟨0, mt, Nat.zero_le _, rfl, rfl, rfl, HSub2.out, rfl, Fr.refl _ _⟩
            case round =>
              obtain ⟨q, mt2, hq, rfl, rfl, rfl, hsub3, hsh, hQ4⟩ := hrel
              by_cases hlq : q < from_.length
              · obtain ⟨af, hAf, v0, v1⟩ := at_T108 (Kd.C_below HC7.out hQ4.bel) q (by omega) (by omega)
                have hdr := drop_cons z108 from_ q hlq
                have hrd : rd_T108 from_ (q : Int) = from_.getD q z108 := rfl
                rw [hrd] at v0 v1
                rw [hdr, shF_cons] at hsh
                generalize from_.getD q z108 = s at *
                obtain ⟨st, sn⟩ := s
                simp only [Int.toNat_natCast] at v0 v1 hsh
                subst hAf
                have hb1 := hsub3.1
                have hb2 := hsub3.2.1
                have hsub4 := one_sub (dead := dead) hsub3 st
                have HQ4 := Lib.hid hQ4
                have HSub3 := Lib.hid hsub3
                clear hdr hrd hQ4 hsub3
                cases hb : hasB dead st
                · rw [hb] at hsh
                  have HSh : Hid (shF dead mt2 (from_.drop (q + 1)) = shF dead mt from_) := Lib.hid (by simpa using hsh)
                  clear hsh hsub4
                  go_wp2_with (go_at_call 62; refine (wHas _ _ (by assumption) _).mono ?_; rintro e w' ⟨rfl, rfl⟩)
                  go_roundw
                  case rel => exact ⟨q + 1, mt2, by omega, by go_num, rfl, rfl, HSub3.out, HSh.out, by have q := HQ4.out; (repeat (first | exact Fr.refl _ _ | assumption | (refine Fr.quiet ?_ (by assumption)) | refine Fr.quiet ?_ HF.out | refine Fr.quiet ?_ HF2.out | refine Fr.drew ?_ | refine Fr.drewN ?_ _ | refine Fr.alloc ?_ _ | refine Fr.setCell ?_ (.inr (by first | omega | (simp; done) | (simp; omega))) _))⟩
                  case measure => simp [intOf]; omega
                · cases hb' : hasB mt2.1 st
                  · rw [hb, hb'] at hsh hsub4
                    have HSh : Hid (shF dead (withB mt2.1 st, withB mt2.2 st) (from_.drop (q + 1)) = shF dead mt from_) := Lib.hid (by simpa using hsh)
                    have HSub4 : Hid (Sub2 (withB mt2.1 st, withB mt2.2 st)) := Lib.hid (by simpa using hsub4)
                    clear hsh hsub4
                    go_wp2_with (go_at_call 62; refine (wHas _ _ (by assumption) _).mono ?_; rintro e w' ⟨rfl, rfl⟩)
                    go_quiet (((go_at_call 65; exact q_same (wWith _ _ (by assumption) _))))
                    go_wp2
                    go_roundw
                    case rel => exact ⟨q + 1, (withB mt2.1 st, withB mt2.2 st), by omega, by go_num, rfl, rfl, HSub4.out, HSh.out, by have q := HQ4.out; (repeat (first | exact Fr.refl _ _ | assumption | (refine Fr.quiet ?_ (by assumption)) | refine Fr.quiet ?_ HF.out | refine Fr.quiet ?_ HF2.out | refine Fr.drew ?_ | refine Fr.drewN ?_ _ | refine Fr.alloc ?_ _ | refine Fr.setCell ?_ (.inr (by first | omega | (simp; done) | (simp; omega))) _))⟩
                    case measure => simp [intOf]; omega
                  · rw [hb, hb'] at hsh
                    have HSh : Hid (shF dead mt2 (from_.drop (q + 1)) = shF dead mt from_) := Lib.hid (by simpa using hsh)
                    clear hsh hsub4
                    go_wp2_with (go_at_call 62; refine (wHas _ _ (by assumption) _).mono ?_; rintro e w' ⟨rfl, rfl⟩)
                    go_roundw
                    case rel => exact ⟨q + 1, mt2, by omega, by go_num, rfl, rfl, HSub3.out, HSh.out, by have q := HQ4.out; (repeat (first | exact Fr.refl _ _ | assumption | (refine Fr.quiet ?_ (by assumption)) | refine Fr.quiet ?_ HF.out | refine Fr.quiet ?_ HF2.out | refine Fr.drew ?_ | refine Fr.drewN ?_ _ | refine Fr.alloc ?_ _ | refine Fr.setCell ?_ (.inr (by first | omega | (simp; done) | (simp; omega))) _))⟩
                    case measure => simp [intOf]; omega
              · have hx2 : mt2 = shF dead mt from_ := by rw [← hsh, List.drop_of_length_le (by omega)]; rfl
                have HE := Lib.hid hx2
                have HQ4 := Lib.hid hQ4
                have HSub3 := Lib.hid hsub3
                clear hx2 hsh hQ4 hsub3
                go_wp2
                go_roundw
                case rel => exact ⟨k + 1, mt2, by omega, by go_num, rfl, rfl, HSub3.out, by rw [HE.out]; exact HWy.out, HQ3.out.quiet HQ4.out⟩
                case measure => simp [intOf]; omega
          · have hx2 : mt = fin := by rw [← hwy, List.drop_of_length_le (by omega)]; rfl
            have HE := Lib.hid hx2
            have HQ2 := Lib.hid hQ2
            clear hx2 hwy hQ2 hsub
            go_wp2
            go_roundw
            case rel => exact ⟨mt.1, mt.2, rfl, rfl, by rw [HE.out]; exact HStep.out, HQn.out.quiet HQ2.out⟩
            case measure => rw [HM0.out, HE.out]; have := HMeas.out; simpa [intOf] using this
  · have hRes : CoreRes time d n t [] := ⟨fun q1 q2 => absurd (by rw [q1, q2]; rfl) c0, fun _ => rfl⟩
    have c1' : (soundR time d n && hasB (ofL 0 d) t) = false := by simpa using c0
    have HRes := Lib.hid hRes
    clear hRes c0
    generalize ofL 0 d = dead at *
    cases hs : soundR time d n
    · rw [hs] at SD
      clear c1' hs
      go_enter Tryd.func22, Tryd.ntmps22
      go_wp2_with (go_at_call 57; refine (OF.out _ (hbx _)).mono ?_; rintro e w' ⟨rfl, rfl⟩)
      refine (SD.out _ (hbx _)).mono ?_
      rintro e w1 ⟨rfl, hq1⟩
      have HQ1 : Hid (Quiet w w1) := (hbx _).quiet hq1
      clear hq1
      go_wp2
      go_ret
      exact ⟨[], _, HRes.out, rfl, own_nil _ _ _ _, Fr.below HQ1.out (fun _ _ x => x)⟩
    · rw [hs] at SD c1'
      have hd : hasB dead t = false := by simpa using c1'
      clear c1' hs
      go_enter Tryd.func22, Tryd.ntmps22
      go_wp2_with (go_at_call 57; refine (OF.out _ (hbx _)).mono ?_; rintro e w' ⟨rfl, rfl⟩)
      refine (SD.out _ (hbx _)).mono ?_
      rintro e w1 ⟨rfl, hq1⟩
      have HQ1 : Hid (Quiet w w1) := (hbx _).quiet hq1
      clear hq1
      go_wp2_with (go_at_call 62; refine (wHas _ _ hdl _).mono ?_; rintro e w' ⟨rfl, rfl⟩)
      go_ret
      exact ⟨[], _, HRes.out, rfl, own_nil _ _ _ _, Fr.below HQ1.out (fun _ _ x => x)⟩
end Go.Proofs.YtadepdeckapgcaaDoor
end

section
namespace Go.Proofs.YtadepdeckapgcaaDoor.PWitnessTells
open Go.RowKit Go.Proofs.YtadepdeckapgcaaDoorW.PrintWords Go.Proofs.YtadepdeckapgcaaDoorW.PrintLast Go.Proofs.YtadepdeckapgcaaDoorW.PrintMore
attribute [local go_sem] max2_int min2_int max_two min_two max_three min_three max_four min_four
set_option linter.unusedVariables false
set_option linter.unusedSimpArgs false
mutual
def logjamref37_Core.j0 : Nat → Int → Bool → Int → List Int → List (S92) → Option (List Int)
 | 0, _, _, _, _, _ => none
 | k + 1, x1, x21, x290000, x290001, x290002 => if x21 = true then (some ([] : List Int)) else ((logjamref02_Of.f k x290001).bind fun t292 => ((logjamref02_With.f k 0 x1).bind fun t293 => (logjamref37_Core.l0 k t292 t293 0 x290000 x290001 x290002)))
def logjamref37_Core.l0 : Nat → Int → Int → Int → Int → List Int → List (S92) → Option (List Int)
 | 0, _, _, _, _, _, _ => none
 | k + 1, x5, x6, x7, x290000, x290001, x290002 => if x7 < (x290001.length : Int) then (logjamref37_Core.l1 k x5 x6 x7 0 x290000 x290001 x290002) else ((logjamref02_List.f k x6).bind fun t294 => (some t294))
def logjamref37_Core.l1 : Nat → Int → Int → Int → Int → Int → List Int → List (S92) → Option (List Int)
 | 0, _, _, _, _, _, _, _ => none
 | k + 1, x5, x6, x7, x8, x290000, x290001, x290002 => if x8 < (x290001.length : Int) then (if 0 ≤ x8 then ((logjamref02_Has.f k x6 (rd x290001 x8)).bind fun t298 => (if t298 = true then (if x8 < (x290002.length : Int) then (logjamref37_Core.l2 k x5 x6 x7 x8 0 x290000 x290001 x290002 ((rd_T92 x290002 x8).f0) ((rd_T92 x290002 x8).f1)) else (none)) else (logjamref37_Core.l1 k x5 x6 x7 (wrap64 (x8 + 1)) x290000 x290001 x290002))) else (none)) else (logjamref37_Core.l0 k x5 x6 (wrap64 (x7 + 1)) x290000 x290001 x290002)
def logjamref37_Core.l2 : Nat → Int → Int → Int → Int → Int → Int → List Int → List (S92) → Bool → List (List (S96)) → Option (List Int)
 | 0, _, _, _, _, _, _, _, _, _, _ => none
 | k + 1, x5, x6, x7, x8, x10, x290000, x290001, x290002, x301000, x301001 => if x10 < (x301001.length : Int) then (if 0 ≤ x10 then ((logjamref37_Lacks.f k (rd_L5 x301001 x10) x5).bind fun t303 => (if 0 ≤ t303 then (if t303 < ((rd_L5 x301001 x10).length : Int) then (logjamref37_Core.l3 k x5 x6 x7 x8 x10 ((rd_T96 (rd_L5 x301001 x10) t303).f1) 0 x290000 x290001 x290002 x301000 x301001) else (none)) else (none))) else (none)) else (logjamref37_Core.l1 k x5 x6 x7 (wrap64 (x8 + 1)) x290000 x290001 x290002)
def logjamref37_Core.l3 : Nat → Int → Int → Int → Int → Int → List (S108) → Int → Int → List Int → List (S92) → Bool → List (List (S96)) → Option (List Int)
 | 0, _, _, _, _, _, _, _, _, _, _, _, _ => none
 | k + 1, x5, x6, x7, x8, x10, x11, x12, x290000, x290001, x290002, x301000, x301001 => if x12 < (x11.length : Int) then (if 0 ≤ x12 then ((logjamref02_Has.f k x5 ((rd_T108 x11 x12).f0)).bind fun t306 => (if t306 = true then ((logjamref02_With.f k x6 ((rd_T108 x11 x12).f0)).bind fun t308 => (logjamref37_Core.l3 k x5 t308 x7 x8 x10 x11 (wrap64 (x12 + 1)) x290000 x290001 x290002 x301000 x301001)) else (logjamref37_Core.l3 k x5 x6 x7 x8 x10 x11 (wrap64 (x12 + 1)) x290000 x290001 x290002 x301000 x301001))) else (none)) else (logjamref37_Core.l2 k x5 x6 x7 x8 (wrap64 (x10 + 1)) x290000 x290001 x290002 x301000 x301001)
end
def logjamref37_Core.f (k : Nat) (a0_0 : Int) (l0_1 : List Int) (l0_2 : List (S92)) (a1 : Int) : Option (List Int) := (logjamref37_Sound.f k a0_0 l0_1 l0_2).bind fun t290 => (if t290 = true then ((logjamref37_find.f k a0_0 l0_1 l0_2 a1).bind fun t291 => (logjamref37_Core.j0 k a1 (decide (t291 < 0)) a0_0 l0_1 l0_2)) else (logjamref37_Core.j0 k a1 true a0_0 l0_1 l0_2))
set_option maxHeartbeats 8000000 in
set_option maxRecDepth 100000 in
theorem logjamref37_Core.calls (k : Nat) (a0_0 : Int) (A0_1 : Option Addr) (c0_1 : Nat) (l0_1 : List Int) (A0_2 : Option Addr) (c0_2 : Nat) (l0_2 : List (S92)) (a1 : Int) (r : List Int) (w : World) (hr0_1 : Kd.C (Kd.int .i64) w A0_1 l0_1.length l0_1) (hc0_1 : l0_1.length ≤ c0_1) (hr0_2 : Kd.C k92 w A0_2 l0_2.length l0_2) (hc0_2 : l0_2.length ≤ c0_2) (h : logjamref37_Core.f k a0_0 l0_1 l0_2 a1 = some r) :
  Calls Tryd.prog 23 #[.agg #[.int .i64 a0_0, .slice A0_1 l0_1.length c0_1, .slice A0_2 l0_2.length c0_2], .int .i64 a1] w fun e w' => ∃ v0_ : Value, e = .returned (v0_) ∧ Kd.R (Kd.int .i64) 3 w' w.heap.size (fun _ => True) v0_ r ∧ Below w.heap.size w w' := by
 have hu25 := Tryd.underlying25
 have hu92 := Tryd.underlying92
 have HR0_1 := Aside0.mk hr0_1
 have HC0_1 := Aside0.mk hc0_1
 clear hr0_1 hc0_1
 have HR0_2 := Aside0.mk hr0_2
 have HC0_2 := Aside0.mk hc0_2
 clear hr0_2 hc0_2
 have HB := Aside0.mk (Below.refl w.heap.size w)
 have H : ((logjamref37_Sound.f k a0_0 l0_1 l0_2).bind fun t290 => (if t290 = true then ((logjamref37_find.f k a0_0 l0_1 l0_2 a1).bind fun t291 => (logjamref37_Core.j0 k a1 (decide (t291 < 0)) a0_0 l0_1 l0_2)) else (logjamref37_Core.j0 k a1 true a0_0 l0_1 l0_2))) = some r := h
 clear h
 have HC3 := Aside0.mk H
 clear H
 go_enter Tryd.func23, Tryd.ntmps23
 go_upto_region 1 with (first | ((with_reducible refine gate_dst (N := 2) rfl ?_); refine box_event ?hg (N := 2) ?hd (cs := #[.int .i64 a0_0, .slice A0_1 l0_1.length c0_1, .slice A0_2 l0_2.length c0_2]) (t := 25) ?hr ?_; (case hd => rfl); (case hg => rfl); (case hr => first | (go_simp; done) | (go_simp; rfl)); intro gb289 hg w4 hbox hb; have n0_ := Aside0.mk (below_step (by repeat (first | (with_reducible first | exact HB.out | apply below_alloc | apply pw_below_drewN | apply below_drew1) | exact HB.out)) hb); have n1_ := Aside0.mk (hbox); have n2_ := Aside0.mk ((by rw [hg]; exact (below_size (by repeat (first | (with_reducible first | exact HB.out | apply below_alloc | apply pw_below_drewN | apply below_drew1) | exact HB.out))) : w.heap.size ≤ gb289)); have n3_ := Aside0.mk ((by rw [hg]; exact (below_size (by repeat (first | (with_reducible first | exact HB.out | apply below_alloc | apply pw_below_drewN | apply below_drew1) | exact HB.out))) : w.heap.size ≤ gb289)); clear HB; have HB := n0_; have BK289 := n1_; have GW289 := n2_; have GE289 := n3_; clear n0_ n1_ n2_ n3_; clear hb hbox hg))
 repeat (go_quiet (first | ((with_reducible refine gate_dst (N := 2) rfl ?_); refine box_event ?hg (N := 2) ?hd (cs := #[.int .i64 a0_0, .slice A0_1 l0_1.length c0_1, .slice A0_2 l0_2.length c0_2]) (t := 25) ?hr ?_; (case hd => rfl); (case hg => rfl); (case hr => first | (go_simp; done) | (go_simp; rfl)); intro gb289 hg w4 hbox hb; have n0_ := Aside0.mk (below_step (by repeat (first | (with_reducible first | exact HB.out | apply below_alloc | apply pw_below_drewN | apply below_drew1) | exact HB.out)) hb); have n1_ := Aside0.mk (hbox); have n2_ := Aside0.mk ((by rw [hg]; exact (below_size (by repeat (first | (with_reducible first | exact HB.out | apply below_alloc | apply pw_below_drewN | apply below_drew1) | exact HB.out))) : w.heap.size ≤ gb289)); have n3_ := Aside0.mk ((by rw [hg]; exact (below_size (by repeat (first | (with_reducible first | exact HB.out | apply below_alloc | apply pw_below_drewN | apply below_drew1) | exact HB.out))) : w.heap.size ≤ gb289)); clear HB; have HB := n0_; have BK289 := n1_; have GW289 := n2_; have GE289 := n3_; clear n0_ n1_ n2_ n3_; clear hb hbox hg)); go_upto_region 1 with (first | ((with_reducible refine gate_dst (N := 2) rfl ?_); refine box_event ?hg (N := 2) ?hd (cs := #[.int .i64 a0_0, .slice A0_1 l0_1.length c0_1, .slice A0_2 l0_2.length c0_2]) (t := 25) ?hr ?_; (case hd => rfl); (case hg => rfl); (case hr => first | (go_simp; done) | (go_simp; rfl)); intro gb289 hg w4 hbox hb; have n0_ := Aside0.mk (below_step (by repeat (first | (with_reducible first | exact HB.out | apply below_alloc | apply pw_below_drewN | apply below_drew1) | exact HB.out)) hb); have n1_ := Aside0.mk (hbox); have n2_ := Aside0.mk ((by rw [hg]; exact (below_size (by repeat (first | (with_reducible first | exact HB.out | apply below_alloc | apply pw_below_drewN | apply below_drew1) | exact HB.out))) : w.heap.size ≤ gb289)); have n3_ := Aside0.mk ((by rw [hg]; exact (below_size (by repeat (first | (with_reducible first | exact HB.out | apply below_alloc | apply pw_below_drewN | apply below_drew1) | exact HB.out))) : w.heap.size ≤ gb289)); clear HB; have HB := n0_; have BK289 := n1_; have GW289 := n2_; have GE289 := n3_; clear n0_ n1_ n2_ n3_; clear hb hbox hg)))
 (try simp only [Act.put, List.setIfInBounds_toArray, List.set_cons_zero, List.set_cons_succ])
 go_cut [21] (fun v21 wc => ∃ (kq : Nat) (x21_2 : Bool), v21 = .bool x21_2 ∧ Aside0 (logjamref37_Core.j0 kq a1 x21_2 a0_0 l0_1 l0_2 = some r) ∧ Aside0 (kq ≤ k) ∧ Aside0 (wc.heap[gb289]? = some (.cells #[.int .i64 a0_0, (.slice A0_1 l0_1.length c0_1), (.slice A0_2 l0_2.length c0_2)] 25 (0, 0))) ∧ Aside0 (Below w.heap.size w wc))
 case first =>
  have H := HC3.out
  clear HC3
  replace H := Option.bind_eq_some_iff.mp H
  obtain ⟨t290, A50, H⟩ := H
  replace H : (if t290 = true then ((logjamref37_find.f k a0_0 l0_1 l0_2 a1).bind fun t291 => (logjamref37_Core.j0 k a1 (decide (t291 < 0)) a0_0 l0_1 l0_2)) else (logjamref37_Core.j0 k a1 true a0_0 l0_1 l0_2)) = some r := H
  have A5 := Aside0.mk A50
  clear A50
  by_cases c6 : t290 = true
  ·subst c6
   have H1 : ((logjamref37_find.f k a0_0 l0_1 l0_2 a1).bind fun t291 => (logjamref37_Core.j0 k a1 (decide (t291 < 0)) a0_0 l0_1 l0_2)) = some r := by rw [if_pos rfl] at H; exact H
   clear H
   have H := H1
   clear H1
   replace H := Option.bind_eq_some_iff.mp H
   obtain ⟨t291, A70, H⟩ := H
   replace H : (logjamref37_Core.j0 k a1 (decide (t291 < 0)) a0_0 l0_1 l0_2) = some r := H
   have A7 := Aside0.mk A70
   clear A70
   have H' := Aside0.mk H
   clear H
   have hcz8_0 : w4.cell? ⟨gb289, 0, none⟩ = some (.int .i64 a0_0) := (blk_cell BK289.out 0).trans rfl
   have hcz8_1 : w4.cell? ⟨gb289, 1, none⟩ = some (.slice A0_1 l0_1.length c0_1) := (blk_cell BK289.out 1).trans rfl
   have hcz8_2 : w4.cell? ⟨gb289, 2, none⟩ = some (.slice A0_2 l0_2.length c0_2) := (blk_cell BK289.out 2).trans rfl
   have hfz8_0 := blk_frozen BK289.out 0
   have hfz8_1 := blk_frozen BK289.out 1
   have hfz8_2 := blk_frozen BK289.out 2
   go_wp2_with (first | (go_at_call 18; (with_reducible refine (logjamref37_Sound.calls k a0_0 _ _ l0_1 _ _ l0_2 true _ ?side1 ?side2 ?side3 ?side4 A5.out).mono ?_); (case side1 => repeat (first | exact (Kd.C_below HR0_1.out HB.out) | (with_reducible refine Kd.C_alloc ?_ _) | (with_reducible refine Kd.C_drewN ?_ _) | (with_reducible refine Kd.C_drew ?_))); (case side2 => exact HC0_1.out); (case side3 => repeat (first | exact (Kd.C_below HR0_2.out HB.out) | (with_reducible refine Kd.C_alloc ?_ _) | (with_reducible refine Kd.C_drewN ?_ _) | (with_reducible refine Kd.C_drew ?_))); (case side4 => exact HC0_2.out); rintro e w9 ⟨rfl, hb⟩; have n0_ := Aside0.mk (blk_below (g := gb289) (o := .cells #[.int .i64 a0_0, .slice A0_1 l0_1.length c0_1, .slice A0_2 l0_2.length c0_2] 25 (0, 0)) (by (with_reducible repeat (first | refine blk_drewN ?_ _ | refine blk_drew ?_ | refine blk_alloc ?_ _)); exact BK289.out) hb); have n1_ := Aside0.mk (below_step (by repeat (first | (with_reducible first | exact HB.out | apply below_alloc | apply pw_below_drewN | apply below_drew1 | refine below_set ?_ GE289.out) | exact HB.out)) hb); clear BK289; clear HB; have BK289 := n0_; have HB := n1_; clear n0_ n1_; (try clear hb); (try clear hb2); (try clear hk); (try clear hi); have hcz10_0 : w9.cell? ⟨gb289, 0, none⟩ = some (.int .i64 a0_0) := (blk_cell BK289.out 0).trans rfl; have hcz10_1 : w9.cell? ⟨gb289, 1, none⟩ = some (.slice A0_1 l0_1.length c0_1) := (blk_cell BK289.out 1).trans rfl; have hcz10_2 : w9.cell? ⟨gb289, 2, none⟩ = some (.slice A0_2 l0_2.length c0_2) := (blk_cell BK289.out 2).trans rfl; have hfz10_0 := blk_frozen BK289.out 0; have hfz10_1 := blk_frozen BK289.out 1; have hfz10_2 := blk_frozen BK289.out 2) | (go_at_call 58; (with_reducible refine (logjamref37_find.calls k a0_0 _ _ l0_1 _ _ l0_2 a1 t291 _ ?side1 ?side2 ?side3 ?side4 A7.out).mono ?_); (case side1 => repeat (first | exact (Kd.C_below HR0_1.out HB.out) | (with_reducible refine Kd.C_alloc ?_ _) | (with_reducible refine Kd.C_drewN ?_ _) | (with_reducible refine Kd.C_drew ?_))); (case side2 => exact HC0_1.out); (case side3 => repeat (first | exact (Kd.C_below HR0_2.out HB.out) | (with_reducible refine Kd.C_alloc ?_ _) | (with_reducible refine Kd.C_drewN ?_ _) | (with_reducible refine Kd.C_drew ?_))); (case side4 => exact HC0_2.out); rintro e w11 ⟨rfl, hb⟩; have n0_ := Aside0.mk (blk_below (g := gb289) (o := .cells #[.int .i64 a0_0, .slice A0_1 l0_1.length c0_1, .slice A0_2 l0_2.length c0_2] 25 (0, 0)) (by (with_reducible repeat (first | refine blk_drewN ?_ _ | refine blk_drew ?_ | refine blk_alloc ?_ _)); exact BK289.out) hb); have n1_ := Aside0.mk (below_step (by repeat (first | (with_reducible first | exact HB.out | apply below_alloc | apply pw_below_drewN | apply below_drew1 | refine below_set ?_ GE289.out) | exact HB.out)) hb); clear BK289; clear HB; have BK289 := n0_; have HB := n1_; clear n0_ n1_; (try clear hb); (try clear hb2); (try clear hk); (try clear hi)))
   repeat (go_quiet (first | (go_at_call 18; (with_reducible refine (logjamref37_Sound.calls k a0_0 _ _ l0_1 _ _ l0_2 true _ ?side1 ?side2 ?side3 ?side4 A5.out).mono ?_); (case side1 => repeat (first | exact (Kd.C_below HR0_1.out HB.out) | (with_reducible refine Kd.C_alloc ?_ _) | (with_reducible refine Kd.C_drewN ?_ _) | (with_reducible refine Kd.C_drew ?_))); (case side2 => exact HC0_1.out); (case side3 => repeat (first | exact (Kd.C_below HR0_2.out HB.out) | (with_reducible refine Kd.C_alloc ?_ _) | (with_reducible refine Kd.C_drewN ?_ _) | (with_reducible refine Kd.C_drew ?_))); (case side4 => exact HC0_2.out); rintro e w9 ⟨rfl, hb⟩; have n0_ := Aside0.mk (blk_below (g := gb289) (o := .cells #[.int .i64 a0_0, .slice A0_1 l0_1.length c0_1, .slice A0_2 l0_2.length c0_2] 25 (0, 0)) (by (with_reducible repeat (first | refine blk_drewN ?_ _ | refine blk_drew ?_ | refine blk_alloc ?_ _)); exact BK289.out) hb); have n1_ := Aside0.mk (below_step (by repeat (first | (with_reducible first | exact HB.out | apply below_alloc | apply pw_below_drewN | apply below_drew1 | refine below_set ?_ GE289.out) | exact HB.out)) hb); clear BK289; clear HB; have BK289 := n0_; have HB := n1_; clear n0_ n1_; (try clear hb); (try clear hb2); (try clear hk); (try clear hi); have hcz10_0 : w9.cell? ⟨gb289, 0, none⟩ = some (.int .i64 a0_0) := (blk_cell BK289.out 0).trans rfl; have hcz10_1 : w9.cell? ⟨gb289, 1, none⟩ = some (.slice A0_1 l0_1.length c0_1) := (blk_cell BK289.out 1).trans rfl; have hcz10_2 : w9.cell? ⟨gb289, 2, none⟩ = some (.slice A0_2 l0_2.length c0_2) := (blk_cell BK289.out 2).trans rfl; have hfz10_0 := blk_frozen BK289.out 0; have hfz10_1 := blk_frozen BK289.out 1; have hfz10_2 := blk_frozen BK289.out 2) | (go_at_call 58; (with_reducible refine (logjamref37_find.calls k a0_0 _ _ l0_1 _ _ l0_2 a1 t291 _ ?side1 ?side2 ?side3 ?side4 A7.out).mono ?_); (case side1 => repeat (first | exact (Kd.C_below HR0_1.out HB.out) | (with_reducible refine Kd.C_alloc ?_ _) | (with_reducible refine Kd.C_drewN ?_ _) | (with_reducible refine Kd.C_drew ?_))); (case side2 => exact HC0_1.out); (case side3 => repeat (first | exact (Kd.C_below HR0_2.out HB.out) | (with_reducible refine Kd.C_alloc ?_ _) | (with_reducible refine Kd.C_drewN ?_ _) | (with_reducible refine Kd.C_drew ?_))); (case side4 => exact HC0_2.out); rintro e w11 ⟨rfl, hb⟩; have n0_ := Aside0.mk (blk_below (g := gb289) (o := .cells #[.int .i64 a0_0, .slice A0_1 l0_1.length c0_1, .slice A0_2 l0_2.length c0_2] 25 (0, 0)) (by (with_reducible repeat (first | refine blk_drewN ?_ _ | refine blk_drew ?_ | refine blk_alloc ?_ _)); exact BK289.out) hb); have n1_ := Aside0.mk (below_step (by repeat (first | (with_reducible first | exact HB.out | apply below_alloc | apply pw_below_drewN | apply below_drew1 | refine below_set ?_ GE289.out) | exact HB.out)) hb); clear BK289; clear HB; have BK289 := n0_; have HB := n1_; clear n0_ n1_; (try clear hb); (try clear hb2); (try clear hk); (try clear hi))); try go_wp2_with (first | (go_at_call 18; (with_reducible refine (logjamref37_Sound.calls k a0_0 _ _ l0_1 _ _ l0_2 true _ ?side1 ?side2 ?side3 ?side4 A5.out).mono ?_); (case side1 => repeat (first | exact (Kd.C_below HR0_1.out HB.out) | (with_reducible refine Kd.C_alloc ?_ _) | (with_reducible refine Kd.C_drewN ?_ _) | (with_reducible refine Kd.C_drew ?_))); (case side2 => exact HC0_1.out); (case side3 => repeat (first | exact (Kd.C_below HR0_2.out HB.out) | (with_reducible refine Kd.C_alloc ?_ _) | (with_reducible refine Kd.C_drewN ?_ _) | (with_reducible refine Kd.C_drew ?_))); (case side4 => exact HC0_2.out); rintro e w9 ⟨rfl, hb⟩; have n0_ := Aside0.mk (blk_below (g := gb289) (o := .cells #[.int .i64 a0_0, .slice A0_1 l0_1.length c0_1, .slice A0_2 l0_2.length c0_2] 25 (0, 0)) (by (with_reducible repeat (first | refine blk_drewN ?_ _ | refine blk_drew ?_ | refine blk_alloc ?_ _)); exact BK289.out) hb); have n1_ := Aside0.mk (below_step (by repeat (first | (with_reducible first | exact HB.out | apply below_alloc | apply pw_below_drewN | apply below_drew1 | refine below_set ?_ GE289.out) | exact HB.out)) hb); clear BK289; clear HB; have BK289 := n0_; have HB := n1_; clear n0_ n1_; (try clear hb); (try clear hb2); (try clear hk); (try clear hi); have hcz10_0 : w9.cell? ⟨gb289, 0, none⟩ = some (.int .i64 a0_0) := (blk_cell BK289.out 0).trans rfl; have hcz10_1 : w9.cell? ⟨gb289, 1, none⟩ = some (.slice A0_1 l0_1.length c0_1) := (blk_cell BK289.out 1).trans rfl; have hcz10_2 : w9.cell? ⟨gb289, 2, none⟩ = some (.slice A0_2 l0_2.length c0_2) := (blk_cell BK289.out 2).trans rfl; have hfz10_0 := blk_frozen BK289.out 0; have hfz10_1 := blk_frozen BK289.out 1; have hfz10_2 := blk_frozen BK289.out 2) | (go_at_call 58; (with_reducible refine (logjamref37_find.calls k a0_0 _ _ l0_1 _ _ l0_2 a1 t291 _ ?side1 ?side2 ?side3 ?side4 A7.out).mono ?_); (case side1 => repeat (first | exact (Kd.C_below HR0_1.out HB.out) | (with_reducible refine Kd.C_alloc ?_ _) | (with_reducible refine Kd.C_drewN ?_ _) | (with_reducible refine Kd.C_drew ?_))); (case side2 => exact HC0_1.out); (case side3 => repeat (first | exact (Kd.C_below HR0_2.out HB.out) | (with_reducible refine Kd.C_alloc ?_ _) | (with_reducible refine Kd.C_drewN ?_ _) | (with_reducible refine Kd.C_drew ?_))); (case side4 => exact HC0_2.out); rintro e w11 ⟨rfl, hb⟩; have n0_ := Aside0.mk (blk_below (g := gb289) (o := .cells #[.int .i64 a0_0, .slice A0_1 l0_1.length c0_1, .slice A0_2 l0_2.length c0_2] 25 (0, 0)) (by (with_reducible repeat (first | refine blk_drewN ?_ _ | refine blk_drew ?_ | refine blk_alloc ?_ _)); exact BK289.out) hb); have n1_ := Aside0.mk (below_step (by repeat (first | (with_reducible first | exact HB.out | apply below_alloc | apply pw_below_drewN | apply below_drew1 | refine below_set ?_ GE289.out) | exact HB.out)) hb); clear BK289; clear HB; have BK289 := n0_; have HB := n1_; clear n0_ n1_; (try clear hb); (try clear hb2); (try clear hk); (try clear hi))))
   go_meet
   case rel => exact ⟨_, (decide (t291 < 0)), (by first | rfl | (simp; done) | (simp [*]; done)), H', ⟨by first | omega | exact Nat.le_refl _⟩, ⟨by (with_reducible repeat (first | refine blk_drewN ?_ _ | refine blk_drew ?_ | refine blk_alloc ?_ _)); exact BK289.out⟩, ⟨by repeat (first | (with_reducible first | exact HB.out | apply below_alloc | apply pw_below_drewN | apply below_drew1 | refine below_set ?_ GE289.out) | exact HB.out)⟩⟩
  ·replace c6 := Bool.eq_false_iff.mpr c6
   subst c6
   have H1 : (logjamref37_Core.j0 k a1 true a0_0 l0_1 l0_2) = some r := by rw [if_neg (show ¬ (false = true) by decide)] at H; exact H
   clear H
   have H := H1
   clear H1
   have H' := Aside0.mk H
   clear H
   have hcz12_0 : w4.cell? ⟨gb289, 0, none⟩ = some (.int .i64 a0_0) := (blk_cell BK289.out 0).trans rfl
   have hcz12_1 : w4.cell? ⟨gb289, 1, none⟩ = some (.slice A0_1 l0_1.length c0_1) := (blk_cell BK289.out 1).trans rfl
   have hcz12_2 : w4.cell? ⟨gb289, 2, none⟩ = some (.slice A0_2 l0_2.length c0_2) := (blk_cell BK289.out 2).trans rfl
   have hfz12_0 := blk_frozen BK289.out 0
   have hfz12_1 := blk_frozen BK289.out 1
   have hfz12_2 := blk_frozen BK289.out 2
   go_wp2_with (first | (go_at_call 18; (with_reducible refine (logjamref37_Sound.calls k a0_0 _ _ l0_1 _ _ l0_2 false _ ?side1 ?side2 ?side3 ?side4 A5.out).mono ?_); (case side1 => repeat (first | exact (Kd.C_below HR0_1.out HB.out) | (with_reducible refine Kd.C_alloc ?_ _) | (with_reducible refine Kd.C_drewN ?_ _) | (with_reducible refine Kd.C_drew ?_))); (case side2 => exact HC0_1.out); (case side3 => repeat (first | exact (Kd.C_below HR0_2.out HB.out) | (with_reducible refine Kd.C_alloc ?_ _) | (with_reducible refine Kd.C_drewN ?_ _) | (with_reducible refine Kd.C_drew ?_))); (case side4 => exact HC0_2.out); rintro e w13 ⟨rfl, hb⟩; have n0_ := Aside0.mk (blk_below (g := gb289) (o := .cells #[.int .i64 a0_0, .slice A0_1 l0_1.length c0_1, .slice A0_2 l0_2.length c0_2] 25 (0, 0)) (by (with_reducible repeat (first | refine blk_drewN ?_ _ | refine blk_drew ?_ | refine blk_alloc ?_ _)); exact BK289.out) hb); have n1_ := Aside0.mk (below_step (by repeat (first | (with_reducible first | exact HB.out | apply below_alloc | apply pw_below_drewN | apply below_drew1 | refine below_set ?_ GE289.out) | exact HB.out)) hb); clear BK289; clear HB; have BK289 := n0_; have HB := n1_; clear n0_ n1_; (try clear hb); (try clear hb2); (try clear hk); (try clear hi)))
   repeat (go_quiet (first | (go_at_call 18; (with_reducible refine (logjamref37_Sound.calls k a0_0 _ _ l0_1 _ _ l0_2 false _ ?side1 ?side2 ?side3 ?side4 A5.out).mono ?_); (case side1 => repeat (first | exact (Kd.C_below HR0_1.out HB.out) | (with_reducible refine Kd.C_alloc ?_ _) | (with_reducible refine Kd.C_drewN ?_ _) | (with_reducible refine Kd.C_drew ?_))); (case side2 => exact HC0_1.out); (case side3 => repeat (first | exact (Kd.C_below HR0_2.out HB.out) | (with_reducible refine Kd.C_alloc ?_ _) | (with_reducible refine Kd.C_drewN ?_ _) | (with_reducible refine Kd.C_drew ?_))); (case side4 => exact HC0_2.out); rintro e w13 ⟨rfl, hb⟩; have n0_ := Aside0.mk (blk_below (g := gb289) (o := .cells #[.int .i64 a0_0, .slice A0_1 l0_1.length c0_1, .slice A0_2 l0_2.length c0_2] 25 (0, 0)) (by (with_reducible repeat (first | refine blk_drewN ?_ _ | refine blk_drew ?_ | refine blk_alloc ?_ _)); exact BK289.out) hb); have n1_ := Aside0.mk (below_step (by repeat (first | (with_reducible first | exact HB.out | apply below_alloc | apply pw_below_drewN | apply below_drew1 | refine below_set ?_ GE289.out) | exact HB.out)) hb); clear BK289; clear HB; have BK289 := n0_; have HB := n1_; clear n0_ n1_; (try clear hb); (try clear hb2); (try clear hk); (try clear hi))); try go_wp2_with (first | (go_at_call 18; (with_reducible refine (logjamref37_Sound.calls k a0_0 _ _ l0_1 _ _ l0_2 false _ ?side1 ?side2 ?side3 ?side4 A5.out).mono ?_); (case side1 => repeat (first | exact (Kd.C_below HR0_1.out HB.out) | (with_reducible refine Kd.C_alloc ?_ _) | (with_reducible refine Kd.C_drewN ?_ _) | (with_reducible refine Kd.C_drew ?_))); (case side2 => exact HC0_1.out); (case side3 => repeat (first | exact (Kd.C_below HR0_2.out HB.out) | (with_reducible refine Kd.C_alloc ?_ _) | (with_reducible refine Kd.C_drewN ?_ _) | (with_reducible refine Kd.C_drew ?_))); (case side4 => exact HC0_2.out); rintro e w13 ⟨rfl, hb⟩; have n0_ := Aside0.mk (blk_below (g := gb289) (o := .cells #[.int .i64 a0_0, .slice A0_1 l0_1.length c0_1, .slice A0_2 l0_2.length c0_2] 25 (0, 0)) (by (with_reducible repeat (first | refine blk_drewN ?_ _ | refine blk_drew ?_ | refine blk_alloc ?_ _)); exact BK289.out) hb); have n1_ := Aside0.mk (below_step (by repeat (first | (with_reducible first | exact HB.out | apply below_alloc | apply pw_below_drewN | apply below_drew1 | refine below_set ?_ GE289.out) | exact HB.out)) hb); clear BK289; clear HB; have BK289 := n0_; have HB := n1_; clear n0_ n1_; (try clear hb); (try clear hb2); (try clear hk); (try clear hi))))
   go_meet
   case rel => exact ⟨_, (true), (by first | rfl | (simp; done) | (simp [*]; done)), H', ⟨by first | omega | exact Nat.le_refl _⟩, ⟨by (with_reducible repeat (first | refine blk_drewN ?_ _ | refine blk_drew ?_ | refine blk_alloc ?_ _)); exact BK289.out⟩, ⟨by repeat (first | (with_reducible first | exact HB.out | apply below_alloc | apply pw_below_drewN | apply below_drew1 | refine below_set ?_ GE289.out) | exact HB.out)⟩⟩
 case rest =>
  clear HC3
  try clear c2
  try clear p2
  try clear c6
  try clear hcz10_0
  try clear hcz10_1
  try clear hcz10_2
  try clear hcz12_0
  try clear hcz12_1
  try clear hcz12_2
  try clear hcz8_0
  try clear hcz8_1
  try clear hcz8_2
  try clear hfz10_0
  try clear hfz10_1
  try clear hfz10_2
  try clear hfz12_0
  try clear hfz12_1
  try clear hfz12_2
  try clear hfz8_0
  try clear hfz8_1
  try clear hfz8_2
  obtain ⟨kq, x21_2, rfl, HA, HJ2, BK289, HB⟩ := hcut
  cases kq with
  | zero => exact absurd HA.out (by simp [logjamref37_Core.j0])
  | succ kj2 =>
   have H := HA.out
   clear HA
   simp only [logjamref37_Core.j0] at H
   by_cases c14 : x21_2 = true
   ·subst c14
    have H1 : (some ([] : List Int)) = some r := by rw [if_pos rfl] at H; exact H
    clear H
    have H := H1
    clear H1
    obtain rfl := Option.some.inj H
    go_wp2
    repeat (go_quiet (fail); try go_wp2)
    go_ret
    exact ⟨_, by first | rfl | (simp [errW_none, errW_some] <;> rfl) | (simp [*, errW_none, errW_some] <;> rfl), by first | exact Kd.R_nil _ _ _ _ _ | exact Kd.N_nil _ _ _ _ _ | exact Kd.V_nil _ _ _ _ _ | exact Kd.Q_nil _ _ _ _ _ | exact Kd.S_nil _ _ _ _ _, by repeat (first | (with_reducible first | exact HB.out | apply below_alloc | apply pw_below_drewN | apply below_drew1 | refine below_set ?_ GE289.out) | exact HB.out)⟩
   ·replace c14 := Bool.eq_false_iff.mpr c14
    subst c14
    have H1 : ((logjamref02_Of.f kj2 l0_1).bind fun t292 => ((logjamref02_With.f kj2 0 a1).bind fun t293 => (logjamref37_Core.l0 kj2 t292 t293 0 a0_0 l0_1 l0_2))) = some r := by rw [if_neg (show ¬ (false = true) by decide)] at H; exact H
    clear H
    have H := H1
    clear H1
    replace H := Option.bind_eq_some_iff.mp H
    obtain ⟨t292, A150, H⟩ := H
    replace H : ((logjamref02_With.f kj2 0 a1).bind fun t293 => (logjamref37_Core.l0 kj2 t292 t293 0 a0_0 l0_1 l0_2)) = some r := H
    have A15 := Aside0.mk A150
    clear A150
    replace H := Option.bind_eq_some_iff.mp H
    obtain ⟨t293, A160, H⟩ := H
    replace H : (logjamref37_Core.l0 kj2 t292 t293 0 a0_0 l0_1 l0_2) = some r := H
    have A16 := Aside0.mk A160
    clear A160
    have H' := Aside0.mk H
    clear H
    have hcz17_0 : wc.cell? ⟨gb289, 0, none⟩ = some (.int .i64 a0_0) := (blk_cell BK289.out 0).trans rfl
    have hcz17_1 : wc.cell? ⟨gb289, 1, none⟩ = some (.slice A0_1 l0_1.length c0_1) := (blk_cell BK289.out 1).trans rfl
    have hcz17_2 : wc.cell? ⟨gb289, 2, none⟩ = some (.slice A0_2 l0_2.length c0_2) := (blk_cell BK289.out 2).trans rfl
    have hfz17_0 := blk_frozen BK289.out 0
    have hfz17_1 := blk_frozen BK289.out 1
    have hfz17_2 := blk_frozen BK289.out 2
    go_wp2_with (first | (go_at_call 28; (with_reducible refine (logjamref02_Of.calls kj2 _ _ l0_1 t292 _ ?side1 ?side2 A15.out).mono ?_); (case side1 => repeat (first | exact (Kd.C_below HR0_1.out HB.out) | (with_reducible refine Kd.C_alloc ?_ _) | (with_reducible refine Kd.C_drewN ?_ _) | (with_reducible refine Kd.C_drew ?_))); (case side2 => exact HC0_1.out); rintro e w' ⟨rfl, ⟨nd, rfl⟩⟩; (try first | exact ⟨rfl, _, World.drewN_drewN _ _ _⟩ | exact ⟨rfl, _, Eq.trans (World.drewN_drewN _ _ _) (congrArg (World.drewN _) (Nat.add_assoc _ _ _))⟩)) | (go_at_call 67; (with_reducible refine (logjamref02_With.calls kj2 0 a1 t293 _ A16.out).mono ?_); rintro e w' ⟨rfl, ⟨nd, rfl⟩⟩; (try first | exact ⟨rfl, _, World.drewN_drewN _ _ _⟩ | exact ⟨rfl, _, Eq.trans (World.drewN_drewN _ _ _) (congrArg (World.drewN _) (Nat.add_assoc _ _ _))⟩)))
    repeat (go_quiet (first | (go_at_call 28; (with_reducible refine (logjamref02_Of.calls kj2 _ _ l0_1 t292 _ ?side1 ?side2 A15.out).mono ?_); (case side1 => repeat (first | exact (Kd.C_below HR0_1.out HB.out) | (with_reducible refine Kd.C_alloc ?_ _) | (with_reducible refine Kd.C_drewN ?_ _) | (with_reducible refine Kd.C_drew ?_))); (case side2 => exact HC0_1.out); rintro e w' ⟨rfl, ⟨nd, rfl⟩⟩; (try first | exact ⟨rfl, _, World.drewN_drewN _ _ _⟩ | exact ⟨rfl, _, Eq.trans (World.drewN_drewN _ _ _) (congrArg (World.drewN _) (Nat.add_assoc _ _ _))⟩)) | (go_at_call 67; (with_reducible refine (logjamref02_With.calls kj2 0 a1 t293 _ A16.out).mono ?_); rintro e w' ⟨rfl, ⟨nd, rfl⟩⟩; (try first | exact ⟨rfl, _, World.drewN_drewN _ _ _⟩ | exact ⟨rfl, _, Eq.trans (World.drewN_drewN _ _ _) (congrArg (World.drewN _) (Nat.add_assoc _ _ _))⟩))); try go_wp2_with (first | (go_at_call 28; (with_reducible refine (logjamref02_Of.calls kj2 _ _ l0_1 t292 _ ?side1 ?side2 A15.out).mono ?_); (case side1 => repeat (first | exact (Kd.C_below HR0_1.out HB.out) | (with_reducible refine Kd.C_alloc ?_ _) | (with_reducible refine Kd.C_drewN ?_ _) | (with_reducible refine Kd.C_drew ?_))); (case side2 => exact HC0_1.out); rintro e w' ⟨rfl, ⟨nd, rfl⟩⟩; (try first | exact ⟨rfl, _, World.drewN_drewN _ _ _⟩ | exact ⟨rfl, _, Eq.trans (World.drewN_drewN _ _ _) (congrArg (World.drewN _) (Nat.add_assoc _ _ _))⟩)) | (go_at_call 67; (with_reducible refine (logjamref02_With.calls kj2 0 a1 t293 _ A16.out).mono ?_); rintro e w' ⟨rfl, ⟨nd, rfl⟩⟩; (try first | exact ⟨rfl, _, World.drewN_drewN _ _ _⟩ | exact ⟨rfl, _, Eq.trans (World.drewN_drewN _ _ _) (congrArg (World.drewN _) (Nat.add_assoc _ _ _))⟩))))
    go_loopg [6, 7] kj2 (fun kq v6 v7 w' => ∃ (x6_2 : Int) (x7_2 : Int), v6 = .int .u64 x6_2 ∧ v7 = .int .i64 x7_2 ∧ Aside0 (logjamref37_Core.l0 kq t292 x6_2 x7_2 a0_0 l0_1 l0_2 = some r) ∧ Aside0 (kq ≤ kj2) ∧ Aside0 (w'.heap[gb289]? = some (.cells #[.int .i64 a0_0, (.slice A0_1 l0_1.length c0_1), (.slice A0_2 l0_2.length c0_2)] 25 (0, 0))) ∧ Aside0 (Below w.heap.size w w'))
    case atStart => exact ⟨(t293), (0), (by first | rfl | (simp; done) | (simp [*]; done)), (by first | rfl | (simp; done) | (simp [*]; done)), H', ⟨Nat.le_refl _⟩, ⟨by (with_reducible repeat (first | refine blk_drewN ?_ _ | refine blk_drew ?_ | refine blk_alloc ?_ _)); exact BK289.out⟩, ⟨by repeat (first | (with_reducible first | exact HB.out | apply below_alloc | apply pw_below_drewN | apply below_drew1 | refine below_set ?_ GE289.out) | exact HB.out)⟩⟩
    case round =>
     clear H'
     try clear c1
     try clear c2
     try clear p2
     try clear c6
     try clear c14
     try clear hcz10_0
     try clear hcz10_1
     try clear hcz10_2
     try clear hcz12_0
     try clear hcz12_1
     try clear hcz12_2
     try clear hcz17_0
     try clear hcz17_1
     try clear hcz17_2
     try clear hcz8_0
     try clear hcz8_1
     try clear hcz8_2
     try clear hfz10_0
     try clear hfz10_1
     try clear hfz10_2
     try clear hfz12_0
     try clear hfz12_1
     try clear hfz12_2
     try clear hfz17_0
     try clear hfz17_1
     try clear hfz17_2
     try clear hfz8_0
     try clear hfz8_1
     try clear hfz8_2
     try clear p2
     obtain ⟨x6_2, x7_2, rfl, rfl, HA, HK2, BK289, HB⟩ := hrel
     cases gk with
     | zero => exact absurd HA.out (by simp [logjamref37_Core.l0])
     | succ k2 =>
      have H := HA.out
      clear HA
      simp only [logjamref37_Core.l0] at H
      by_cases c18 : x7_2 < (l0_1.length : Int)
      ·rw [if_pos c18] at H
       have c18b0 : decide (x7_2 < (l0_1.length : Int)) = true := decide_eq_true c18
       clear c18
       have H' := Aside0.mk H
       clear H
       have hcz19_0 : wr.cell? ⟨gb289, 0, none⟩ = some (.int .i64 a0_0) := (blk_cell BK289.out 0).trans rfl
       have hcz19_1 : wr.cell? ⟨gb289, 1, none⟩ = some (.slice A0_1 l0_1.length c0_1) := (blk_cell BK289.out 1).trans rfl
       have hcz19_2 : wr.cell? ⟨gb289, 2, none⟩ = some (.slice A0_2 l0_2.length c0_2) := (blk_cell BK289.out 2).trans rfl
       have hfz19_0 := blk_frozen BK289.out 0
       have hfz19_1 := blk_frozen BK289.out 1
       have hfz19_2 := blk_frozen BK289.out 2
       go_wp2
       repeat (go_quiet (fail); try go_wp2)
       go_loopg [6, 8] k2 (fun kq v6 v8 w' => ∃ (x6_3 : Int) (x8_3 : Int), v6 = .int .u64 x6_3 ∧ v8 = .int .i64 x8_3 ∧ Aside0 (logjamref37_Core.l1 kq t292 x6_3 x7_2 x8_3 a0_0 l0_1 l0_2 = some r) ∧ Aside0 (kq ≤ k2) ∧ Aside0 (w'.heap[gb289]? = some (.cells #[.int .i64 a0_0, (.slice A0_1 l0_1.length c0_1), (.slice A0_2 l0_2.length c0_2)] 25 (0, 0))) ∧ Aside0 (Below w.heap.size w w'))
       case atStart => exact ⟨(x6_2), (0), (by first | rfl | (simp; done) | (simp [*]; done)), (by first | rfl | (simp; done) | (simp [*]; done)), H', ⟨Nat.le_refl _⟩, ⟨by (with_reducible repeat (first | refine blk_drewN ?_ _ | refine blk_drew ?_ | refine blk_alloc ?_ _)); exact BK289.out⟩, ⟨by repeat (first | (with_reducible first | exact HB.out | apply below_alloc | apply pw_below_drewN | apply below_drew1 | refine below_set ?_ GE289.out) | exact HB.out)⟩⟩
       case round =>
        clear H'
        try clear c1
        try clear c2
        try clear p2
        try clear c6
        try clear c14
        try clear c18
        try clear c18b0
        try clear hcz10_0
        try clear hcz10_1
        try clear hcz10_2
        try clear hcz12_0
        try clear hcz12_1
        try clear hcz12_2
        try clear hcz17_0
        try clear hcz17_1
        try clear hcz17_2
        try clear hcz19_0
        try clear hcz19_1
        try clear hcz19_2
        try clear hcz8_0
        try clear hcz8_1
        try clear hcz8_2
        try clear hfz10_0
        try clear hfz10_1
        try clear hfz10_2
        try clear hfz12_0
        try clear hfz12_1
        try clear hfz12_2
        try clear hfz17_0
        try clear hfz17_1
        try clear hfz17_2
        try clear hfz19_0
        try clear hfz19_1
        try clear hfz19_2
        try clear hfz8_0
        try clear hfz8_1
        try clear hfz8_2
        try clear p2
        obtain ⟨x6_3, x8_3, rfl, rfl, HA, HK3, BK289, HB⟩ := hrel
        cases gk with
        | zero => exact absurd HA.out (by simp [logjamref37_Core.l1])
        | succ k3 =>
         have H := HA.out
         clear HA
         simp only [logjamref37_Core.l1] at H
         by_cases c20 : x8_3 < (l0_1.length : Int)
         ·rw [if_pos c20] at H
          have c20b0 : decide (x8_3 < (l0_1.length : Int)) = true := decide_eq_true c20
          clear c20
          by_cases c21 : 0 ≤ x8_3
          ·rw [if_pos c21] at H
           have c21b0 : decide (0 ≤ x8_3) = true := decide_eq_true c21
           clear c21
           replace H := Option.bind_eq_some_iff.mp H
           obtain ⟨t298, A220, H⟩ := H
           replace H : (if t298 = true then (if x8_3 < (l0_2.length : Int) then (logjamref37_Core.l2 k3 t292 x6_3 x7_2 x8_3 0 a0_0 l0_1 l0_2 ((rd_T92 l0_2 x8_3).f0) ((rd_T92 l0_2 x8_3).f1)) else (none)) else (logjamref37_Core.l1 k3 t292 x6_3 x7_2 (wrap64 (x8_3 + 1)) a0_0 l0_1 l0_2)) = some r := H
           have A22 := Aside0.mk A220
           clear A220
           by_cases c23 : t298 = true
           ·subst c23
            have H1 : (if x8_3 < (l0_2.length : Int) then (logjamref37_Core.l2 k3 t292 x6_3 x7_2 x8_3 0 a0_0 l0_1 l0_2 ((rd_T92 l0_2 x8_3).f0) ((rd_T92 l0_2 x8_3).f1)) else (none)) = some r := by rw [if_pos rfl] at H; exact H
            clear H
            have H := H1
            clear H1
            by_cases c24 : x8_3 < (l0_2.length : Int)
            ·rw [if_pos c24] at H
             have c24b0 : decide (x8_3 < (l0_2.length : Int)) = true := decide_eq_true c24
             clear c24
             have H' := Aside0.mk H
             clear H
             have hcz25_0 : wr.cell? ⟨gb289, 0, none⟩ = some (.int .i64 a0_0) := (blk_cell BK289.out 0).trans rfl
             have hcz25_1 : wr.cell? ⟨gb289, 1, none⟩ = some (.slice A0_1 l0_1.length c0_1) := (blk_cell BK289.out 1).trans rfl
             have hcz25_2 : wr.cell? ⟨gb289, 2, none⟩ = some (.slice A0_2 l0_2.length c0_2) := (blk_cell BK289.out 2).trans rfl
             have hfz25_0 := blk_frozen BK289.out 0
             have hfz25_1 := blk_frozen BK289.out 1
             have hfz25_2 := blk_frozen BK289.out 2
             have p297 : 0 ≤ (x8_3 : Int) := of_decide_eq_true (by first | (with_reducible assumption) | assumption)
             have q297 : x8_3 < (l0_1.length : Int) := of_decide_eq_true (by first | (with_reducible assumption) | assumption)
             obtain ⟨ad297, e297, hx297_0⟩ := Kd.at_int HR0_1.out x8_3 p297 q297
             cases e297
             replace hx297_0 := (HB.out.cell (World.block_lt_of_cell? w _ hx297_0)).trans hx297_0
             replace p297 := eq_true p297
             replace q297 := eq_true q297
             go_wp2_with (first | (go_at_call 29; (with_reducible refine (logjamref02_Has.calls k3 x6_3 (rd l0_1 x8_3) true _ A22.out).mono ?_); rintro e w' ⟨rfl, ⟨nd, rfl⟩⟩; (try first | exact ⟨rfl, _, World.drewN_drewN _ _ _⟩ | exact ⟨rfl, _, Eq.trans (World.drewN_drewN _ _ _) (congrArg (World.drewN _) (Nat.add_assoc _ _ _))⟩); have p299 : 0 ≤ (x8_3 : Int) := of_decide_eq_true (by first | (with_reducible assumption) | assumption); have q299 : x8_3 < (l0_2.length : Int) := of_decide_eq_true (by first | (with_reducible assumption) | assumption); obtain ⟨ad299, A299_1, c299_1, e299, hx299_0, hx299_1, hl299_1, hi299_1⟩ := at_T92 HR0_2.out x8_3 p299 q299; cases e299; replace hx299_0 := (HB.out.cell (World.block_lt_of_cell? w _ hx299_0)).trans hx299_0; replace hx299_1 := (HB.out.cell (World.block_lt_of_cell? w _ hx299_1)).trans hx299_1; have HR299_1 := Aside0.mk hi299_1; have HC299_1 := Aside0.mk hl299_1; clear hi299_1 hl299_1; replace p299 := eq_true p299; replace q299 := eq_true q299) | ((with_reducible refine gate_dst (N := 9) rfl ?_); refine box_event ?hg (N := 9) ?hd (cs := #[.bool false, .slice none 0 0]) (t := 92) ?hr ?_; (case hd => rfl); (case hg => rfl); (case hr => first | (go_simp; done) | (go_simp; rfl)); intro gb300 hg w26 hbox hb; have n0_ := Aside0.mk (blk_below (g := gb289) (o := .cells #[.int .i64 a0_0, .slice (some ad297) l0_1.length c0_1, .slice (some ad299) l0_2.length c0_2] 25 (0, 0)) (by (with_reducible repeat (first | refine blk_drewN ?_ _ | refine blk_drew ?_ | refine blk_alloc ?_ _)); exact BK289.out) hb); have n1_ := Aside0.mk (below_step (by repeat (first | (with_reducible first | exact HB.out | apply below_alloc | apply pw_below_drewN | apply below_drew1 | refine below_set ?_ GE289.out) | exact HB.out)) hb); have n2_ := Aside0.mk (hbox); have n3_ := Aside0.mk ((by rw [hg]; exact (below_size (by repeat (first | (with_reducible first | exact HB.out | apply below_alloc | apply pw_below_drewN | apply below_drew1 | refine below_set ?_ GE289.out) | exact HB.out))) : w.heap.size ≤ gb300)); have n4_ := Aside0.mk ((by rw [hg]; exact (below_size (by repeat (first | (with_reducible first | exact HB.out | apply below_alloc | apply pw_below_drewN | apply below_drew1 | refine below_set ?_ GE289.out) | exact HB.out))) : w.heap.size ≤ gb300)); have n5_ := Aside0.mk ((by rw [hg]; exact Nat.ne_of_lt (blk_lt (g := gb289) (o := .cells #[.int .i64 a0_0, .slice (some ad297) l0_1.length c0_1, .slice (some ad299) l0_2.length c0_2] 25 (0, 0)) (by (with_reducible repeat (first | refine blk_drewN ?_ _ | refine blk_drew ?_ | refine blk_alloc ?_ _)); exact BK289.out)) : gb289 ≠ gb300)); have n6_ := Aside0.mk ((by rw [hg]; exact Nat.ne_of_gt (blk_lt (g := gb289) (o := .cells #[.int .i64 a0_0, .slice (some ad297) l0_1.length c0_1, .slice (some ad299) l0_2.length c0_2] 25 (0, 0)) (by (with_reducible repeat (first | refine blk_drewN ?_ _ | refine blk_drew ?_ | refine blk_alloc ?_ _)); exact BK289.out)) : gb300 ≠ gb289)); clear BK289; clear HB; have BK289 := n0_; have HB := n1_; have BK300 := n2_; have GW300 := n3_; have GE300 := n4_; have NB289_300 := n5_; have NB300_289 := n6_; clear n0_ n1_ n2_ n3_ n4_ n5_ n6_; clear hb hbox hg; have hnb27 := NB300_289.out; have hnc27 := NB289_300.out; have hcz28_0 : w26.cell? ⟨gb300, 0, none⟩ = some (.bool false) := (blk_cell BK300.out 0).trans rfl; have hcz28_1 : w26.cell? ⟨gb300, 1, none⟩ = some (.slice none 0 0) := (blk_cell BK300.out 1).trans rfl; have hfz28_0 := blk_frozen BK300.out 0; have hfz28_1 := blk_frozen BK300.out 1))
             repeat (go_quiet (first | (go_at_call 29; (with_reducible refine (logjamref02_Has.calls k3 x6_3 (rd l0_1 x8_3) true _ A22.out).mono ?_); rintro e w' ⟨rfl, ⟨nd, rfl⟩⟩; (try first | exact ⟨rfl, _, World.drewN_drewN _ _ _⟩ | exact ⟨rfl, _, Eq.trans (World.drewN_drewN _ _ _) (congrArg (World.drewN _) (Nat.add_assoc _ _ _))⟩); have p299 : 0 ≤ (x8_3 : Int) := of_decide_eq_true (by first | (with_reducible assumption) | assumption); have q299 : x8_3 < (l0_2.length : Int) := of_decide_eq_true (by first | (with_reducible assumption) | assumption); obtain ⟨ad299, A299_1, c299_1, e299, hx299_0, hx299_1, hl299_1, hi299_1⟩ := at_T92 HR0_2.out x8_3 p299 q299; cases e299; replace hx299_0 := (HB.out.cell (World.block_lt_of_cell? w _ hx299_0)).trans hx299_0; replace hx299_1 := (HB.out.cell (World.block_lt_of_cell? w _ hx299_1)).trans hx299_1; have HR299_1 := Aside0.mk hi299_1; have HC299_1 := Aside0.mk hl299_1; clear hi299_1 hl299_1; replace p299 := eq_true p299; replace q299 := eq_true q299) | ((with_reducible refine gate_dst (N := 9) rfl ?_); refine box_event ?hg (N := 9) ?hd (cs := #[.bool false, .slice none 0 0]) (t := 92) ?hr ?_; (case hd => rfl); (case hg => rfl); (case hr => first | (go_simp; done) | (go_simp; rfl)); intro gb300 hg w26 hbox hb; have n0_ := Aside0.mk (blk_below (g := gb289) (o := .cells #[.int .i64 a0_0, .slice (some ad297) l0_1.length c0_1, .slice (some ad299) l0_2.length c0_2] 25 (0, 0)) (by (with_reducible repeat (first | refine blk_drewN ?_ _ | refine blk_drew ?_ | refine blk_alloc ?_ _)); exact BK289.out) hb); have n1_ := Aside0.mk (below_step (by repeat (first | (with_reducible first | exact HB.out | apply below_alloc | apply pw_below_drewN | apply below_drew1 | refine below_set ?_ GE289.out) | exact HB.out)) hb); have n2_ := Aside0.mk (hbox); have n3_ := Aside0.mk ((by rw [hg]; exact (below_size (by repeat (first | (with_reducible first | exact HB.out | apply below_alloc | apply pw_below_drewN | apply below_drew1 | refine below_set ?_ GE289.out) | exact HB.out))) : w.heap.size ≤ gb300)); have n4_ := Aside0.mk ((by rw [hg]; exact (below_size (by repeat (first | (with_reducible first | exact HB.out | apply below_alloc | apply pw_below_drewN | apply below_drew1 | refine below_set ?_ GE289.out) | exact HB.out))) : w.heap.size ≤ gb300)); have n5_ := Aside0.mk ((by rw [hg]; exact Nat.ne_of_lt (blk_lt (g := gb289) (o := .cells #[.int .i64 a0_0, .slice (some ad297) l0_1.length c0_1, .slice (some ad299) l0_2.length c0_2] 25 (0, 0)) (by (with_reducible repeat (first | refine blk_drewN ?_ _ | refine blk_drew ?_ | refine blk_alloc ?_ _)); exact BK289.out)) : gb289 ≠ gb300)); have n6_ := Aside0.mk ((by rw [hg]; exact Nat.ne_of_gt (blk_lt (g := gb289) (o := .cells #[.int .i64 a0_0, .slice (some ad297) l0_1.length c0_1, .slice (some ad299) l0_2.length c0_2] 25 (0, 0)) (by (with_reducible repeat (first | refine blk_drewN ?_ _ | refine blk_drew ?_ | refine blk_alloc ?_ _)); exact BK289.out)) : gb300 ≠ gb289)); clear BK289; clear HB; have BK289 := n0_; have HB := n1_; have BK300 := n2_; have GW300 := n3_; have GE300 := n4_; have NB289_300 := n5_; have NB300_289 := n6_; clear n0_ n1_ n2_ n3_ n4_ n5_ n6_; clear hb hbox hg; have hnb27 := NB300_289.out; have hnc27 := NB289_300.out; have hcz28_0 : w26.cell? ⟨gb300, 0, none⟩ = some (.bool false) := (blk_cell BK300.out 0).trans rfl; have hcz28_1 : w26.cell? ⟨gb300, 1, none⟩ = some (.slice none 0 0) := (blk_cell BK300.out 1).trans rfl; have hfz28_0 := blk_frozen BK300.out 0; have hfz28_1 := blk_frozen BK300.out 1)); try go_wp2_with (first | (go_at_call 29; (with_reducible refine (logjamref02_Has.calls k3 x6_3 (rd l0_1 x8_3) true _ A22.out).mono ?_); rintro e w' ⟨rfl, ⟨nd, rfl⟩⟩; (try first | exact ⟨rfl, _, World.drewN_drewN _ _ _⟩ | exact ⟨rfl, _, Eq.trans (World.drewN_drewN _ _ _) (congrArg (World.drewN _) (Nat.add_assoc _ _ _))⟩); have p299 : 0 ≤ (x8_3 : Int) := of_decide_eq_true (by first | (with_reducible assumption) | assumption); have q299 : x8_3 < (l0_2.length : Int) := of_decide_eq_true (by first | (with_reducible assumption) | assumption); obtain ⟨ad299, A299_1, c299_1, e299, hx299_0, hx299_1, hl299_1, hi299_1⟩ := at_T92 HR0_2.out x8_3 p299 q299; cases e299; replace hx299_0 := (HB.out.cell (World.block_lt_of_cell? w _ hx299_0)).trans hx299_0; replace hx299_1 := (HB.out.cell (World.block_lt_of_cell? w _ hx299_1)).trans hx299_1; have HR299_1 := Aside0.mk hi299_1; have HC299_1 := Aside0.mk hl299_1; clear hi299_1 hl299_1; replace p299 := eq_true p299; replace q299 := eq_true q299) | ((with_reducible refine gate_dst (N := 9) rfl ?_); refine box_event ?hg (N := 9) ?hd (cs := #[.bool false, .slice none 0 0]) (t := 92) ?hr ?_; (case hd => rfl); (case hg => rfl); (case hr => first | (go_simp; done) | (go_simp; rfl)); intro gb300 hg w26 hbox hb; have n0_ := Aside0.mk (blk_below (g := gb289) (o := .cells #[.int .i64 a0_0, .slice (some ad297) l0_1.length c0_1, .slice (some ad299) l0_2.length c0_2] 25 (0, 0)) (by (with_reducible repeat (first | refine blk_drewN ?_ _ | refine blk_drew ?_ | refine blk_alloc ?_ _)); exact BK289.out) hb); have n1_ := Aside0.mk (below_step (by repeat (first | (with_reducible first | exact HB.out | apply below_alloc | apply pw_below_drewN | apply below_drew1 | refine below_set ?_ GE289.out) | exact HB.out)) hb); have n2_ := Aside0.mk (hbox); have n3_ := Aside0.mk ((by rw [hg]; exact (below_size (by repeat (first | (with_reducible first | exact HB.out | apply below_alloc | apply pw_below_drewN | apply below_drew1 | refine below_set ?_ GE289.out) | exact HB.out))) : w.heap.size ≤ gb300)); have n4_ := Aside0.mk ((by rw [hg]; exact (below_size (by repeat (first | (with_reducible first | exact HB.out | apply below_alloc | apply pw_below_drewN | apply below_drew1 | refine below_set ?_ GE289.out) | exact HB.out))) : w.heap.size ≤ gb300)); have n5_ := Aside0.mk ((by rw [hg]; exact Nat.ne_of_lt (blk_lt (g := gb289) (o := .cells #[.int .i64 a0_0, .slice (some ad297) l0_1.length c0_1, .slice (some ad299) l0_2.length c0_2] 25 (0, 0)) (by (with_reducible repeat (first | refine blk_drewN ?_ _ | refine blk_drew ?_ | refine blk_alloc ?_ _)); exact BK289.out)) : gb289 ≠ gb300)); have n6_ := Aside0.mk ((by rw [hg]; exact Nat.ne_of_gt (blk_lt (g := gb289) (o := .cells #[.int .i64 a0_0, .slice (some ad297) l0_1.length c0_1, .slice (some ad299) l0_2.length c0_2] 25 (0, 0)) (by (with_reducible repeat (first | refine blk_drewN ?_ _ | refine blk_drew ?_ | refine blk_alloc ?_ _)); exact BK289.out)) : gb300 ≠ gb289)); clear BK289; clear HB; have BK289 := n0_; have HB := n1_; have BK300 := n2_; have GW300 := n3_; have GE300 := n4_; have NB289_300 := n5_; have NB300_289 := n6_; clear n0_ n1_ n2_ n3_ n4_ n5_ n6_; clear hb hbox hg; have hnb27 := NB300_289.out; have hnc27 := NB289_300.out; have hcz28_0 : w26.cell? ⟨gb300, 0, none⟩ = some (.bool false) := (blk_cell BK300.out 0).trans rfl; have hcz28_1 : w26.cell? ⟨gb300, 1, none⟩ = some (.slice none 0 0) := (blk_cell BK300.out 1).trans rfl; have hfz28_0 := blk_frozen BK300.out 0; have hfz28_1 := blk_frozen BK300.out 1)))
             go_loopg [6, 10] k3 (fun kq v6 v10 w' => ∃ (x6_4 : Int) (x10_4 : Int), v6 = .int .u64 x6_4 ∧ v10 = .int .i64 x10_4 ∧ Aside0 (logjamref37_Core.l2 kq t292 x6_4 x7_2 x8_3 x10_4 a0_0 l0_1 l0_2 ((rd_T92 l0_2 x8_3).f0) ((rd_T92 l0_2 x8_3).f1) = some r) ∧ Aside0 (kq ≤ k3) ∧ Aside0 (w'.heap[gb289]? = some (.cells #[.int .i64 a0_0, (.slice (some ad297) l0_1.length c0_1), (.slice (some ad299) l0_2.length c0_2)] 25 (0, 0))) ∧ Aside0 (w'.heap[gb300]? = some (.cells #[.bool ((rd_T92 l0_2 x8_3).f0), (.slice A299_1 ((rd_T92 l0_2 x8_3).f1).length c299_1)] 92 (0, 0))) ∧ Aside0 (Below w.heap.size w w'))
             case atStart => exact ⟨(x6_3), (0), (by first | rfl | (simp; done) | (simp [*]; done)), (by first | rfl | (simp; done) | (simp [*]; done)), H', ⟨Nat.le_refl _⟩, ⟨by (with_reducible repeat (first | refine blk_drewN ?_ _ | refine blk_drew ?_ | refine blk_alloc ?_ _)); refine blk_far ?_ NB289_300.out _; (with_reducible repeat (first | refine blk_drewN ?_ _ | refine blk_drew ?_ | refine blk_alloc ?_ _)); refine blk_far ?_ NB289_300.out _; (with_reducible repeat (first | refine blk_drewN ?_ _ | refine blk_drew ?_ | refine blk_alloc ?_ _)); exact BK289.out⟩, ⟨by (with_reducible repeat (first | refine blk_drewN ?_ _ | refine blk_drew ?_ | refine blk_alloc ?_ _)); refine blk_put (cs := #[.bool ((rd_T92 l0_2 x8_3).f0), .slice none 0 0]) ?_ 1 _ rfl; (with_reducible repeat (first | refine blk_drewN ?_ _ | refine blk_drew ?_ | refine blk_alloc ?_ _)); refine blk_put (cs := #[.bool false, .slice none 0 0]) ?_ 0 _ rfl; (with_reducible repeat (first | refine blk_drewN ?_ _ | refine blk_drew ?_ | refine blk_alloc ?_ _)); exact BK300.out⟩, ⟨by repeat (first | (with_reducible first | exact HB.out | apply below_alloc | apply pw_below_drewN | apply below_drew1 | refine below_set ?_ GE289.out | refine below_set ?_ GE300.out) | exact HB.out)⟩⟩
             case round =>
              clear H'
              try clear c1
              try clear c2
              try clear p2
              try clear q2
              try clear hx2
              try clear c6
              try clear p6
              try clear c14
              try clear c18
              try clear c18b0
              try clear c20
              try clear c20b0
              try clear c21
              try clear c21b0
              try clear c23
              try clear c24
              try clear c24b0
              try clear c27
              try clear hcz10_0
              try clear hcz10_1
              try clear hcz10_2
              try clear hcz12_0
              try clear hcz12_1
              try clear hcz12_2
              try clear hcz17_0
              try clear hcz17_1
              try clear hcz17_2
              try clear hcz19_0
              try clear hcz19_1
              try clear hcz19_2
              try clear hcz25_0
              try clear hcz25_1
              try clear hcz25_2
              try clear hcz28_0
              try clear hcz28_1
              try clear hcz8_0
              try clear hcz8_1
              try clear hcz8_2
              try clear hfz10_0
              try clear hfz10_1
              try clear hfz10_2
              try clear hfz12_0
              try clear hfz12_1
              try clear hfz12_2
              try clear hfz17_0
              try clear hfz17_1
              try clear hfz17_2
              try clear hfz19_0
              try clear hfz19_1
              try clear hfz19_2
              try clear hfz25_0
              try clear hfz25_1
              try clear hfz25_2
              try clear hfz28_0
              try clear hfz28_1
              try clear hfz8_0
              try clear hfz8_1
              try clear hfz8_2
              try clear hx297_0
              try clear hx299_0
              try clear hx299_1
              try clear p2
              try clear p297
              try clear p299
              try clear q297
              try clear q299
              obtain ⟨x6_4, x10_4, rfl, rfl, HA, HK4, BK289, BK300, HB⟩ := hrel
              cases gk with
              | zero => exact absurd HA.out (by simp [logjamref37_Core.l2])
              | succ k4 =>
               have H := HA.out
               clear HA
               simp only [logjamref37_Core.l2] at H
               by_cases c29 : x10_4 < (((rd_T92 l0_2 x8_3).f1).length : Int)
               ·rw [if_pos c29] at H
                have c29b0 : decide (x10_4 < (((rd_T92 l0_2 x8_3).f1).length : Int)) = true := decide_eq_true c29
                clear c29
                by_cases c30 : 0 ≤ x10_4
                ·rw [if_pos c30] at H
                 have c30b0 : decide (0 ≤ x10_4) = true := decide_eq_true c30
                 clear c30
                 replace H := Option.bind_eq_some_iff.mp H
                 obtain ⟨t303, A310, H⟩ := H
                 replace H : (if 0 ≤ t303 then (if t303 < ((rd_L5 ((rd_T92 l0_2 x8_3).f1) x10_4).length : Int) then (logjamref37_Core.l3 k4 t292 x6_4 x7_2 x8_3 x10_4 ((rd_T96 (rd_L5 ((rd_T92 l0_2 x8_3).f1) x10_4) t303).f1) 0 a0_0 l0_1 l0_2 ((rd_T92 l0_2 x8_3).f0) ((rd_T92 l0_2 x8_3).f1)) else (none)) else (none)) = some r := H
                 have A31 := Aside0.mk A310
                 clear A310
                 by_cases c32 : 0 ≤ t303
                 ·rw [if_pos c32] at H
                  have c32b0 : decide (0 ≤ t303) = true := decide_eq_true c32
                  clear c32
                  by_cases c33 : t303 < ((rd_L5 ((rd_T92 l0_2 x8_3).f1) x10_4).length : Int)
                  ·rw [if_pos c33] at H
                   have c33b0 : decide (t303 < ((rd_L5 ((rd_T92 l0_2 x8_3).f1) x10_4).length : Int)) = true := decide_eq_true c33
                   clear c33
                   have H' := Aside0.mk H
                   clear H
                   have hnb34 := NB300_289.out
                   have hnc34 := NB289_300.out
                   have hcz35_0 : wr.cell? ⟨gb300, 0, none⟩ = some (.bool ((rd_T92 l0_2 x8_3).f0)) := (blk_cell BK300.out 0).trans rfl
                   have hcz35_1 : wr.cell? ⟨gb300, 1, none⟩ = some (.slice A299_1 ((rd_T92 l0_2 x8_3).f1).length c299_1) := (blk_cell BK300.out 1).trans rfl
                   have hfz35_0 := blk_frozen BK300.out 0
                   have hfz35_1 := blk_frozen BK300.out 1
                   have p301 : 0 ≤ (x10_4 : Int) := of_decide_eq_true (by first | (with_reducible assumption) | assumption)
                   have q301 : x10_4 < (((rd_T92 l0_2 x8_3).f1).length : Int) := of_decide_eq_true (by first | (with_reducible assumption) | assumption)
                   obtain ⟨ad301, A301_0, c301_0, e301, hx301_0, hl301_0, hi301_0⟩ := at_L5 HR299_1.out x10_4 p301 q301
                   cases e301
                   replace hx301_0 := (HB.out.cell (World.block_lt_of_cell? w _ hx301_0)).trans hx301_0
                   have HR301_0 := Aside0.mk hi301_0
                   have HC301_0 := Aside0.mk hl301_0
                   clear hi301_0 hl301_0
                   replace p301 := eq_true p301
                   replace q301 := eq_true q301
                   have p302 : 0 ≤ (x10_4 : Int) := of_decide_eq_true (by first | (with_reducible assumption) | assumption)
                   have q302 : x10_4 < (((rd_T92 l0_2 x8_3).f1).length : Int) := of_decide_eq_true (by first | (with_reducible assumption) | assumption)
                   obtain ⟨ad302, A302_0, c302_0, e302, hx302_0, hl302_0, hi302_0⟩ := at_L5 HR299_1.out x10_4 p302 q302
                   obtain rfl : ad301 = ad302 := (by injection e302)
                   replace hx302_0 := (HB.out.cell (World.block_lt_of_cell? w _ hx302_0)).trans hx302_0
                   have HR302_0 := Aside0.mk hi302_0
                   have HC302_0 := Aside0.mk hl302_0
                   clear hi302_0 hl302_0
                   replace p302 := eq_true p302
                   replace q302 := eq_true q302
                   have ea_ := Option.some.inj (hx301_0.symm.trans hx302_0)
                   injection ea_ with ea_ en_ ec_
                   subst ea_
                   subst ec_
                   clear en_
                   go_wp2_with (first | (go_at_call 59; (with_reducible refine (logjamref37_Lacks.calls k4 _ _ (rd_L5 ((rd_T92 l0_2 x8_3).f1) x10_4) t292 t303 _ ?side1 ?side2 A31.out).mono ?_); (case side1 => repeat (first | exact (Kd.C_below HR302_0.out HB.out) | (with_reducible refine Kd.C_alloc ?_ _) | (with_reducible refine Kd.C_drewN ?_ _) | (with_reducible refine Kd.C_drew ?_))); (case side2 => exact HC302_0.out); rintro e w' ⟨rfl, ⟨nd, rfl⟩⟩; (try first | exact ⟨rfl, _, World.drewN_drewN _ _ _⟩ | exact ⟨rfl, _, Eq.trans (World.drewN_drewN _ _ _) (congrArg (World.drewN _) (Nat.add_assoc _ _ _))⟩); have p304 : 0 ≤ (t303 : Int) := of_decide_eq_true (by first | (with_reducible assumption) | assumption); have q304 : t303 < ((rd_L5 ((rd_T92 l0_2 x8_3).f1) x10_4).length : Int) := of_decide_eq_true (by first | (with_reducible assumption) | assumption); obtain ⟨ad304, A304_1, c304_1, e304, hx304_0, hx304_1, hl304_1, hi304_1⟩ := at_T96 HR301_0.out t303 p304 q304; cases e304; replace hx304_0 := (HB.out.cell (World.block_lt_of_cell? w _ hx304_0)).trans hx304_0; replace hx304_1 := (HB.out.cell (World.block_lt_of_cell? w _ hx304_1)).trans hx304_1; have HR304_1 := Aside0.mk hi304_1; have HC304_1 := Aside0.mk hl304_1; clear hi304_1 hl304_1; replace p304 := eq_true p304; replace q304 := eq_true q304))
                   repeat (go_quiet (first | (go_at_call 59; (with_reducible refine (logjamref37_Lacks.calls k4 _ _ (rd_L5 ((rd_T92 l0_2 x8_3).f1) x10_4) t292 t303 _ ?side1 ?side2 A31.out).mono ?_); (case side1 => repeat (first | exact (Kd.C_below HR302_0.out HB.out) | (with_reducible refine Kd.C_alloc ?_ _) | (with_reducible refine Kd.C_drewN ?_ _) | (with_reducible refine Kd.C_drew ?_))); (case side2 => exact HC302_0.out); rintro e w' ⟨rfl, ⟨nd, rfl⟩⟩; (try first | exact ⟨rfl, _, World.drewN_drewN _ _ _⟩ | exact ⟨rfl, _, Eq.trans (World.drewN_drewN _ _ _) (congrArg (World.drewN _) (Nat.add_assoc _ _ _))⟩); have p304 : 0 ≤ (t303 : Int) := of_decide_eq_true (by first | (with_reducible assumption) | assumption); have q304 : t303 < ((rd_L5 ((rd_T92 l0_2 x8_3).f1) x10_4).length : Int) := of_decide_eq_true (by first | (with_reducible assumption) | assumption); obtain ⟨ad304, A304_1, c304_1, e304, hx304_0, hx304_1, hl304_1, hi304_1⟩ := at_T96 HR301_0.out t303 p304 q304; cases e304; replace hx304_0 := (HB.out.cell (World.block_lt_of_cell? w _ hx304_0)).trans hx304_0; replace hx304_1 := (HB.out.cell (World.block_lt_of_cell? w _ hx304_1)).trans hx304_1; have HR304_1 := Aside0.mk hi304_1; have HC304_1 := Aside0.mk hl304_1; clear hi304_1 hl304_1; replace p304 := eq_true p304; replace q304 := eq_true q304)); try go_wp2_with (first | (go_at_call 59; (with_reducible refine (logjamref37_Lacks.calls k4 _ _ (rd_L5 ((rd_T92 l0_2 x8_3).f1) x10_4) t292 t303 _ ?side1 ?side2 A31.out).mono ?_); (case side1 => repeat (first | exact (Kd.C_below HR302_0.out HB.out) | (with_reducible refine Kd.C_alloc ?_ _) | (with_reducible refine Kd.C_drewN ?_ _) | (with_reducible refine Kd.C_drew ?_))); (case side2 => exact HC302_0.out); rintro e w' ⟨rfl, ⟨nd, rfl⟩⟩; (try first | exact ⟨rfl, _, World.drewN_drewN _ _ _⟩ | exact ⟨rfl, _, Eq.trans (World.drewN_drewN _ _ _) (congrArg (World.drewN _) (Nat.add_assoc _ _ _))⟩); have p304 : 0 ≤ (t303 : Int) := of_decide_eq_true (by first | (with_reducible assumption) | assumption); have q304 : t303 < ((rd_L5 ((rd_T92 l0_2 x8_3).f1) x10_4).length : Int) := of_decide_eq_true (by first | (with_reducible assumption) | assumption); obtain ⟨ad304, A304_1, c304_1, e304, hx304_0, hx304_1, hl304_1, hi304_1⟩ := at_T96 HR301_0.out t303 p304 q304; cases e304; replace hx304_0 := (HB.out.cell (World.block_lt_of_cell? w _ hx304_0)).trans hx304_0; replace hx304_1 := (HB.out.cell (World.block_lt_of_cell? w _ hx304_1)).trans hx304_1; have HR304_1 := Aside0.mk hi304_1; have HC304_1 := Aside0.mk hl304_1; clear hi304_1 hl304_1; replace p304 := eq_true p304; replace q304 := eq_true q304)))
                   go_loopg [6, 12] k4 (fun kq v6 v12 w' => ∃ (x6_5 : Int) (x12_5 : Int), v6 = .int .u64 x6_5 ∧ v12 = .int .i64 x12_5 ∧ Aside0 (logjamref37_Core.l3 kq t292 x6_5 x7_2 x8_3 x10_4 ((rd_T96 (rd_L5 ((rd_T92 l0_2 x8_3).f1) x10_4) t303).f1) x12_5 a0_0 l0_1 l0_2 ((rd_T92 l0_2 x8_3).f0) ((rd_T92 l0_2 x8_3).f1) = some r) ∧ Aside0 (kq ≤ k4) ∧ Aside0 (w'.heap[gb289]? = some (.cells #[.int .i64 a0_0, (.slice (some ad297) l0_1.length c0_1), (.slice (some ad299) l0_2.length c0_2)] 25 (0, 0))) ∧ Aside0 (w'.heap[gb300]? = some (.cells #[.bool ((rd_T92 l0_2 x8_3).f0), (.slice (some ad301) ((rd_T92 l0_2 x8_3).f1).length c299_1)] 92 (0, 0))) ∧ Aside0 (Below w.heap.size w w'))
                   case atStart => exact ⟨(x6_4), (0), (by first | rfl | (simp; done) | (simp [*]; done)), (by first | rfl | (simp; done) | (simp [*]; done)), H', ⟨Nat.le_refl _⟩, ⟨by (with_reducible repeat (first | refine blk_drewN ?_ _ | refine blk_drew ?_ | refine blk_alloc ?_ _)); exact BK289.out⟩, ⟨by (with_reducible repeat (first | refine blk_drewN ?_ _ | refine blk_drew ?_ | refine blk_alloc ?_ _)); exact BK300.out⟩, ⟨by repeat (first | (with_reducible first | exact HB.out | apply below_alloc | apply pw_below_drewN | apply below_drew1 | refine below_set ?_ GE289.out | refine below_set ?_ GE300.out) | exact HB.out)⟩⟩
                   case round =>
                    clear H'
                    try clear c1
                    try clear c2
                    try clear p2
                    try clear q2
                    try clear hx2
                    try clear c3
                    try clear p3
                    try clear q3
                    try clear hx3
                    try clear c6
                    try clear p6
                    try clear c14
                    try clear c18
                    try clear c18b0
                    try clear c20
                    try clear c20b0
                    try clear c21
                    try clear c21b0
                    try clear c23
                    try clear c24
                    try clear c24b0
                    try clear c27
                    try clear c29
                    try clear c29b0
                    try clear p29
                    try clear q29
                    try clear hx29
                    try clear c30
                    try clear c30b0
                    try clear p30
                    try clear q30
                    try clear hx30
                    try clear c32
                    try clear c32b0
                    try clear c33
                    try clear c33b0
                    try clear c34
                    try clear hcz10_0
                    try clear hcz10_1
                    try clear hcz10_2
                    try clear hcz12_0
                    try clear hcz12_1
                    try clear hcz12_2
                    try clear hcz17_0
                    try clear hcz17_1
                    try clear hcz17_2
                    try clear hcz19_0
                    try clear hcz19_1
                    try clear hcz19_2
                    try clear hcz25_0
                    try clear hcz25_1
                    try clear hcz25_2
                    try clear hcz28_0
                    try clear hcz28_1
                    try clear hcz35_0
                    try clear hcz35_1
                    try clear hcz8_0
                    try clear hcz8_1
                    try clear hcz8_2
                    try clear hfz10_0
                    try clear hfz10_1
                    try clear hfz10_2
                    try clear hfz12_0
                    try clear hfz12_1
                    try clear hfz12_2
                    try clear hfz17_0
                    try clear hfz17_1
                    try clear hfz17_2
                    try clear hfz19_0
                    try clear hfz19_1
                    try clear hfz19_2
                    try clear hfz25_0
                    try clear hfz25_1
                    try clear hfz25_2
                    try clear hfz28_0
                    try clear hfz28_1
                    try clear hfz35_0
                    try clear hfz35_1
                    try clear hfz8_0
                    try clear hfz8_1
                    try clear hfz8_2
                    try clear hx297_0
                    try clear hx299_0
                    try clear hx299_1
                    try clear hx301_0
                    try clear hx302_0
                    try clear hx304_0
                    try clear hx304_1
                    try clear p2
                    try clear p297
                    try clear p299
                    try clear p301
                    try clear p302
                    try clear p304
                    try clear p6
                    try clear q2
                    try clear q297
                    try clear q299
                    try clear q301
                    try clear q302
                    try clear q304
                    obtain ⟨x6_5, x12_5, rfl, rfl, HA, HK5, BK289, BK300, HB⟩ := hrel
                    cases gk with
                    | zero => exact absurd HA.out (by simp [logjamref37_Core.l3])
                    | succ k5 =>
                     have H := HA.out
                     clear HA
                     simp only [logjamref37_Core.l3] at H
                     by_cases c36 : x12_5 < (((rd_T96 (rd_L5 ((rd_T92 l0_2 x8_3).f1) x10_4) t303).f1).length : Int)
                     ·rw [if_pos c36] at H
                      have c36b0 : decide (x12_5 < (((rd_T96 (rd_L5 ((rd_T92 l0_2 x8_3).f1) x10_4) t303).f1).length : Int)) = true := decide_eq_true c36
                      clear c36
                      by_cases c37 : 0 ≤ x12_5
                      ·rw [if_pos c37] at H
                       have c37b0 : decide (0 ≤ x12_5) = true := decide_eq_true c37
                       clear c37
                       replace H := Option.bind_eq_some_iff.mp H
                       obtain ⟨t306, A380, H⟩ := H
                       replace H : (if t306 = true then ((logjamref02_With.f k5 x6_5 ((rd_T108 ((rd_T96 (rd_L5 ((rd_T92 l0_2 x8_3).f1) x10_4) t303).f1) x12_5).f0)).bind fun t308 => (logjamref37_Core.l3 k5 t292 t308 x7_2 x8_3 x10_4 ((rd_T96 (rd_L5 ((rd_T92 l0_2 x8_3).f1) x10_4) t303).f1) (wrap64 (x12_5 + 1)) a0_0 l0_1 l0_2 ((rd_T92 l0_2 x8_3).f0) ((rd_T92 l0_2 x8_3).f1))) else (logjamref37_Core.l3 k5 t292 x6_5 x7_2 x8_3 x10_4 ((rd_T96 (rd_L5 ((rd_T92 l0_2 x8_3).f1) x10_4) t303).f1) (wrap64 (x12_5 + 1)) a0_0 l0_1 l0_2 ((rd_T92 l0_2 x8_3).f0) ((rd_T92 l0_2 x8_3).f1))) = some r := H
                       have A38 := Aside0.mk A380
                       clear A380
                       by_cases c39 : t306 = true
                       ·subst c39
                        have H1 : ((logjamref02_With.f k5 x6_5 ((rd_T108 ((rd_T96 (rd_L5 ((rd_T92 l0_2 x8_3).f1) x10_4) t303).f1) x12_5).f0)).bind fun t308 => (logjamref37_Core.l3 k5 t292 t308 x7_2 x8_3 x10_4 ((rd_T96 (rd_L5 ((rd_T92 l0_2 x8_3).f1) x10_4) t303).f1) (wrap64 (x12_5 + 1)) a0_0 l0_1 l0_2 ((rd_T92 l0_2 x8_3).f0) ((rd_T92 l0_2 x8_3).f1))) = some r := by rw [if_pos rfl] at H; exact H
                        clear H
                        have H := H1
                        clear H1
                        replace H := Option.bind_eq_some_iff.mp H
                        obtain ⟨t308, A400, H⟩ := H
                        replace H : (logjamref37_Core.l3 k5 t292 t308 x7_2 x8_3 x10_4 ((rd_T96 (rd_L5 ((rd_T92 l0_2 x8_3).f1) x10_4) t303).f1) (wrap64 (x12_5 + 1)) a0_0 l0_1 l0_2 ((rd_T92 l0_2 x8_3).f0) ((rd_T92 l0_2 x8_3).f1)) = some r := H
                        have A40 := Aside0.mk A400
                        clear A400
                        have H' := Aside0.mk H
                        clear H
                        have p305 : 0 ≤ (x12_5 : Int) := of_decide_eq_true (by first | (with_reducible assumption) | assumption)
                        have q305 : x12_5 < (((rd_T96 (rd_L5 ((rd_T92 l0_2 x8_3).f1) x10_4) t303).f1).length : Int) := of_decide_eq_true (by first | (with_reducible assumption) | assumption)
                        obtain ⟨ad305, e305, hx305_0, hx305_1⟩ := at_T108 HR304_1.out x12_5 p305 q305
                        cases e305
                        replace hx305_0 := (HB.out.cell (World.block_lt_of_cell? w _ hx305_0)).trans hx305_0
                        replace hx305_1 := (HB.out.cell (World.block_lt_of_cell? w _ hx305_1)).trans hx305_1
                        replace p305 := eq_true p305
                        replace q305 := eq_true q305
                        go_wp2_with (first | (go_at_call 29; (with_reducible refine (logjamref02_Has.calls k5 t292 ((rd_T108 ((rd_T96 (rd_L5 ((rd_T92 l0_2 x8_3).f1) x10_4) t303).f1) x12_5).f0) true _ A38.out).mono ?_); rintro e w' ⟨rfl, ⟨nd, rfl⟩⟩; (try first | exact ⟨rfl, _, World.drewN_drewN _ _ _⟩ | exact ⟨rfl, _, Eq.trans (World.drewN_drewN _ _ _) (congrArg (World.drewN _) (Nat.add_assoc _ _ _))⟩); have p307 : 0 ≤ (x12_5 : Int) := of_decide_eq_true (by first | (with_reducible assumption) | assumption); have q307 : x12_5 < (((rd_T96 (rd_L5 ((rd_T92 l0_2 x8_3).f1) x10_4) t303).f1).length : Int) := of_decide_eq_true (by first | (with_reducible assumption) | assumption); obtain ⟨ad307, e307, hx307_0, hx307_1⟩ := at_T108 HR304_1.out x12_5 p307 q307; obtain rfl : ad305 = ad307 := (by injection e307); replace hx307_0 := (HB.out.cell (World.block_lt_of_cell? w _ hx307_0)).trans hx307_0; replace hx307_1 := (HB.out.cell (World.block_lt_of_cell? w _ hx307_1)).trans hx307_1; replace p307 := eq_true p307; replace q307 := eq_true q307) | (go_at_call 67; (with_reducible refine (logjamref02_With.calls k5 x6_5 ((rd_T108 ((rd_T96 (rd_L5 ((rd_T92 l0_2 x8_3).f1) x10_4) t303).f1) x12_5).f0) t308 _ A40.out).mono ?_); rintro e w' ⟨rfl, ⟨nd, rfl⟩⟩; (try first | exact ⟨rfl, _, World.drewN_drewN _ _ _⟩ | exact ⟨rfl, _, Eq.trans (World.drewN_drewN _ _ _) (congrArg (World.drewN _) (Nat.add_assoc _ _ _))⟩)))
                        repeat (go_quiet (first | (go_at_call 29; (with_reducible refine (logjamref02_Has.calls k5 t292 ((rd_T108 ((rd_T96 (rd_L5 ((rd_T92 l0_2 x8_3).f1) x10_4) t303).f1) x12_5).f0) true _ A38.out).mono ?_); rintro e w' ⟨rfl, ⟨nd, rfl⟩⟩; (try first | exact ⟨rfl, _, World.drewN_drewN _ _ _⟩ | exact ⟨rfl, _, Eq.trans (World.drewN_drewN _ _ _) (congrArg (World.drewN _) (Nat.add_assoc _ _ _))⟩); have p307 : 0 ≤ (x12_5 : Int) := of_decide_eq_true (by first | (with_reducible assumption) | assumption); have q307 : x12_5 < (((rd_T96 (rd_L5 ((rd_T92 l0_2 x8_3).f1) x10_4) t303).f1).length : Int) := of_decide_eq_true (by first | (with_reducible assumption) | assumption); obtain ⟨ad307, e307, hx307_0, hx307_1⟩ := at_T108 HR304_1.out x12_5 p307 q307; obtain rfl : ad305 = ad307 := (by injection e307); replace hx307_0 := (HB.out.cell (World.block_lt_of_cell? w _ hx307_0)).trans hx307_0; replace hx307_1 := (HB.out.cell (World.block_lt_of_cell? w _ hx307_1)).trans hx307_1; replace p307 := eq_true p307; replace q307 := eq_true q307) | (go_at_call 67; (with_reducible refine (logjamref02_With.calls k5 x6_5 ((rd_T108 ((rd_T96 (rd_L5 ((rd_T92 l0_2 x8_3).f1) x10_4) t303).f1) x12_5).f0) t308 _ A40.out).mono ?_); rintro e w' ⟨rfl, ⟨nd, rfl⟩⟩; (try first | exact ⟨rfl, _, World.drewN_drewN _ _ _⟩ | exact ⟨rfl, _, Eq.trans (World.drewN_drewN _ _ _) (congrArg (World.drewN _) (Nat.add_assoc _ _ _))⟩))); try go_wp2_with (first | (go_at_call 29; (with_reducible refine (logjamref02_Has.calls k5 t292 ((rd_T108 ((rd_T96 (rd_L5 ((rd_T92 l0_2 x8_3).f1) x10_4) t303).f1) x12_5).f0) true _ A38.out).mono ?_); rintro e w' ⟨rfl, ⟨nd, rfl⟩⟩; (try first | exact ⟨rfl, _, World.drewN_drewN _ _ _⟩ | exact ⟨rfl, _, Eq.trans (World.drewN_drewN _ _ _) (congrArg (World.drewN _) (Nat.add_assoc _ _ _))⟩); have p307 : 0 ≤ (x12_5 : Int) := of_decide_eq_true (by first | (with_reducible assumption) | assumption); have q307 : x12_5 < (((rd_T96 (rd_L5 ((rd_T92 l0_2 x8_3).f1) x10_4) t303).f1).length : Int) := of_decide_eq_true (by first | (with_reducible assumption) | assumption); obtain ⟨ad307, e307, hx307_0, hx307_1⟩ := at_T108 HR304_1.out x12_5 p307 q307; obtain rfl : ad305 = ad307 := (by injection e307); replace hx307_0 := (HB.out.cell (World.block_lt_of_cell? w _ hx307_0)).trans hx307_0; replace hx307_1 := (HB.out.cell (World.block_lt_of_cell? w _ hx307_1)).trans hx307_1; replace p307 := eq_true p307; replace q307 := eq_true q307) | (go_at_call 67; (with_reducible refine (logjamref02_With.calls k5 x6_5 ((rd_T108 ((rd_T96 (rd_L5 ((rd_T92 l0_2 x8_3).f1) x10_4) t303).f1) x12_5).f0) t308 _ A40.out).mono ?_); rintro e w' ⟨rfl, ⟨nd, rfl⟩⟩; (try first | exact ⟨rfl, _, World.drewN_drewN _ _ _⟩ | exact ⟨rfl, _, Eq.trans (World.drewN_drewN _ _ _) (congrArg (World.drewN _) (Nat.add_assoc _ _ _))⟩))))
                        go_roundg k5
                        case measure => have := HJ2.out; have := HK2.out; have := HK3.out; have := HK4.out; have := HK5.out; omega
                        case rel => exact ⟨(t308), (wrap64 (x12_5 + 1)), (by first | rfl | (simp; done) | (simp [*]; done)), (by first | rfl | (simp; done) | (simp [*]; done)), H', ⟨by have := HJ2.out; have := HK2.out; have := HK3.out; have := HK4.out; have := HK5.out; omega⟩, ⟨by (with_reducible repeat (first | refine blk_drewN ?_ _ | refine blk_drew ?_ | refine blk_alloc ?_ _)); exact BK289.out⟩, ⟨by (with_reducible repeat (first | refine blk_drewN ?_ _ | refine blk_drew ?_ | refine blk_alloc ?_ _)); exact BK300.out⟩, ⟨by repeat (first | (with_reducible first | exact HB.out | apply below_alloc | apply pw_below_drewN | apply below_drew1 | refine below_set ?_ GE289.out | refine below_set ?_ GE300.out) | exact HB.out)⟩⟩
                       ·replace c39 := Bool.eq_false_iff.mpr c39
                        subst c39
                        have H1 : (logjamref37_Core.l3 k5 t292 x6_5 x7_2 x8_3 x10_4 ((rd_T96 (rd_L5 ((rd_T92 l0_2 x8_3).f1) x10_4) t303).f1) (wrap64 (x12_5 + 1)) a0_0 l0_1 l0_2 ((rd_T92 l0_2 x8_3).f0) ((rd_T92 l0_2 x8_3).f1)) = some r := by rw [if_neg (show ¬ (false = true) by decide)] at H; exact H
                        clear H
                        have H := H1
                        clear H1
                        have H' := Aside0.mk H
                        clear H
                        have p305 : 0 ≤ (x12_5 : Int) := of_decide_eq_true (by first | (with_reducible assumption) | assumption)
                        have q305 : x12_5 < (((rd_T96 (rd_L5 ((rd_T92 l0_2 x8_3).f1) x10_4) t303).f1).length : Int) := of_decide_eq_true (by first | (with_reducible assumption) | assumption)
                        obtain ⟨ad305, e305, hx305_0, hx305_1⟩ := at_T108 HR304_1.out x12_5 p305 q305
                        cases e305
                        replace hx305_0 := (HB.out.cell (World.block_lt_of_cell? w _ hx305_0)).trans hx305_0
                        replace hx305_1 := (HB.out.cell (World.block_lt_of_cell? w _ hx305_1)).trans hx305_1
                        replace p305 := eq_true p305
                        replace q305 := eq_true q305
                        go_wp2_with (first | (go_at_call 29; (with_reducible refine (logjamref02_Has.calls k5 t292 ((rd_T108 ((rd_T96 (rd_L5 ((rd_T92 l0_2 x8_3).f1) x10_4) t303).f1) x12_5).f0) false _ A38.out).mono ?_); rintro e w' ⟨rfl, ⟨nd, rfl⟩⟩; (try first | exact ⟨rfl, _, World.drewN_drewN _ _ _⟩ | exact ⟨rfl, _, Eq.trans (World.drewN_drewN _ _ _) (congrArg (World.drewN _) (Nat.add_assoc _ _ _))⟩)))
                        repeat (go_quiet (first | (go_at_call 29; (with_reducible refine (logjamref02_Has.calls k5 t292 ((rd_T108 ((rd_T96 (rd_L5 ((rd_T92 l0_2 x8_3).f1) x10_4) t303).f1) x12_5).f0) false _ A38.out).mono ?_); rintro e w' ⟨rfl, ⟨nd, rfl⟩⟩; (try first | exact ⟨rfl, _, World.drewN_drewN _ _ _⟩ | exact ⟨rfl, _, Eq.trans (World.drewN_drewN _ _ _) (congrArg (World.drewN _) (Nat.add_assoc _ _ _))⟩))); try go_wp2_with (first | (go_at_call 29; (with_reducible refine (logjamref02_Has.calls k5 t292 ((rd_T108 ((rd_T96 (rd_L5 ((rd_T92 l0_2 x8_3).f1) x10_4) t303).f1) x12_5).f0) false _ A38.out).mono ?_); rintro e w' ⟨rfl, ⟨nd, rfl⟩⟩; (try first | exact ⟨rfl, _, World.drewN_drewN _ _ _⟩ | exact ⟨rfl, _, Eq.trans (World.drewN_drewN _ _ _) (congrArg (World.drewN _) (Nat.add_assoc _ _ _))⟩))))
                        go_roundg k5
                        case measure => have := HJ2.out; have := HK2.out; have := HK3.out; have := HK4.out; have := HK5.out; omega
                        case rel => exact ⟨(x6_5), (wrap64 (x12_5 + 1)), (by first | rfl | (simp; done) | (simp [*]; done)), (by first | rfl | (simp; done) | (simp [*]; done)), H', ⟨by have := HJ2.out; have := HK2.out; have := HK3.out; have := HK4.out; have := HK5.out; omega⟩, ⟨by (with_reducible repeat (first | refine blk_drewN ?_ _ | refine blk_drew ?_ | refine blk_alloc ?_ _)); exact BK289.out⟩, ⟨by (with_reducible repeat (first | refine blk_drewN ?_ _ | refine blk_drew ?_ | refine blk_alloc ?_ _)); exact BK300.out⟩, ⟨by repeat (first | (with_reducible first | exact HB.out | apply below_alloc | apply pw_below_drewN | apply below_drew1 | refine below_set ?_ GE289.out | refine below_set ?_ GE300.out) | exact HB.out)⟩⟩
                      ·rw [if_neg c37] at H
                       exact absurd H (by simp)
                     ·rw [if_neg c36] at H
                      have c36b0 : decide (x12_5 < (((rd_T96 (rd_L5 ((rd_T92 l0_2 x8_3).f1) x10_4) t303).f1).length : Int)) = false := decide_eq_false c36
                      clear c36
                      have H' := Aside0.mk H
                      clear H
                      go_wp2
                      repeat (go_quiet (fail); try go_wp2)
                      go_roundg k5
                      case measure => have := HJ2.out; have := HK2.out; have := HK3.out; have := HK4.out; have := HK5.out; omega
                      case rel => exact ⟨(x6_5), (wrap64 (x10_4 + 1)), (by first | rfl | (simp; done) | (simp [*]; done)), (by first | rfl | (simp; done) | (simp [*]; done)), H', ⟨by have := HJ2.out; have := HK2.out; have := HK3.out; have := HK4.out; have := HK5.out; omega⟩, ⟨by (with_reducible repeat (first | refine blk_drewN ?_ _ | refine blk_drew ?_ | refine blk_alloc ?_ _)); exact BK289.out⟩, ⟨by (with_reducible repeat (first | refine blk_drewN ?_ _ | refine blk_drew ?_ | refine blk_alloc ?_ _)); exact BK300.out⟩, ⟨by repeat (first | (with_reducible first | exact HB.out | apply below_alloc | apply pw_below_drewN | apply below_drew1 | refine below_set ?_ GE289.out | refine below_set ?_ GE300.out) | exact HB.out)⟩⟩
                  ·rw [if_neg c33] at H
                   exact absurd H (by simp)
                 ·rw [if_neg c32] at H
                  exact absurd H (by simp)
                ·rw [if_neg c30] at H
                 exact absurd H (by simp)
               ·rw [if_neg c29] at H
                have c29b0 : decide (x10_4 < (((rd_T92 l0_2 x8_3).f1).length : Int)) = false := decide_eq_false c29
                clear c29
                have H' := Aside0.mk H
                clear H
                have hnb41 := NB300_289.out
                have hnc41 := NB289_300.out
                have hcz42_0 : wr.cell? ⟨gb300, 0, none⟩ = some (.bool ((rd_T92 l0_2 x8_3).f0)) := (blk_cell BK300.out 0).trans rfl
                have hcz42_1 : wr.cell? ⟨gb300, 1, none⟩ = some (.slice A299_1 ((rd_T92 l0_2 x8_3).f1).length c299_1) := (blk_cell BK300.out 1).trans rfl
                have hfz42_0 := blk_frozen BK300.out 0
                have hfz42_1 := blk_frozen BK300.out 1
                go_wp2
                repeat (go_quiet (fail); try go_wp2)
                go_roundg k4
                case measure => have := HJ2.out; have := HK2.out; have := HK3.out; have := HK4.out; omega
                case rel => exact ⟨(x6_4), (wrap64 (x8_3 + 1)), (by first | rfl | (simp; done) | (simp [*]; done)), (by first | rfl | (simp; done) | (simp [*]; done)), H', ⟨by have := HJ2.out; have := HK2.out; have := HK3.out; have := HK4.out; omega⟩, ⟨by (with_reducible repeat (first | refine blk_drewN ?_ _ | refine blk_drew ?_ | refine blk_alloc ?_ _)); exact BK289.out⟩, ⟨by repeat (first | (with_reducible first | exact HB.out | apply below_alloc | apply pw_below_drewN | apply below_drew1 | refine below_set ?_ GE289.out | refine below_set ?_ GE300.out) | exact HB.out)⟩⟩
            ·rw [if_neg c24] at H
             exact absurd H (by simp)
           ·replace c23 := Bool.eq_false_iff.mpr c23
            subst c23
            have H1 : (logjamref37_Core.l1 k3 t292 x6_3 x7_2 (wrap64 (x8_3 + 1)) a0_0 l0_1 l0_2) = some r := by rw [if_neg (show ¬ (false = true) by decide)] at H; exact H
            clear H
            have H := H1
            clear H1
            have H' := Aside0.mk H
            clear H
            have hcz43_0 : wr.cell? ⟨gb289, 0, none⟩ = some (.int .i64 a0_0) := (blk_cell BK289.out 0).trans rfl
            have hcz43_1 : wr.cell? ⟨gb289, 1, none⟩ = some (.slice A0_1 l0_1.length c0_1) := (blk_cell BK289.out 1).trans rfl
            have hcz43_2 : wr.cell? ⟨gb289, 2, none⟩ = some (.slice A0_2 l0_2.length c0_2) := (blk_cell BK289.out 2).trans rfl
            have hfz43_0 := blk_frozen BK289.out 0
            have hfz43_1 := blk_frozen BK289.out 1
            have hfz43_2 := blk_frozen BK289.out 2
            have p297 : 0 ≤ (x8_3 : Int) := of_decide_eq_true (by first | (with_reducible assumption) | assumption)
            have q297 : x8_3 < (l0_1.length : Int) := of_decide_eq_true (by first | (with_reducible assumption) | assumption)
            obtain ⟨ad297, e297, hx297_0⟩ := Kd.at_int HR0_1.out x8_3 p297 q297
            cases e297
            replace hx297_0 := (HB.out.cell (World.block_lt_of_cell? w _ hx297_0)).trans hx297_0
            replace p297 := eq_true p297
            replace q297 := eq_true q297
            go_wp2_with (first | (go_at_call 29; (with_reducible refine (logjamref02_Has.calls k3 x6_3 (rd l0_1 x8_3) false _ A22.out).mono ?_); rintro e w' ⟨rfl, ⟨nd, rfl⟩⟩; (try first | exact ⟨rfl, _, World.drewN_drewN _ _ _⟩ | exact ⟨rfl, _, Eq.trans (World.drewN_drewN _ _ _) (congrArg (World.drewN _) (Nat.add_assoc _ _ _))⟩)))
            repeat (go_quiet (first | (go_at_call 29; (with_reducible refine (logjamref02_Has.calls k3 x6_3 (rd l0_1 x8_3) false _ A22.out).mono ?_); rintro e w' ⟨rfl, ⟨nd, rfl⟩⟩; (try first | exact ⟨rfl, _, World.drewN_drewN _ _ _⟩ | exact ⟨rfl, _, Eq.trans (World.drewN_drewN _ _ _) (congrArg (World.drewN _) (Nat.add_assoc _ _ _))⟩))); try go_wp2_with (first | (go_at_call 29; (with_reducible refine (logjamref02_Has.calls k3 x6_3 (rd l0_1 x8_3) false _ A22.out).mono ?_); rintro e w' ⟨rfl, ⟨nd, rfl⟩⟩; (try first | exact ⟨rfl, _, World.drewN_drewN _ _ _⟩ | exact ⟨rfl, _, Eq.trans (World.drewN_drewN _ _ _) (congrArg (World.drewN _) (Nat.add_assoc _ _ _))⟩))))
            go_roundg k3
            case measure => have := HJ2.out; have := HK2.out; have := HK3.out; omega
            case rel => exact ⟨(x6_3), (wrap64 (x8_3 + 1)), (by first | rfl | (simp; done) | (simp [*]; done)), (by first | rfl | (simp; done) | (simp [*]; done)), H', ⟨by have := HJ2.out; have := HK2.out; have := HK3.out; omega⟩, ⟨by (with_reducible repeat (first | refine blk_drewN ?_ _ | refine blk_drew ?_ | refine blk_alloc ?_ _)); exact BK289.out⟩, ⟨by repeat (first | (with_reducible first | exact HB.out | apply below_alloc | apply pw_below_drewN | apply below_drew1 | refine below_set ?_ GE289.out) | exact HB.out)⟩⟩
          ·rw [if_neg c21] at H
           exact absurd H (by simp)
         ·rw [if_neg c20] at H
          have c20b0 : decide (x8_3 < (l0_1.length : Int)) = false := decide_eq_false c20
          clear c20
          have H' := Aside0.mk H
          clear H
          have hcz44_0 : wr.cell? ⟨gb289, 0, none⟩ = some (.int .i64 a0_0) := (blk_cell BK289.out 0).trans rfl
          have hcz44_1 : wr.cell? ⟨gb289, 1, none⟩ = some (.slice A0_1 l0_1.length c0_1) := (blk_cell BK289.out 1).trans rfl
          have hcz44_2 : wr.cell? ⟨gb289, 2, none⟩ = some (.slice A0_2 l0_2.length c0_2) := (blk_cell BK289.out 2).trans rfl
          have hfz44_0 := blk_frozen BK289.out 0
          have hfz44_1 := blk_frozen BK289.out 1
          have hfz44_2 := blk_frozen BK289.out 2
          go_wp2
          repeat (go_quiet (fail); try go_wp2)
          go_roundg k3
          case measure => have := HJ2.out; have := HK2.out; have := HK3.out; omega
          case rel => exact ⟨(x6_3), (wrap64 (x7_2 + 1)), (by first | rfl | (simp; done) | (simp [*]; done)), (by first | rfl | (simp; done) | (simp [*]; done)), H', ⟨by have := HJ2.out; have := HK2.out; have := HK3.out; omega⟩, ⟨by (with_reducible repeat (first | refine blk_drewN ?_ _ | refine blk_drew ?_ | refine blk_alloc ?_ _)); exact BK289.out⟩, ⟨by repeat (first | (with_reducible first | exact HB.out | apply below_alloc | apply pw_below_drewN | apply below_drew1 | refine below_set ?_ GE289.out) | exact HB.out)⟩⟩
      ·rw [if_neg c18] at H
       have c18b0 : decide (x7_2 < (l0_1.length : Int)) = false := decide_eq_false c18
       clear c18
       replace H := Option.bind_eq_some_iff.mp H
       obtain ⟨t294, A450, H⟩ := H
       replace H : (some t294) = some r := H
       have A45 := Aside0.mk A450
       clear A450
       obtain rfl := Option.some.inj H
       have hcz46_0 : wr.cell? ⟨gb289, 0, none⟩ = some (.int .i64 a0_0) := (blk_cell BK289.out 0).trans rfl
       have hcz46_1 : wr.cell? ⟨gb289, 1, none⟩ = some (.slice A0_1 l0_1.length c0_1) := (blk_cell BK289.out 1).trans rfl
       have hcz46_2 : wr.cell? ⟨gb289, 2, none⟩ = some (.slice A0_2 l0_2.length c0_2) := (blk_cell BK289.out 2).trans rfl
       have hfz46_0 := blk_frozen BK289.out 0
       have hfz46_1 := blk_frozen BK289.out 1
       have hfz46_2 := blk_frozen BK289.out 2
       go_wp2_with (first | (go_at_call 36; (with_reducible refine (logjamref02_List.calls k2 x6_2 t294 _ A45.out).mono ?_); rintro e w47 ⟨v295, rfl, ho0, hb⟩; have n0_ := Aside0.mk (Kd.R_lower ho0 (below_size (by repeat (first | (with_reducible first | exact HB.out | apply below_alloc | apply pw_below_drewN | apply below_drew1 | refine below_set ?_ GE289.out) | exact HB.out)))); have n1_ := Aside0.mk (blk_below (g := gb289) (o := .cells #[.int .i64 a0_0, .slice A0_1 l0_1.length c0_1, .slice A0_2 l0_2.length c0_2] 25 (0, 0)) (by (with_reducible repeat (first | refine blk_drewN ?_ _ | refine blk_drew ?_ | refine blk_alloc ?_ _)); exact BK289.out) hb); have n2_ := Aside0.mk (below_step (by repeat (first | (with_reducible first | exact HB.out | apply below_alloc | apply pw_below_drewN | apply below_drew1 | refine below_set ?_ GE289.out) | exact HB.out)) hb); clear BK289; clear HB; have HO296 := n0_; have BK289 := n1_; have HB := n2_; clear n0_ n1_ n2_; (try clear hb); (try clear hb2); (try clear hk); (try clear hi); (try clear ho0)))
       repeat (go_quiet (first | (go_at_call 36; (with_reducible refine (logjamref02_List.calls k2 x6_2 t294 _ A45.out).mono ?_); rintro e w47 ⟨v295, rfl, ho0, hb⟩; have n0_ := Aside0.mk (Kd.R_lower ho0 (below_size (by repeat (first | (with_reducible first | exact HB.out | apply below_alloc | apply pw_below_drewN | apply below_drew1 | refine below_set ?_ GE289.out) | exact HB.out)))); have n1_ := Aside0.mk (blk_below (g := gb289) (o := .cells #[.int .i64 a0_0, .slice A0_1 l0_1.length c0_1, .slice A0_2 l0_2.length c0_2] 25 (0, 0)) (by (with_reducible repeat (first | refine blk_drewN ?_ _ | refine blk_drew ?_ | refine blk_alloc ?_ _)); exact BK289.out) hb); have n2_ := Aside0.mk (below_step (by repeat (first | (with_reducible first | exact HB.out | apply below_alloc | apply pw_below_drewN | apply below_drew1 | refine below_set ?_ GE289.out) | exact HB.out)) hb); clear BK289; clear HB; have HO296 := n0_; have BK289 := n1_; have HB := n2_; clear n0_ n1_ n2_; (try clear hb); (try clear hb2); (try clear hk); (try clear hi); (try clear ho0))); try go_wp2_with (first | (go_at_call 36; (with_reducible refine (logjamref02_List.calls k2 x6_2 t294 _ A45.out).mono ?_); rintro e w47 ⟨v295, rfl, ho0, hb⟩; have n0_ := Aside0.mk (Kd.R_lower ho0 (below_size (by repeat (first | (with_reducible first | exact HB.out | apply below_alloc | apply pw_below_drewN | apply below_drew1 | refine below_set ?_ GE289.out) | exact HB.out)))); have n1_ := Aside0.mk (blk_below (g := gb289) (o := .cells #[.int .i64 a0_0, .slice A0_1 l0_1.length c0_1, .slice A0_2 l0_2.length c0_2] 25 (0, 0)) (by (with_reducible repeat (first | refine blk_drewN ?_ _ | refine blk_drew ?_ | refine blk_alloc ?_ _)); exact BK289.out) hb); have n2_ := Aside0.mk (below_step (by repeat (first | (with_reducible first | exact HB.out | apply below_alloc | apply pw_below_drewN | apply below_drew1 | refine below_set ?_ GE289.out) | exact HB.out)) hb); clear BK289; clear HB; have HO296 := n0_; have BK289 := n1_; have HB := n2_; clear n0_ n1_ n2_; (try clear hb); (try clear hb2); (try clear hk); (try clear hi); (try clear ho0))))
       go_ret
       exact ⟨_, by first | rfl | (simp [errW_none, errW_some] <;> rfl) | (simp [*, errW_none, errW_some] <;> rfl), by (with_reducible repeat (first | apply Kd.R_alloc | apply Kd.R_drewN | apply Kd.R_drew)); exact HO296.out, by repeat (first | (with_reducible first | exact HB.out | apply below_alloc | apply pw_below_drewN | apply below_drew1 | refine below_set ?_ GE289.out) | exact HB.out)⟩
end Go.Proofs.YtadepdeckapgcaaDoor.PWitnessTells
end

section
namespace Go.Proofs.YtadepdeckapgcaaDoor
open Go.RowKit Go.Proofs.YtadepdeckapgcaaDoorW.PrintWords Go.Proofs.YtadepdeckapgcaaDoorW.PrintLast Go.Proofs.YtadepdeckapgcaaDoorW.PrintMore PWitnessTells
set_option linter.unusedSimpArgs false
set_option linter.unusedVariables false
def sF (dead : Nat) : Nat → List NShare → Nat
  | S, [] => S
  | S, s :: r => sF dead (if hasB dead s.f0 then withB S s.f0 else S) r
theorem sF_cons (dead S : Nat) (s : NShare) (r : List NShare) : sF dead S (s :: r) = sF dead (if hasB dead s.f0 then withB S s.f0 else S) r := rfl
def nF (dead : Nat) : Nat → List (List NTerm) → Nat
  | S, [] => S
  | S, w :: r => nF dead (sF dead S (lackOf dead w)) r
theorem nF_cons (dead S : Nat) (w : List NTerm) (r : List (List NTerm)) : nF dead S (w :: r) = nF dead (sF dead S (lackOf dead w)) r := rfl
def rF (dead : Nat) : Nat → List Int → List NNode → Nat
  | S, t :: d, x :: n => rF dead (if hasB S t then nF dead S x.f1 else S) d n
  | S, _, _ => S
theorem rF_cons (dead S : Nat) (t : Int) (d : List Int) (x : NNode) (n : List NNode) : rF dead S (t :: d) (x :: n) = rF dead (if hasB S t then nF dead S x.f1 else S) d n := rfl
def kF (dead : Nat) (d : List Int) (n : List NNode) : Nat → Nat → Nat
  | 0, S => S
  | r + 1, S => kF dead d n r (rF dead S d n)
theorem kF_succ (dead : Nat) (d : List Int) (n : List NNode) (r S : Nat) : kF dead d n (r + 1) S = kF dead d n r (rF dead S d n) := rfl
theorem ite_lt' {c : Prop} [Decidable c] {a b B : Nat} (ha : a < B) (hb : b < B) : (if c then a else b) < B := by split <;> assumption
theorem sF_lt (dead : Nat) : ∀ (l : List NShare) (S : Nat), S < B64 → sF dead S l < B64
  | [], _, h => h
  | s :: r, S, h => by rw [sF_cons]; exact sF_lt dead r _ (ite_lt' (withB_lt' S h _) h)
theorem nF_lt (dead : Nat) : ∀ (l : List (List NTerm)) (S : Nat), S < B64 → nF dead S l < B64
  | [], _, h => h
  | w :: r, S, h => by rw [nF_cons]; exact nF_lt dead r _ (sF_lt dead _ _ h)
theorem rF_lt (dead : Nat) : ∀ (d : List Int) (n : List NNode) (S : Nat), S < B64 → rF dead S d n < B64
  | [], _, _, h => h
  | _ :: _, [], _, h => h
  | t :: d, x :: n, S, h => by rw [rF_cons]; exact rF_lt dead d n _ (ite_lt' (nF_lt dead _ S h) h)
theorem sF_has (dead : Nat) (u : Int) : ∀ (l : List NShare) (S : Nat), hasB (sF dead S l) u = true ↔ hasB S u = true ∨ shTo dead l u
  | [], S => by simp [sF, shTo]
  | s :: r, S => by
    rw [sF_cons, sF_has dead u r]
    unfold shTo
    by_cases q : hasB dead s.f0 = true
    · rw [if_pos q, hasB_withB, Bool.or_eq_true, decide_eq_true_eq]
      constructor
      · rintro ((h | ⟨_, rfl⟩) | ⟨h, y, hy, e⟩)
        · exact .inl h
        · exact .inr ⟨q, s, by simp, rfl⟩
        · exact .inr ⟨h, y, by simp [hy], e⟩
      · rintro (h | ⟨h, y, hy, e⟩)
        · exact .inl (.inl h)
        · rcases List.mem_cons.1 hy with rfl | hy
          · exact .inl (.inr ⟨hasB_vt q, e.symm⟩)
          · exact .inr ⟨h, y, hy, e⟩
    · rw [if_neg q]
      constructor
      · rintro (h | ⟨h, y, hy, e⟩)
        · exact .inl h
        · exact .inr ⟨h, y, by simp [hy], e⟩
      · rintro (h | ⟨h, y, hy, e⟩)
        · exact .inl h
        · rcases List.mem_cons.1 hy with rfl | hy
          · exact absurd (e ▸ h) q
          · exact .inr ⟨h, y, hy, e⟩
theorem nF_has (dead : Nat) (u : Int) : ∀ (l : List (List NTerm)) (S : Nat), hasB (nF dead S l) u = true ↔ hasB S u = true ∨ goesTo dead l u
  | [], S => by simp [nF, goesTo]
  | w :: r, S => by
    rw [nF_cons, nF_has dead u r, sF_has]
    unfold goesTo
    constructor
    · rintro ((h | h) | ⟨y, hy, h⟩)
      · exact .inl h
      · exact .inr ⟨w, by simp, h⟩
      · exact .inr ⟨y, by simp [hy], h⟩
    · rintro (h | ⟨y, hy, h⟩)
      · exact .inl (.inl h)
      · rcases List.mem_cons.1 hy with rfl | hy
        · exact .inl (.inr h)
        · exact .inr ⟨y, hy, h⟩
theorem rF_mono (dead : Nat) (u : Int) : ∀ (d : List Int) (n : List NNode) (S : Nat), hasB S u = true → hasB (rF dead S d n) u = true
  | [], _, _, h => h
  | _ :: _, [], _, h => h
  | t :: d, x :: n, S, h => by
    rw [rF_cons]; apply rF_mono
    by_cases q : hasB S t = true
    · rw [if_pos q, nF_has]; exact .inl h
    · rw [if_neg q]; exact h
def ClosedZ (dead : Nat) (z : List (Int × NNode)) (T : Nat) : Prop := ∀ p ∈ z, hasB T p.1 = true → ∀ v, goesTo dead p.2.f1 v → hasB T v = true
theorem rF_in (dead : Nat) (T : Nat) : ∀ (d : List Int) (n : List NNode) (S : Nat), ClosedZ dead (d.zip n) T → (∀ u, hasB S u = true → hasB T u = true) → ∀ u, hasB (rF dead S d n) u = true → hasB T u = true
  | [], _, _, _, h, u, hu => h u hu
  | _ :: _, [], _, _, h, u, hu => h u hu
  | t :: d, x :: n, S, hc, h, u, hu => by
    rw [rF_cons] at hu
    refine rF_in dead T d n _ (fun p hp => hc p (by simp [hp])) (fun v hv => ?_) u hu
    by_cases q : hasB S t = true
    · rw [if_pos q, nF_has] at hv
      rcases hv with hv | hv
      · exact h v hv
      · exact hc (t, x) (by simp) (h t q) v hv
    · rw [if_neg q] at hv; exact h v hv
theorem rF_fix (dead : Nat) : ∀ (d : List Int) (n : List NNode) (S : Nat), S < B64 → rF dead S d n = S → ClosedZ dead (d.zip n) S
  | [], _, _, _, _ => fun p hp => by simp at hp
  | _ :: _, [], _, _, _ => fun p hp => by simp at hp
  | t :: d, x :: n, S, hS, h => by
    rw [rF_cons] at h
    have hsub : ∀ u, hasB (if hasB S t then nF dead S x.f1 else S) u = true → hasB S u = true := fun u hu => by
      have := rF_mono dead u d n _ hu; rwa [h] at this
    have he : (if hasB S t then nF dead S x.f1 else S) = S := by
      refine setExt _ _ (ite_lt' (nF_lt dead _ S hS) hS) hS (fun u => ?_)
      rw [Bool.eq_iff_iff]
      refine ⟨hsub u, fun hu => ?_⟩
      by_cases q : hasB S t = true
      · rw [if_pos q, nF_has]; exact .inl hu
      · rw [if_neg q]; exact hu
    rw [he] at h
    have ih := rF_fix dead d n S hS h
    intro p hp
    rcases List.mem_cons.1 (by simpa using hp : p ∈ (t, x) :: d.zip n) with rfl | hp
    · intro q v hv
      rw [if_pos q] at he
      have : hasB (nF dead S x.f1) v = true := (nF_has dead v x.f1 S).2 (.inr hv)
      rwa [he] at this
    · exact ih p hp
theorem closed_zip (dead : Nat) (d : List Int) (n : List NNode) (hl : d.length = n.length) (T : Nat) : ClosedZ dead (d.zip n) T ↔ Closed dead d n T := by
  constructor
  · intro h i hi hu v hv
    have hz : i < (d.zip n).length := by simp; omega
    refine h ((d.zip n).getD i (0, z92)) (getD_mem _ _ _ hz) ?_ v ?_
    · rw [zip_getD d n i hi hl]; exact hu
    · rw [zip_getD d n i hi hl]; exact hv
  · intro h p hp hu v hv
    obtain ⟨i, hi, he⟩ := List.getElem_of_mem hp
    have hz : i < d.length := by simp at hi; omega
    have e := zip_getD d n i hz hl
    rw [List.getD_eq_getElem?_getD, List.getElem?_eq_getElem hi, Option.getD_some, he] at e
    rw [e] at hu hv
    exact h i hz hu v hv
theorem card_sub (a b : Nat) (h : ∀ u, hasB a u = true → hasB b u = true) : card a ≤ card b := by
  unfold card
  refine List.countP_mono_left (fun i hi hp => ?_)
  have hi' : i ≤ 63 := by have := List.mem_range.1 hi; omega
  have := h i (by rw [hasB_nat a i hi']; exact hp)
  rwa [hasB_nat b i hi'] at this
theorem card_lt (a b : Nat) (ha : a < B64) (hb : b < B64) (h : ∀ u, hasB a u = true → hasB b u = true) (hne : a ≠ b) : card a + 1 ≤ card b := by
  obtain ⟨u, hu⟩ : ∃ u, hasB a u ≠ hasB b u := by
    by_cases q : ∃ u, hasB a u ≠ hasB b u
    · exact q
    · exact absurd (setExt a b ha hb (fun t => Decidable.byContradiction fun e => q ⟨t, e⟩)) hne
  have h1 : hasB a u = false := by
    cases q : hasB a u
    · rfl
    · exact absurd (q.trans (h u q).symm) hu
  have h2 : hasB b u = true := by
    cases q : hasB b u
    · exact absurd (h1.trans q.symm) hu
    · rfl
  rw [← card_with a u (hasB_vt h2) h1]
  refine card_sub _ _ (fun v hv => ?_)
  rw [hasB_withB, Bool.or_eq_true, decide_eq_true_eq] at hv
  rcases hv with hv | ⟨_, rfl⟩
  · exact h v hv
  · exact h2
theorem card_withB_le (s : Nat) (t : Int) : card (withB s t) ≤ card s + 1 := by
  by_cases h : vt t
  · cases q : hasB s t
    · rw [card_with s t h q]; omega
    · refine Nat.le_trans (card_sub _ s (fun v hv => ?_)) (Nat.le_succ _)
      rw [hasB_withB, Bool.or_eq_true, decide_eq_true_eq] at hv
      rcases hv with hv | ⟨_, rfl⟩
      · exact hv
      · exact q
  · have e : withB s t = s := if_neg h
    rw [e]; omega
theorem card_ofL : ∀ (l : List Int) (s : Nat), card (ofL s l) ≤ card s + l.length
  | [], s => by simp [ofL]
  | t :: r, s => by
    rw [ofL_cons]
    have h1 := card_ofL r (withB s t)
    have h2 := card_withB_le s t
    simp only [List.length_cons]
    omega
theorem kF_fix (dead : Nat) (d : List Int) (n : List NNode) (S : Nat) (h : rF dead S d n = S) : ∀ r, kF dead d n r S = S
  | 0 => rfl
  | r + 1 => by rw [kF_succ, h]; exact kF_fix dead d n S h r
theorem kF_lt (dead : Nat) (d : List Int) (n : List NNode) : ∀ (r S : Nat), S < B64 → kF dead d n r S < B64
  | 0, _, h => h
  | r + 1, S, h => by rw [kF_succ]; exact kF_lt dead d n r _ (rF_lt dead d n S h)
theorem kF_mono (dead : Nat) (d : List Int) (n : List NNode) (u : Int) : ∀ (r S : Nat), hasB S u = true → hasB (kF dead d n r S) u = true
  | 0, _, h => h
  | r + 1, S, h => by rw [kF_succ]; exact kF_mono dead d n u r _ (rF_mono dead u d n S h)
theorem kF_in (dead : Nat) (d : List Int) (n : List NNode) (T : Nat) (hc : ClosedZ dead (d.zip n) T) : ∀ (r S : Nat), (∀ u, hasB S u = true → hasB T u = true) → ∀ u, hasB (kF dead d n r S) u = true → hasB T u = true
  | 0, _, h, u, hu => h u hu
  | r + 1, S, h, u, hu => by rw [kF_succ] at hu; exact kF_in dead d n T hc r _ (rF_in dead T d n S hc h) u hu
theorem dead_closed (dead : Nat) (z : List (Int × NNode)) : ClosedZ dead z dead := fun _ _ _ v ⟨_, _, h⟩ => h.1
theorem kF_done (dead : Nat) (hd : dead < B64) (d : List Int) (n : List NNode) : ∀ (r S : Nat), S < B64 → (∀ u, hasB S u = true → hasB dead u = true) → card dead ≤ card S + r → rF dead (kF dead d n r S) d n = kF dead d n r S
  | 0, S, hS, hs, hc => by
    have h1 := rF_lt dead d n S hS
    have h2 := rF_in dead dead d n S (dead_closed dead _) hs
    have h3 := card_sub (rF dead S d n) dead h2
    by_cases q : rF dead S d n = S
    · exact q
    · have := card_lt S (rF dead S d n) hS h1 (fun u hu => rF_mono dead u d n S hu) (fun e => q e.symm)
      omega
  | r + 1, S, hS, hs, hc => by
    by_cases q : rF dead S d n = S
    · rw [kF_fix dead d n S q]; exact q
    · rw [kF_succ]
      have h1 := rF_lt dead d n S hS
      have := card_lt S (rF dead S d n) hS h1 (fun u hu => rF_mono dead u d n S hu) (fun e => q e.symm)
      exact kF_done dead hd d n r _ h1 (rF_in dead dead d n S (dead_closed dead _) hs) (by omega)
theorem kF_core (d : List Int) (n : List NNode) (hl : d.length = n.length) (t : Int) (ht : hasB (ofL 0 d) t = true) : CoreOK (ofL 0 d) d n t (kF (ofL 0 d) d n d.length (withB 0 t)) := by
  have hd := ofL_lt d 0 (by decide)
  have h0 : withB 0 t < B64 := withB_lt' 0 (by decide) t
  have hv := hasB_vt ht
  have hz : ∀ u, hasB 0 u = false := fun u => by unfold hasB; simp
  have hsub : ∀ T, hasB T t = true → ∀ u, hasB (withB 0 t) u = true → hasB T u = true := fun T hT u hu => by
    rw [hasB_withB, hz, Bool.false_or, decide_eq_true_eq] at hu; rw [hu.2]; exact hT
  have hc : card (ofL 0 d) ≤ card (withB 0 t) + d.length := by
    have h1 := card_ofL d 0
    have h2 : card 0 = 0 := by decide
    omega
  have hfix := kF_done (ofL 0 d) hd d n d.length (withB 0 t) h0 (hsub _ ht) hc
  have hlt := kF_lt (ofL 0 d) d n d.length (withB 0 t) h0
  refine ⟨hlt, kF_mono _ d n t _ _ (by rw [hasB_withB, decide_eq_true ⟨hv, rfl⟩]; simp), kF_in _ d n _ (dead_closed _ _) _ _ (hsub _ ht), (closed_zip _ d n hl _).1 (rF_fix _ d n _ hlt hfix), fun T hT hTt => ?_⟩
  exact kF_in _ d n T ((closed_zip _ d n hl T).2 hT) _ _ (hsub T hTt)
def coreR (time : Int) (d : List Int) (n : List NNode) (t : Int) : List Int :=
  if soundR time d n = true ∧ 0 ≤ findL t 0 d then listB (kF (ofL 0 d) d n d.length (withB 0 t)) else []
theorem core_eq (time : Int) (d : List Int) (n : List NNode) (t : Int) (l : List Int) (h : CoreRes time d n t l) : l = coreR time d n t := by
  unfold coreR
  cases hs : soundR time d n
  · rw [if_neg (by simp)]
    exact h.2 (by rw [hs]; rfl)
  · have hz : chkR time d n = 0 := by unfold soundR at hs; simp at hs; exact hs.1
    obtain ⟨hlen, hdc, _⟩ := chkR_zero _ _ _ hz
    have hr := deadC_range d (-1) (by omega) hdc
    have h0 : ∀ u, hasB 0 u = false := fun u => by unfold hasB; simp
    by_cases q : 0 ≤ findL t 0 d
    · rw [if_pos ⟨rfl, q⟩]
      have hm : t ∈ d := by
        rcases findL_spec t d 0 with ⟨e, _⟩ | ⟨j, _, hj, e⟩
        · omega
        · rw [← e]; exact getD_mem 0 d j hj
      have ht : hasB (ofL 0 d) t = true := by
        rw [hasB_ofL, h0, Bool.false_or, decide_eq_true_eq]; exact ⟨hr t hm, hm⟩
      obtain ⟨met, hmet, rfl⟩ := h.1 hs ht
      rw [hmet.unique (kF_core d n hlen t ht)]
    · rw [if_neg (fun e => q e.2)]
      refine h.2 ?_
      rw [hs, Bool.true_and, hasB_ofL, h0, Bool.false_or, decide_eq_false_iff_not]
      rintro ⟨_, hm⟩
      rcases findL_spec t d 0 with ⟨_, e⟩ | ⟨j, e, _, _⟩
      · exact e hm
      · omega
end Go.Proofs.YtadepdeckapgcaaDoor
end

section
namespace Go.Proofs.YtadepdeckapgcaaDoor
open Go.RowKit Go.Proofs.YtadepdeckapgcaaDoorW.PrintWords Go.Proofs.YtadepdeckapgcaaDoorW.PrintLast Go.Proofs.YtadepdeckapgcaaDoorW.PrintMore PWitnessTells
set_option linter.unusedSimpArgs false
set_option linter.unusedVariables false
section
variable (dead : Nat) (hd : dead < B64) (time : Int) (dd : List Int) (n : List NNode)
include hd
theorem ev_co_l3 (i j a : Int) (st : Bool) (ws : List (List NTerm)) (f : List NShare) (hf : f.length ≤ MX) (r : List Int) :
    ∀ (e q S : Nat), S < B64 → q + e = f.length → Ev (fun k => logjamref37_Core.l2 k (dead : Int) ((sF dead S (f.drop q) : Nat) : Int) i j (wrap64 (a + 1)) time dd n st ws) r →
      Ev (fun k => logjamref37_Core.l3 k (dead : Int) (S : Int) i j a f (q : Int) time dd n st ws) r := by
  intro e
  induction e with
  | zero =>
    intro q S hS hq h
    rw [List.drop_of_length_le (by omega)] at h
    exact Ev.step (f := fun k => logjamref37_Core.l2 k (dead : Int) (S : Int) i j (wrap64 (a + 1)) time dd n st ws) (fun k => by simp only [logjamref37_Core.l3]; rw [if_neg (by omega)]) h
  | succ e ih =>
    intro q S hS hq h
    have hw := Lib.hid <| wrap_succ q f.length (by omega) hf
    have hrd : rd_T108 f (q : Int) = f.getD q z108 := rfl
    rw [drop_cons' z108 f q (by omega), sF_cons] at h
    generalize f.getD q z108 = s at *
    refine Ev.step (f := fun k => (logjamref02_Has.f k (dead : Int) s.f0).bind fun t306 => (if t306 = true then ((logjamref02_With.f k (S : Int) s.f0).bind fun t308 => (logjamref37_Core.l3 k (dead : Int) t308 i j a f ((q + 1 : Nat) : Int) time dd n st ws)) else (logjamref37_Core.l3 k (dead : Int) (S : Int) i j a f ((q + 1 : Nat) : Int) time dd n st ws))) (fun k => ?_) ?_
    · simp only [logjamref37_Core.l3]
      rw [if_pos (by omega), if_pos (by omega), hrd, hw.out]
    refine Ev.bind (ev_has dead hd s.f0) ?_
    cases hb : hasB dead s.f0
    · rw [hb, if_neg (by simp)] at h
      exact Ev.congr (f := fun k => logjamref37_Core.l3 k (dead : Int) (S : Int) i j a f ((q + 1 : Nat) : Int) time dd n st ws) (fun k => by rw [if_neg (by simp)]) (ih (q + 1) S hS (by omega) h)
    · rw [hb, if_pos rfl] at h
      refine Ev.congr (f := fun k => (logjamref02_With.f k (S : Int) s.f0).bind fun t308 => (logjamref37_Core.l3 k (dead : Int) t308 i j a f ((q + 1 : Nat) : Int) time dd n st ws)) (fun k => by rw [if_pos rfl]) ?_
      exact Ev.bind (ev_with S hS s.f0) (ih (q + 1) _ (withB_lt' S hS s.f0) (by omega) h)
theorem ev_co_l2 (i j : Int) (st : Bool) (ws : List (List NTerm)) (hws : Bws ws) (hok : ∀ w ∈ ws, ∃ j : Nat, lacksL dead 0 w = (j : Int) ∧ j < w.length) (r : List Int) :
    ∀ (e a S : Nat), S < B64 → a + e = ws.length → Ev (fun k => logjamref37_Core.l1 k (dead : Int) ((nF dead S (ws.drop a) : Nat) : Int) i (wrap64 (j + 1)) time dd n) r →
      Ev (fun k => logjamref37_Core.l2 k (dead : Int) (S : Int) i j (a : Int) time dd n st ws) r := by
  intro e
  induction e with
  | zero =>
    intro a S hS ha h
    rw [List.drop_of_length_le (by omega)] at h
    exact Ev.step (f := fun k => logjamref37_Core.l1 k (dead : Int) (S : Int) i (wrap64 (j + 1)) time dd n) (fun k => by simp only [logjamref37_Core.l2]; rw [if_neg (by omega)]) h
  | succ e ih =>
    intro a S hS ha h
    have hw := Lib.hid <| wrap_succ a ws.length (by omega) hws.1
    have hrd : rd_L5 ws (a : Int) = ws.getD a [] := rfl
    have hmem := getD_mem [] ws a (by omega)
    have hbw := hws.2 _ hmem
    obtain ⟨p, hp, hpl⟩ := hok _ hmem
    rw [drop_cons' [] ws a (by omega), nF_cons] at h
    generalize ws.getD a [] = way at *
    have hlk : lackOf dead way = (way.getD p z96).f1 := by unfold lackOf; rw [hp, Int.toNat_natCast]
    have hmm := hbw.2 _ (getD_mem z96 way p hpl)
    have h3 : rd_T96 way (p : Int) = way.getD p z96 := rfl
    rw [hlk] at h
    generalize way.getD p z96 = m at *
    refine Ev.step (f := fun k => (logjamref37_Lacks.f k way (dead : Int)).bind fun t303 => (if 0 ≤ t303 then (if t303 < (way.length : Int) then (logjamref37_Core.l3 k (dead : Int) (S : Int) i j (a : Int) ((rd_T96 way t303).f1) 0 time dd n st ws) else (none)) else (none))) (fun k => ?_) ?_
    · simp only [logjamref37_Core.l2]
      rw [if_pos (by omega), if_pos (by omega), hrd]
    refine Ev.bind (ev_lacks way hbw dead hd) ?_
    rw [hp]
    refine Ev.congr (f := fun k => logjamref37_Core.l3 k (dead : Int) (S : Int) i j (a : Int) m.f1 ((0 : Nat) : Int) time dd n st ws) (fun k => by rw [if_pos (by omega), if_pos (by omega), h3]; rfl) ?_
    refine ev_co_l3 dead hd time dd n i j a st ws m.f1 hmm r m.f1.length 0 S hS (Nat.zero_add _) ?_
    rw [List.drop_zero, hw.out]
    exact ih (a + 1) _ (sF_lt dead _ _ hS) (by omega) h
theorem ev_co_l1 (i : Int) (hb : Bns n) (hlen : dd.length = n.length) (hok : ∀ x ∈ n, ∀ w ∈ x.f1, ∃ j : Nat, lacksL dead 0 w = (j : Int) ∧ j < w.length) (r : List Int) :
    ∀ (e j S : Nat), S < B64 → j + e = dd.length → Ev (fun k => logjamref37_Core.l0 k (dead : Int) ((rF dead S (dd.drop j) (n.drop j) : Nat) : Int) (wrap64 (i + 1)) time dd n) r →
      Ev (fun k => logjamref37_Core.l1 k (dead : Int) (S : Int) i (j : Int) time dd n) r := by
  have hdm : dd.length ≤ MX := by rw [hlen]; exact hb.1
  intro e
  induction e with
  | zero =>
    intro j S hS hj h
    rw [List.drop_of_length_le (by omega), List.drop_of_length_le (by omega)] at h
    exact Ev.step (f := fun k => logjamref37_Core.l0 k (dead : Int) (S : Int) (wrap64 (i + 1)) time dd n) (fun k => by simp only [logjamref37_Core.l1]; rw [if_neg (by omega)]) h
  | succ e ih =>
    intro j S hS hj h
    have hw := Lib.hid <| wrap_succ j dd.length (by omega) hdm
    have h1 : rd dd (j : Int) = dd.getD j 0 := rfl
    have h2 : rd_T92 n (j : Int) = n.getD j z92 := rfl
    have hmem := getD_mem z92 n j (by omega)
    have hws := hb.2 _ hmem
    have hokx := hok _ hmem
    rw [drop_cons' 0 dd j (by omega), drop_cons' z92 n j (by omega), rF_cons] at h
    generalize dd.getD j 0 = t at *
    generalize n.getD j z92 = x at *
    refine Ev.step (f := fun k => (logjamref02_Has.f k (S : Int) t).bind fun t298 => (if t298 = true then (logjamref37_Core.l2 k (dead : Int) (S : Int) i (j : Int) ((0 : Nat) : Int) time dd n x.f0 x.f1) else (logjamref37_Core.l1 k (dead : Int) (S : Int) i ((j + 1 : Nat) : Int) time dd n))) (fun k => ?_) ?_
    · simp only [logjamref37_Core.l1]
      rw [if_pos (by omega), if_pos (by omega), h1, hw.out, h2, if_pos (show (j : Int) < (n.length : Int) by omega)]
      rfl
    refine Ev.bind (ev_has S hS t) ?_
    cases hh : hasB S t
    · rw [hh, if_neg (by simp)] at h
      exact Ev.congr (f := fun k => logjamref37_Core.l1 k (dead : Int) (S : Int) i ((j + 1 : Nat) : Int) time dd n) (fun k => by rw [if_neg (by simp)]) (ih (j + 1) S hS (by omega) h)
    · rw [hh, if_pos rfl] at h
      refine Ev.congr (f := fun k => logjamref37_Core.l2 k (dead : Int) (S : Int) i (j : Int) ((0 : Nat) : Int) time dd n x.f0 x.f1) (fun k => by rw [if_pos rfl]) ?_
      refine ev_co_l2 dead hd time dd n i j x.f0 x.f1 hws hokx r x.f1.length 0 S hS (Nat.zero_add _) ?_
      rw [List.drop_zero, hw.out]
      exact ih (j + 1) _ (nF_lt dead _ _ hS) (by omega) h
theorem ev_co_l0 (hb : Bns n) (hlen : dd.length = n.length) (hok : ∀ x ∈ n, ∀ w ∈ x.f1, ∃ j : Nat, lacksL dead 0 w = (j : Int) ∧ j < w.length) :
    ∀ (e i S : Nat), S < B64 → i + e = dd.length → Ev (fun k => logjamref37_Core.l0 k (dead : Int) (S : Int) (i : Int) time dd n) (listB (kF dead dd n e S)) := by
  have hdm : dd.length ≤ MX := by rw [hlen]; exact hb.1
  intro e
  induction e with
  | zero =>
    intro i S hS hi
    refine Ev.step (f := fun k => (logjamref02_List.f k (S : Int)).bind fun t294 => (some t294)) (fun k => by simp only [logjamref37_Core.l0]; rw [if_neg (by omega)]) ?_
    exact Ev.bind (ev_list S hS) (Ev.now _)
  | succ e ih =>
    intro i S hS hi
    have hw := Lib.hid <| wrap_succ i dd.length (by omega) hdm
    refine Ev.step (f := fun k => logjamref37_Core.l1 k (dead : Int) (S : Int) (i : Int) ((0 : Nat) : Int) time dd n) (fun k => by simp only [logjamref37_Core.l0]; rw [if_pos (by omega)]; rfl) ?_
    refine ev_co_l1 dead hd time dd n i hb hlen hok _ dd.length 0 S hS (Nat.zero_add _) ?_
    rw [List.drop_zero, List.drop_zero, hw.out, kF_succ]
    exact ih (i + 1) _ (rF_lt dead dd n S hS) (by omega)
end
theorem ev_core (time : Int) (dd : List Int) (hd : dd.length ≤ MX) (n : List NNode) (hb : Bns n) (t : Int) : Ev (fun k => logjamref37_Core.f k time dd n t) (coreR time dd n t) := by
  have hF : Ev (fun k => logjamref37_Core.j0 k t true time dd n) ([] : List Int) := Ev.step (f := fun _ => some []) (fun k => by simp only [logjamref37_Core.j0]; rw [if_pos trivial]) (Ev.now _)
  refine Ev.congr (f := fun k => (logjamref37_Sound.f k time dd n).bind fun t290 => (if t290 = true then ((logjamref37_find.f k time dd n t).bind fun t291 => (logjamref37_Core.j0 k t (decide (t291 < 0)) time dd n)) else (logjamref37_Core.j0 k t true time dd n))) (fun k => rfl) ?_
  refine Ev.bind (ev_sound time dd hd n hb) ?_
  unfold coreR
  cases hs : soundR time dd n
  · rw [if_neg (by simp)]
    exact Ev.congr (f := fun k => logjamref37_Core.j0 k t true time dd n) (fun k => by rw [if_neg (by simp)]) hF
  · have hz : chkR time dd n = 0 ∧ nodesOk (ofL 0 dd) n = true := by unfold soundR at hs; simpa using hs
    obtain ⟨hlen, hdc, _⟩ := chkR_zero _ _ _ hz.1
    refine Ev.congr (f := fun k => (logjamref37_find.f k time dd n t).bind fun t291 => (logjamref37_Core.j0 k t (decide (t291 < 0)) time dd n)) (fun k => by rw [if_pos rfl]) ?_
    refine Ev.bind (ev_find t time dd hd n) ?_
    by_cases q : 0 ≤ findL t 0 dd
    · rw [if_pos ⟨rfl, q⟩, decide_eq_false (by omega)]
      refine Ev.step (f := fun k => (logjamref02_Of.f k dd).bind fun t292 => ((logjamref02_With.f k ((0 : Nat) : Int) t).bind fun t293 => (logjamref37_Core.l0 k t292 t293 ((0 : Nat) : Int) time dd n))) (fun k => by simp only [logjamref37_Core.j0]; rw [if_neg (by simp)]; rfl) ?_
      refine Ev.bind (ev_of dd hd) ?_
      refine Ev.bind (ev_with 0 (by decide) t) ?_
      exact ev_co_l0 (ofL 0 dd) (ofL_lt dd 0 (by decide)) time dd n hb hlen (fun x hx w hw => sound_way hz.2 x hx w hw) dd.length 0 _ (withB_lt' 0 (by decide) t) (Nat.zero_add _)
    · rw [if_neg (fun e => q e.2), decide_eq_true (by omega)]
      exact hF
end Go.Proofs.YtadepdeckapgcaaDoor
end

section
namespace Go.Proofs.YtadepdeckapgcaaDoor
open Go.RowKit Go.Proofs.YtadepdeckapgcaaDoorW.PrintWords Go.Proofs.YtadepdeckapgcaaDoorW.PrintLast Go.Proofs.YtadepdeckapgcaaDoorW.PrintMore PWitnessTells
set_option linter.unusedSimpArgs false
set_option linter.unusedVariables false
theorem at_R {W : World} {B : Nat} {A : Option Addr} {c : Nat} {l : List NNode} (h : k92.R 92 W B Any_ (.slice A l.length c) l) (k : Nat) (hk : k < l.length) :
    ∃ ad A1 c1, A = some ad ∧ W.cell? (ad.add (k * 2)) = some (.bool (l.getD k z92).f0) ∧ W.cell? ⟨(ad.add (k * 2)).block, (ad.add (k * 2)).off + 1, none⟩ = some (.slice A1 (l.getD k z92).f1.length c1) ∧
      k92.M W B Any_ (l.getD k z92) [.bool (l.getD k z92).f0, .slice A1 (l.getD k z92).f1.length c1] := by
  obtain ⟨g, c', hv, _⟩ := Kd.R_form h (by omega)
  injection hv with hA _ hc
  subst hA
  obtain ⟨cs, _, hM, hcell, _⟩ := Kd.R_elem (n := l.length) h z92 (k : Int) (by omega) (by omega)
  simp only [Int.toNat_natCast] at hM hcell
  obtain ⟨v1, rfl, hR⟩ := k92_openM hM
  obtain ⟨A1, c1, rfl⟩ := Kd.R_slice hR
  refine ⟨_, A1, c1, rfl, ?_, ?_, k92_mkM _ _ _ _ (Kd.R_mono hR (fun _ _ => trivial))⟩
  · have q := hcell 0 _ rfl
    have e : (⟨g, 0, none⟩ : Addr).add (k * 2) = ⟨g, k * 2 + 0, none⟩ := by rw [add_plain, Nat.add_zero]
    rw [e]; exact q
  · have q := hcell 1 _ rfl
    have e : (⟨((⟨g, 0, none⟩ : Addr).add (k * 2)).block, ((⟨g, 0, none⟩ : Addr).add (k * 2)).off + 1, none⟩ : Addr) = ⟨g, k * 2 + 1, none⟩ := by rw [add_plain]
    rw [e]; exact q
section
variable {P : Program} {ops : Array Oper} {rest : List Oper} {o : Oper} {a : Act} {Q : Exit → Act → World → Prop} {Kc : Act → World → Prop} {α : Type}
theorem rAppAt (d : Kd α) {w0 W : World} (base : Nat) (hw : Region.wanted o (yielded ops a.tmps) = true) (s x : Operand) (t e : TypeId) (z : Value) (bytes : Nat)
    (ho : o.op = .call { callee := .builtin .append, args := #[s, x], argTypes := #[t, t] })
    (ht : P.underlying t = some (.slice e)) (hinfo : (P.info? e).map (fun i => (i.zero, i.size, i.bytes)) = some (some z, d.sz, bytes)) (hz : z.cells.size = d.sz) (hs0 : 0 < d.sz) (hb0 : 0 < bytes)
    (v : Value) (xs : List α) (p : α) (cs : List Value) (g : Nat) (hs : a.eval s = v) (hx : a.eval x = .slice (some ⟨g, 0, none⟩) 1 1) (hg : Blk W g cs.toArray e) (hcs : cs.length = d.sz) (hp : d.M W base Any_ p cs) (hE : ∀ q, q ∈ d.E → q ≠ e)
    (HO : d.R e W base Any_ v xs) (HB : Below base w0 W) (hbase : base ≤ W.heap.size) (hl : (xs.length + 1) * bytes ≤ 140737488355328)
    (h : ∀ v1 w1, d.R e w1 base Any_ v1 (xs ++ [p]) → Below base w0 w1 → W.grownBy w1 v.ownBlock → (v1.ownBlock = v.ownBlock ∨ ∃ b, v1.ownBlock = some b ∧ W.heap.size ≤ b) → Kc (a.put o.dst v1) w1) :
    if Region.wanted o (yielded ops a.tmps) = true then Oper.wp P o a W Kc Q else Kc (a.put o.dst undef) W := by
  obtain ⟨inner, hown⟩ := Kd.R_own HO
  refine Kd.R_append_rows_step d (Rr := fun y c => y = p ∧ c = cs) base hw s x t e z bytes ho ht hinfo hz hs0 hb0 v xs [p] (some ⟨g, 0, none⟩) 1 1 Any_ (fun k => Any_ k ∧ some k ≠ v.ownBlock) hs hx HO ?_ (fun y c hc => by rw [hc.1, hc.2]; exact M_off hp hown hE) (fun _ h => h) (fun _ _ => trivial) HB hbase hl h
  refine ⟨rfl, by decide, fun _ => ⟨⟨g, 0, none⟩, rfl, fun j q hj => ?_⟩⟩
  cases j with
  | zero =>
    simp at hj
    subst hj
    refine ⟨cs, hcs, ⟨rfl, rfl⟩, fun i u hu => ?_⟩
    have q := hg.cell i
    have e : (⟨g, 0, none⟩ : Addr).add (0 * d.sz + i) = ⟨g, i, none⟩ := by rw [add_plain, Nat.zero_mul, Nat.zero_add]
    rw [e, q]
    simpa using hu
  | succ j => simp at hj
end
structure PrAt (w : World) (B R Y : Nat) (time : Int) (xs : Array Value) (vd vn : Value) (dd : List Int) (nn : List NNode) (wr : World) : Prop where
  x : Blk wr w.heap.size xs 25
  r : Blk wr R #[.int .i64 0, .slice none 0 0, .slice none 0 0] 25
  y : Blk wr Y #[.int .i64 time, vd, vn] 25
  od : (Kd.int .i64).R 3 wr w.heap.size Any_ vd dd
  on : k92.R 92 wr B Any_ vn nn
  ob : ∀ k, vn.ownBlock = some k → w.heap.size ≤ k
  b : Below w.heap.size w wr
theorem PrAt.quiet {w : World} {B R Y : Nat} {time : Int} {xs : Array Value} {vd vn : Value} {dd : List Int} {nn : List NNode} {wr wz : World} (h : PrAt w B R Y time xs vd vn dd nn wr) (q : Quiet wr wz) : PrAt w B R Y time xs vd vn dd nn wz :=
  ⟨q.blk h.x (fun x => x), q.blk h.r (fun x => x), q.blk h.y (fun x => x), Kd.R_below h.od q.bel, Kd.R_below h.on q.bel, h.ob, below_then h.b h.b.size q.bel⟩
theorem PrAt.set0 {w : World} {B R Y : Nat} {t0 time : Int} {xs : Array Value} {vd vn : Value} {dd : List Int} {nn : List NNode} {wr : World} (h : PrAt w B R Y t0 xs vd vn dd nn wr) (hRY : R ≠ Y) (hXY : w.heap.size < Y) : PrAt w B R Y time xs vd vn dd nn (wr.setCell ⟨Y, 0, none⟩ (.int .i64 time)) :=
  ⟨h.x.set_other (by show Y ≠ _; omega) _, h.r.set_other (by show Y ≠ _; omega) _, by simpa using h.y.set 0 (.int .i64 time), Kd.R_set h.od h.y (by decide) 0 _, Kd.R_set h.on h.y (by decide) 0 _, h.ob, h.b.setCell (by show w.heap.size ≤ Y; omega) _⟩
structure PrMid (w : World) (B R Y : Nat) (time : Int) (xs : Array Value) (vd vn : Value) (v1 : Value) (de : List Int) (nn : List NNode) (wr : World) : Prop where
  x : Blk wr w.heap.size xs 25
  r : Blk wr R #[.int .i64 0, .slice none 0 0, .slice none 0 0] 25
  y : Blk wr Y #[.int .i64 time, vd, vn] 25
  od : (Kd.int .i64).R 3 wr w.heap.size Any_ v1 de
  on : k92.R 92 wr B Any_ vn nn
  ob : ∀ k, vn.ownBlock = some k → w.heap.size ≤ k
  b : Below w.heap.size w wr
theorem PrMid.quiet {w : World} {B R Y : Nat} {time : Int} {xs : Array Value} {vd vn v1 : Value} {de : List Int} {nn : List NNode} {wr wz : World} (h : PrMid w B R Y time xs vd vn v1 de nn wr) (q : Quiet wr wz) : PrMid w B R Y time xs vd vn v1 de nn wz :=
  ⟨q.blk h.x (fun x => x), q.blk h.r (fun x => x), q.blk h.y (fun x => x), Kd.R_below h.od q.bel, Kd.R_below h.on q.bel, h.ob, below_then h.b h.b.size q.bel⟩
theorem PrAt.growD {w : World} {B R Y : Nat} {time : Int} {xs : Array Value} {vd vn v1 : Value} {dd de : List Int} {nn : List NNode} {wr wz : World} (h : PrAt w B R Y time xs vd vn dd nn wr) (hg : wr.grownBy wz vd.ownBlock) (ho : (Kd.int .i64).R 3 wz w.heap.size Any_ v1 de) :
    PrMid w B R Y time xs vd vn v1 de nn wz := by
  obtain ⟨inner, own⟩ := Kd.R_own h.od
  exact ⟨grown_blk hg h.x (own_not_blk h.x own (by decide)), grown_blk hg h.r (own_not_blk h.r own (by decide)), grown_blk hg h.y (own_not_blk h.y own (by decide)), ho, Kd.R_drop (Kd.R_grown (Kd.R_apartR h.on h.od (by decide)) hg (fun k hk => hk.2)), h.ob, h.b.grown hg h.b.size (fun k hk => own_base own k hk)⟩
theorem PrMid.growN {w : World} {B R Y : Nat} {time : Int} {xs : Array Value} {vd vn v1 v2 : Value} {de : List Int} {nn ne : List NNode} {wr wz : World} (h : PrMid w B R Y time xs vd vn v1 de nn wr) (hRY : R ≠ Y) (hXY : w.heap.size < Y) (hg : wr.grownBy wz vn.ownBlock) (ho : k92.R 92 wz B Any_ v2 ne)
    (hat : v2.ownBlock = vn.ownBlock ∨ ∃ b, v2.ownBlock = some b ∧ wr.heap.size ≤ b) :
    PrAt w B R Y time xs v1 v2 de ne ((wz.setCell ⟨Y, 1, none⟩ v1).setCell ⟨Y, 2, none⟩ v2) := by
  obtain ⟨inner, own⟩ := Kd.R_own h.on
  have y2 := grown_blk hg h.y (own_not_blk h.y own (by decide))
  have y3 := y2.set 1 v1
  have o2 := Kd.R_drop (Kd.R_grown (Kd.R_apartR h.od h.on (by decide)) hg (fun k hk => hk.2))
  refine ⟨((grown_blk hg h.x (own_not_blk h.x own (by decide))).set_other (by show Y ≠ _; omega) _).set_other (by show Y ≠ _; omega) _, ((grown_blk hg h.r (own_not_blk h.r own (by decide))).set_other (by show Y ≠ _; omega) _).set_other (by show Y ≠ _; omega) _, by simpa using y3.set 2 v2, Kd.R_set (Kd.R_set o2 y2 (by decide) 1 v1) y3 (by decide) 2 v2, Kd.R_set (Kd.R_set ho y2 (by decide) 1 v1) y3 (by decide) 2 v2, fun k hk => ?_, ((h.b.grown hg h.b.size h.ob).setCell (by show w.heap.size ≤ Y; omega) _).setCell (by show w.heap.size ≤ Y; omega) _⟩
  rcases hat with e | ⟨b, e, hb⟩
  · exact h.ob k (by rw [← e]; exact hk)
  · rw [e] at hk; injection hk with hk; have := h.b.size; omega
end Go.Proofs.YtadepdeckapgcaaDoor
end

section
namespace Go.Proofs.YtadepdeckapgcaaDoor
open Go.RowKit Go.Proofs.YtadepdeckapgcaaDoorW.PrintWords Go.Proofs.YtadepdeckapgcaaDoorW.PrintLast Go.Proofs.YtadepdeckapgcaaDoorW.PrintMore PWitnessTells
set_option linter.unusedSimpArgs false
set_option linter.unusedVariables false
theorem wRChk (w : World) (time : Int) (A1 : Option Addr) (c1 : Nat) (d : List Int) (A2 : Option Addr) (c2 : Nat) (n : List NNode) (h1 : Kd.C (Kd.int .i64) w A1 d.length d) (h2 : d.length ≤ c1) (h3 : Kd.C k92 w A2 n.length n) (h4 : n.length ≤ c2) :
    Calls Tryd.prog 38 #[.agg #[.int .i64 time, .slice A1 d.length c1, .slice A2 n.length c2]] w fun e w' => e = .returned (.int .i64 (chkR time d n)) ∧ Quiet w w' := by
  obtain ⟨k, hk⟩ := (ev_rchk time d (C_len h1).2 n (bns_of h3)).rounds
  exact (logjamref36_Check.calls k time A1 c1 d A2 c2 n _ w h1 h2 h3 h4 hk).mono fun e w' ⟨he, hb⟩ => ⟨he, Quiet.of hb⟩
theorem wROf (w : World) (A : Option Addr) (c : Nat) (l : List Int) (hC : Kd.C (Kd.int .i64) w A l.length l) (hc : l.length ≤ c) :
    Calls Tryd.prog 28 #[.slice A l.length c] w fun e w' => e = .returned (.int .u64 (ofL 0 l : Nat)) ∧ Quiet w w' := by
  obtain ⟨k, hk⟩ := (ev_of l (C_len hC).2).rounds
  exact (logjamref02_Of.calls k A c l _ w hC hc hk).mono fun e w' ⟨he, m, hm⟩ => ⟨he, by rw [hm]; exact (Fr.refl _ _).drewN _⟩
theorem wRHas (w : World) (s : Nat) (hs : s < B64) (t : Int) : Calls Tryd.prog 29 #[.int .u64 s, .int .i64 t] w fun e w' => e = .returned (.bool (hasB s t)) ∧ Quiet w w' := by
  obtain ⟨k, hk⟩ := (ev_has s hs t).rounds
  exact (logjamref02_Has.calls k (s : Int) t _ w hk).mono fun e w' ⟨he, m, hm⟩ => ⟨he, by rw [hm]; exact (Fr.refl _ _).drewN _⟩
def PrRel (w : World) (B R Y : Nat) (time : Int) (xs : Array Value) (s : Nat) (d : List Int) (n : List NNode) (i : Value) (wr : World) : Prop :=
  ∃ (k : Nat) (vd vn : Value), k ≤ d.length ∧ i = .int .i64 k ∧ PrAt w B R Y time xs vd vn ((((d.zip n).take k).filter (fun q => hasB s q.1)).map Prod.fst) ((((d.zip n).take k).filter (fun q => hasB s q.1)).map Prod.snd) wr
def PrFork (w : World) (B R Y : Nat) (time : Int) (xs : Array Value) (vd vn : Value) (de : List Int) (nn : List NNode) (st : Bool) (B1 : Option Addr) (m d1 : Nat) (v40 v48 : Value) (wr : World) : Prop :=
  ∃ (g : Nat) (Ae : Option Addr) (ce : Nat), v40 = .slice Ae de.length ce ∧ v48 = .slice (some ⟨g, 0, none⟩) 1 1 ∧ Blk wr g #[.bool st, .slice B1 m d1] 92 ∧ PrMid w B R Y time xs vd vn v40 de nn wr
set_option maxRecDepth 100000 in
set_option maxHeartbeats 4000000 in
theorem rPart (w : World) (B : Nat) (hB : B ≤ w.heap.size) (time : Int) (A1 : Option Addr) (c1 : Nat) (d : List Int) (A2 : Option Addr) (c2 : Nat) (n : List NNode) (h1 : Kd.C (Kd.int .i64) w A1 d.length d) (h2 : d.length ≤ c1) (h3 : k92.R 92 w B Any_ (.slice A2 n.length c2) n)
    (A3 : Option Addr) (c3 : Nat) (l : List Int) (h5 : Kd.C (Kd.int .i64) w A3 l.length l) (h6 : l.length ≤ c3) (hnm : n.length ≤ 1000000) :
    Calls Tryd.prog 26 #[.agg #[.int .i64 time, .slice A1 d.length c1, .slice A2 n.length c2], .slice A3 l.length c3] w fun e w' =>
      ∃ v1 v2, e = .returned (.agg #[.int .i64 (partT time d n), v1, v2]) ∧ (Kd.int .i64).R 3 w' w.heap.size Any_ v1 (partD (ofL 0 l) time d n) ∧ k92.R 92 w' B Any_ v2 (partN (ofL 0 l) time d n) ∧ Below w.heap.size w w' := by
  have hm1 := h1.2.1
  obtain ⟨hn0, h4, hNC⟩ := Kd.R_reads' h3
  have hbx : ∀ o o' o'', Quiet w (((w.alloc o).alloc o').alloc o'') := fun o o' o'' => by (repeat (first | exact Fr.refl _ _ | assumption | (refine Fr.quiet ?_ (by assumption)) | refine Fr.quiet ?_ HF.out | refine Fr.quiet ?_ HF2.out | refine Fr.drew ?_ | refine Fr.drewN ?_ _ | refine Fr.alloc ?_ _ | refine Fr.setCell ?_ (.inr (by first | omega | (simp; done) | (simp; omega))) _))
  have CH := Lib.hid (fun o o' o'' => wRChk (((w.alloc o).alloc o').alloc o'') time A1 c1 d A2 c2 n (Kd.C_below h1 (hbx o o' o'').bel) h2 (Kd.C_below hNC (hbx o o' o'').bel) h4)
  have OF := Lib.hid (fun wz (q : Quiet w wz) => wROf wz A3 c3 l (Kd.C_below h5 q.bel) h6)
  have HD := Lib.hid h1; have HN := Lib.hid h3
  clear h1 h3 h5 hn0 hNC
  have HP0 : Hid (PrAt w B (w.heap.size + 1) (w.heap.size + 1 + 1) 0 #[.int .i64 time, .slice A1 d.length c1, .slice A2 n.length c2] (.slice none 0 0) (.slice none 0 0) [] [] (((w.alloc (.cells #[.int .i64 time, .slice A1 d.length c1, .slice A2 n.length c2] 25)).alloc (.cells #[.int .i64 0, .slice none 0 0, .slice none 0 0] 25)).alloc (.cells #[.int .i64 0, .slice none 0 0, .slice none 0 0] 25))) := Lib.hid (by
    refine ⟨((Blk.new _ _ _).alloc _).alloc _, ?_, ?_, Kd.R_nil _ _ _ _ _, Kd.R_nil _ _ _ _ _, fun k hk => by simp [Value.ownBlock] at hk, (((Below.refl _ _).alloc (Nat.le_refl _) _).alloc (by simp) _).alloc (by simp <;> omega) _⟩
    · have q := (Blk.new (w.alloc (.cells #[.int .i64 time, .slice A1 d.length c1, .slice A2 n.length c2] 25)) #[.int .i64 0, .slice none 0 0, .slice none 0 0] 25).alloc (.cells #[.int .i64 0, .slice none 0 0, .slice none 0 0] 25)
      simpa using q
    · have q := Blk.new ((w.alloc (.cells #[.int .i64 time, .slice A1 d.length c1, .slice A2 n.length c2] 25)).alloc (.cells #[.int .i64 0, .slice none 0 0, .slice none 0 0] 25)) #[.int .i64 0, .slice none 0 0, .slice none 0 0] 25
      simpa using q)
  by_cases c0 : chkR time d n = 0
  · have HLn := Lib.hid (chkR_zero _ _ _ c0).1
    have hdb : d.length ≤ 1000000 := by have := HLn.out; omega
    have ET : Hid (partT time d n = time) := Lib.hid (if_pos c0)
    have ED : Hid (partD (ofL 0 l) time d n = (partZ (ofL 0 l) d n).map Prod.fst) := Lib.hid (if_pos c0)
    have EN : Hid (partN (ofL 0 l) time d n = (partZ (ofL 0 l) d n).map Prod.snd) := Lib.hid (if_pos c0)
    have hsl := ofL_lt l 0 (by decide)
    have EZ : Hid (partZ (ofL 0 l) d n = ((d.zip n).take d.length).filter fun q => hasB (ofL 0 l) q.1) := Lib.hid (by have := HLn.out; rw [List.take_of_length_le (by simp; omega)]; rfl)
    rw [c0] at CH
    generalize ofL 0 l = s at *
    clear c0
    go_enter Tryd.func26, Tryd.ntmps26
    go_wp2_with fail
    refine (CH.out _ _ _).mono ?_
    rintro e w1 ⟨rfl, hq1⟩
    have HP1 := Lib.hid (HP0.out.quiet hq1)
    have HQ1 := Lib.hid ((hbx _ _ _).quiet hq1)
    have x0 := HP1.out.x.cell 0; have x1 := HP1.out.x.cell 1; have x2 := HP1.out.x.cell 2
    simp at x0 x1 x2
    clear hq1 HP0
    go_wp2_with fail
    refine (OF.out _ (by exact HQ1.out)).mono ?_
    rintro e w2 ⟨rfl, hq2⟩
    have HP2 := Lib.hid (HP1.out.quiet hq2)
    have z0 := HP2.out.x.cell 0; have z1 := HP2.out.x.cell 1; have z2 := HP2.out.x.cell 2
    have yc := HP2.out.y.cell 0; have yf := HP2.out.y.free 0
    simp at z0 z1 z2 yc
    clear hq2 HP1 HQ1 x0 x1 x2
    have hRY : w.heap.size + 1 ≠ w.heap.size + 1 + 1 := by omega
    have hYY : w.heap.size < w.heap.size + 1 + 1 := by omega
    have HP3 := Lib.hid (HP2.out.set0 (time := time) hRY hYY)
    go_wp2
    generalize w2.setCell ⟨w.heap.size + 1 + 1, 0, none⟩ (.int .i64 time) = w3 at *
    go_loopw [7] (fun i wr => PrRel w B (w.heap.size + 1) (w.heap.size + 1 + 1) time #[.int .i64 time, .slice A1 d.length c1, .slice A2 n.length c2] s d n i wr) (fun i _ => d.length - (intOf i).toNat)
    case atStart => exact ⟨0, _, _, Nat.zero_le _, rfl, HP3.out⟩
    case round =>
      obtain ⟨k, vd, vn, hk, rfl, hP⟩ := hrel
      obtain ⟨zk, hzk⟩ : ∃ z, z = ((d.zip n).take k).filter (fun q => hasB s q.1) := ⟨_, rfl⟩
      rw [← hzk] at hP
      have hzl : zk.length ≤ k := by rw [hzk]; exact Nat.le_trans (List.length_filter_le _ _) (List.length_take_le _ _)
      obtain ⟨da, hdd⟩ : ∃ z, z = zk.map Prod.fst := ⟨_, rfl⟩
      obtain ⟨nn, hnn⟩ : ∃ z, z = zk.map Prod.snd := ⟨_, rfl⟩
      rw [← hdd, ← hnn] at hP
      have hdl : da.length ≤ k := by rw [hdd, List.length_map]; exact hzl
      have hnl : nn.length ≤ k := by rw [hnn, List.length_map]; exact hzl
      obtain ⟨Ad, cd, rfl⟩ := Kd.R_slice hP.od
      obtain ⟨An, cn, rfl⟩ := Kd.R_slice hP.on
      have HZ := Lib.hid hzk; have HDD := Lib.hid hdd; have HNN := Lib.hid hnn; have HP4 := Lib.hid hP
      have y0 := hP.y.cell 0; have y1 := hP.y.cell 1; have y2 := hP.y.cell 2
      have v0 := hP.x.cell 0; have v1 := hP.x.cell 1; have v2 := hP.x.cell 2
      simp at y0 y1 y2 v0 v1 v2
      by_cases hlt : k < d.length
      · obtain ⟨ad, hA, h0w⟩ := at_ints HD.out k hlt
        have h0 := (hP.b.cell (World.block_lt_of_cell? w _ h0w)).trans h0w
        have ST := Lib.hid (part_step s d n k hlt HLn.out)
        have hkn : k < n.length := by have := HLn.out; omega
        obtain ⟨bd, B1, d1, hBd, u0, u1, hM⟩ := at_R HN.out k hkn
        generalize d.getD k 0 = t at *
        generalize n.getD k z92 = x at *
        subst hA hBd
        have HM := Lib.hid hM
        have HS : Hid (∀ w', Below w.heap.size w w' → Blk w' w.heap.size #[.int .i64 time, .slice (some ad) d.length c1, .slice (some bd) n.length c2] 25 → w'.cell? ⟨w.heap.size, 1, none⟩ = some (.slice (some ad) d.length c1) ∧ w'.cell? ⟨w.heap.size, 2, none⟩ = some (.slice (some bd) n.length c2) ∧ w'.cell? (ad.add k) = some (.int .i64 t) ∧ w'.cell? (bd.add (k * 2)) = some (.bool x.f0) ∧ w'.cell? ⟨(bd.add (k * 2)).block, (bd.add (k * 2)).off + 1, none⟩ = some (.slice B1 x.f1.length d1)) := by
          intro w' hbw hxw
          exact ⟨by simpa using hxw.cell 1, by simpa using hxw.cell 2, (hbw.cell (World.block_lt_of_cell? w _ h0w)).trans h0w, (hbw.cell (World.block_lt_of_cell? w _ u0)).trans u0, (hbw.cell (World.block_lt_of_cell? w _ u1)).trans u1⟩
        clear hP hzk hdd hnn hzl hM h0w u0 u1 z0 z1 z2 HP3 HP2 yf yc
        cases hb : hasB s t
        · rw [hb] at ST
          go_wp2_with (go_at_call 29; refine (wRHas _ _ hsl _).mono ?_; rintro e w' ⟨rfl, hf⟩; have HF := Lib.hid hf; clear hf)
          go_roundw
          case rel =>
            refine ⟨k + 1, .slice Ad da.length cd, .slice An nn.length cn, by omega, by go_num, ?_⟩
            rw [ST.out, ← HZ.out]
            simp only [Bool.false_eq_true, if_false, List.append_nil]
            rw [← HDD.out, ← HNN.out]
            exact HP4.out.quiet HF.out
          case measure => simp [intOf]; omega
        · rw [hb, if_pos rfl] at ST
          go_wp2_with (go_at_call 29; refine (wRHas _ _ hsl _).mono ?_; rintro e w6 ⟨rfl, hf⟩; have HP5 := Lib.hid (HP4.out.quiet hf); clear hf)
          clear y0 y1 y2 v0 v1 v2
          have y1 := HP5.out.y.cell 1; have y2 := HP5.out.y.cell 2
          simp at y1 y2
          have hY6 : w.heap.size + 1 + 1 < w6.heap.size := HP5.out.y.lt
          have hYle : w.heap.size ≤ w.heap.size + 1 + 1 := by omega
          obtain ⟨de, hde⟩ : ∃ z, z = da ++ [t] := ⟨_, rfl⟩
          have HDE := Lib.hid hde
          have H7 : Hid (∀ W, Below w.heap.size w W → Blk W w.heap.size #[.int .i64 time, .slice (some ad) d.length c1, .slice (some bd) n.length c2] 25 → Blk W (w.heap.size + 1 + 1) #[.int .i64 time, .slice Ad da.length cd, .slice An nn.length cn] 25 →
              W.cell? ⟨w.heap.size + 1 + 1, 1, none⟩ = some (.slice Ad da.length cd) ∧ W.cell? ⟨w.heap.size, 1, none⟩ = some (.slice (some ad) d.length c1) ∧ W.cell? (ad.add k) = some (.int .i64 t) ∧ W.cell? ⟨w.heap.size + 1 + 1, 2, none⟩ = some (.slice An nn.length cn) ∧ W.cell? ⟨w.heap.size, 2, none⟩ = some (.slice (some bd) n.length c2) ∧ W.cell? (bd.add (k * 2)) = some (.bool x.f0) ∧ W.cell? ⟨(bd.add (k * 2)).block, (bd.add (k * 2)).off + 1, none⟩ = some (.slice B1 x.f1.length d1)) := Lib.hid (by
            intro W hb hx hy
            obtain ⟨q1, q2, q3, q4, q5⟩ := HS.out W hb hx
            exact ⟨by simpa using hy.cell 1, q1, q3, by simpa using hy.cell 2, q2, q4, q5⟩)
          have HPc := Lib.hid (HP5.out.quiet (Fr.drew (Fr.refl _ w6)))
          have HJ := Lib.hid (H7.out _ HPc.out.b HPc.out.x HPc.out.y)
          clear hde y1 y2 HP5
          go_wp2_with fail
          refine start_ (n := 22) (S := fun w' => w'.cell? ⟨w.heap.size + 1 + 1, 1, none⟩ = some (.slice Ad da.length cd) ∧ w'.cell? ⟨w.heap.size, 1, none⟩ = some (.slice (some ad) d.length c1) ∧ w'.cell? (ad.add k) = some (.int .i64 t) ∧ w'.cell? ⟨w.heap.size + 1 + 1, 2, none⟩ = some (.slice An nn.length cn) ∧ w'.cell? ⟨w.heap.size, 2, none⟩ = some (.slice (some bd) n.length c2) ∧ w'.cell? (bd.add (k * 2)) = some (.bool x.f0) ∧ w'.cell? ⟨(bd.add (k * 2)).block, (bd.add (k * 2)).off + 1, none⟩ = some (.slice B1 x.f1.length d1)) (ds := [19, 21]) #[false, false, false, false, false, false, false, false, false, false, false, false, false, false, false, false, false, false, false, false, false, false] (by kernel_rfl) rfl rfl ⟨HJ.out.1, HJ.out.2.1, HJ.out.2.2.1, HJ.out.2.2.2.1, HJ.out.2.2.2.2.1, HJ.out.2.2.2.2.2.1, HJ.out.2.2.2.2.2.2⟩ (fun hHeld => ?_)
          generalize w6.drew = wA at HPc HJ hHeld ⊢
          refine pure_ (i := 0) (N := some 32) (v := ?_) (a' := ?_) #[true, false, false, false, false, false, false, false, false, false, false, false, false, false, false, false, false, false, false, false, false, false] rfl rfl (by kernel_rfl) (fun _ _ _ h => h) (Or.inl ⟨by rfl, ?_⟩) ?_ ?_
          rotate_left
          · intro w'
            go_simp
            with_reducible rfl
          rotate_left
          · simp only [Act.put, List.setIfInBounds_toArray, List.set_cons_zero, List.set_cons_succ, i64_w, i32_w]
            rfl
          refine pure_ (i := 2) (N := some 34) (v := ?_) (a' := ?_) #[true, false, true, false, false, false, false, false, false, false, false, false, false, false, false, false, false, false, false, false, false, false] rfl rfl (by kernel_rfl) (fun _ _ _ h => h) (Or.inl ⟨by rfl, ?_⟩) ?_ ?_
          rotate_left
          · intro w'
            go_simp
            with_reducible rfl
          rotate_left
          · simp only [Act.put, List.setIfInBounds_toArray, List.set_cons_zero, List.set_cons_succ, i64_w, i32_w]
            rfl
          refine pure_ (i := 4) (N := some 36) (v := ?_) (a' := ?_) #[true, false, true, false, true, false, false, false, false, false, false, false, false, false, false, false, false, false, false, false, false, false] rfl rfl (by kernel_rfl) (fun _ _ _ h => h) (Or.inl ⟨by rfl, ?_⟩) ?_ ?_
          rotate_left
          · intro w'
            go_simp
            with_reducible rfl
          rotate_left
          · simp only [Act.put, List.setIfInBounds_toArray, List.set_cons_zero, List.set_cons_succ, i64_w, i32_w]
            rfl
          refine pure_ (i := 9) (N := some 41) (v := ?_) (a' := ?_) #[true, false, true, false, true, false, false, false, false, true, false, false, false, false, false, false, false, false, false, false, false, false] rfl rfl (by kernel_rfl) (fun _ _ _ h => h) (Or.inl ⟨by rfl, ?_⟩) ?_ ?_
          rotate_left
          · intro w'
            go_simp
            with_reducible rfl
          rotate_left
          · simp only [Act.put, List.setIfInBounds_toArray, List.set_cons_zero, List.set_cons_succ, i64_w, i32_w]
            rfl
          refine pure_ (i := 11) (N := some 43) (v := ?_) (a' := ?_) #[true, false, true, false, true, false, false, false, false, true, false, true, false, false, false, false, false, false, false, false, false, false] rfl rfl (by kernel_rfl) (fun _ _ _ h => h) (Or.inl ⟨by rfl, ?_⟩) ?_ ?_
          rotate_left
          · intro w'
            go_simp
            with_reducible rfl
          rotate_left
          · simp only [Act.put, List.setIfInBounds_toArray, List.set_cons_zero, List.set_cons_succ, i64_w, i32_w]
            rfl
          refine pure_ (i := 13) (N := some 45) (v := ?_) (a' := ?_) #[true, false, true, false, true, false, false, false, false, true, false, true, false, true, false, false, false, false, false, false, false, false] rfl rfl (by kernel_rfl) (fun _ _ _ h => h) (Or.inl ⟨by rfl, ?_⟩) ?_ ?_
          rotate_left
          · intro w'
            go_simp
            with_reducible rfl
          rotate_left
          · simp only [Act.put, List.setIfInBounds_toArray, List.set_cons_zero, List.set_cons_succ, i64_w, i32_w]
            rfl
          refine take_ (i := 1) (N := some 33) (v := ?_) (a' := ?_) #[true, true, true, false, true, false, false, false, false, true, false, true, false, true, false, false, false, false, false, false, false, false] rfl rfl (by kernel_rfl) (fun _ _ _ h => h) (Or.inl ⟨by rfl, ?_⟩) hHeld ?_ ?_
          rotate_left
          · rintro w' ⟨s0, s1, s2, s3, s4, s5, s6⟩
            go_simp
            with_reducible rfl
          rotate_left
          · simp only [Act.put, List.setIfInBounds_toArray, List.set_cons_zero, List.set_cons_succ, i64_w, i32_w]
            rfl
          refine take_ (i := 3) (N := some 35) (v := ?_) (a' := ?_) #[true, true, true, true, true, false, false, false, false, true, false, true, false, true, false, false, false, false, false, false, false, false] rfl rfl (by kernel_rfl) (fun _ _ _ h => h) (Or.inl ⟨by rfl, ?_⟩) hHeld ?_ ?_
          rotate_left
          · rintro w' ⟨s0, s1, s2, s3, s4, s5, s6⟩
            go_simp
            with_reducible rfl
          rotate_left
          · simp only [Act.put, List.setIfInBounds_toArray, List.set_cons_zero, List.set_cons_succ, i64_w, i32_w]
            rfl
          refine pure_ (i := 5) (N := some 37) (v := ?_) (a' := ?_) #[true, true, true, true, true, true, false, false, false, true, false, true, false, true, false, false, false, false, false, false, false, false] rfl rfl (by kernel_rfl) (fun _ _ _ h => h) (Or.inl ⟨by rfl, ?_⟩) ?_ ?_
          rotate_left
          · intro w'
            go_simp
            with_reducible rfl
          rotate_left
          · simp only [Act.put, List.setIfInBounds_toArray, List.set_cons_zero, List.set_cons_succ, i64_w, i32_w]
            rfl
          refine take_ (i := 6) (N := some 38) (v := ?_) (a' := ?_) #[true, true, true, true, true, true, true, false, false, true, false, true, false, true, false, false, false, false, false, false, false, false] rfl rfl (by kernel_rfl) (fun _ _ _ h => h) (Or.inl ⟨by rfl, ?_⟩) hHeld ?_ ?_
          rotate_left
          · rintro w' ⟨s0, s1, s2, s3, s4, s5, s6⟩
            go_simp
            with_reducible rfl
          rotate_left
          · simp only [Act.put, List.setIfInBounds_toArray, List.set_cons_zero, List.set_cons_succ, i64_w, i32_w]
            rfl
          refine take_ (i := 10) (N := some 42) (v := ?_) (a' := ?_) #[true, true, true, true, true, true, true, false, false, true, true, true, false, true, false, false, false, false, false, false, false, false] rfl rfl (by kernel_rfl) (fun _ _ _ h => h) (Or.inl ⟨by rfl, ?_⟩) hHeld ?_ ?_
          rotate_left
          · rintro w' ⟨s0, s1, s2, s3, s4, s5, s6⟩
            go_simp
            with_reducible rfl
          rotate_left
          · simp only [Act.put, List.setIfInBounds_toArray, List.set_cons_zero, List.set_cons_succ, i64_w, i32_w]
            rfl
          refine take_ (i := 12) (N := some 44) (v := ?_) (a' := ?_) #[true, true, true, true, true, true, true, false, false, true, true, true, true, true, false, false, false, false, false, false, false, false] rfl rfl (by kernel_rfl) (fun _ _ _ h => h) (Or.inl ⟨by rfl, ?_⟩) hHeld ?_ ?_
          rotate_left
          · rintro w' ⟨s0, s1, s2, s3, s4, s5, s6⟩
            go_simp
            with_reducible rfl
          rotate_left
          · simp only [Act.put, List.setIfInBounds_toArray, List.set_cons_zero, List.set_cons_succ, i64_w, i32_w]
            rfl
          refine pure_ (i := 14) (N := some 46) (v := ?_) (a' := ?_) #[true, true, true, true, true, true, true, false, false, true, true, true, true, true, true, false, false, false, false, false, false, false] rfl rfl (by kernel_rfl) (fun _ _ _ h => h) (Or.inl ⟨by rfl, ?_⟩) ?_ ?_
          rotate_left
          · intro w'
            go_simp
            with_reducible rfl
          rotate_left
          · simp only [Act.put, List.setIfInBounds_toArray, List.set_cons_zero, List.set_cons_succ, i64_w, i32_w]
            rfl
          refine take_ (i := 15) (N := some 47) (v := ?_) (a' := ?_) #[true, true, true, true, true, true, true, false, false, true, true, true, true, true, true, true, false, false, false, false, false, false] rfl rfl (by kernel_rfl) (fun _ _ _ h => h) (Or.inl ⟨by rfl, ?_⟩) hHeld ?_ ?_
          rotate_left
          · rintro w' ⟨s0, s1, s2, s3, s4, s5, s6⟩
            go_simp
            with_reducible rfl
          rotate_left
          · simp only [Act.put, List.setIfInBounds_toArray, List.set_cons_zero, List.set_cons_succ, i64_w, i32_w]
            rfl
          refine join_ (σ := Value × Value × Value) 4 #[true, true, true, true, true, true, true, true, true, true, true, true, true, true, true, true, true, false, true, false, false, false] (fun s => [(39, s.1), (40, s.2.1), (48, s.2.2), (50, .pointer (some ⟨w.heap.size + 1 + 1, 1, none⟩))]) (fun s w' => PrFork w B (w.heap.size + 1) (w.heap.size + 1 + 1) time #[.int .i64 time, .slice (some ad) d.length c1, .slice (some bd) n.length c2] (.slice Ad da.length cd) (.slice An nn.length cn) de nn x.f0 B1 x.f1.length d1 s.2.1 s.2.2 w') ?_ ?_
          rotate_left
          · intro hCont
            refine two_ (i := 7) (j := 16) (Ni := some 39) (Nj := some 48) #[true, true, true, true, true, true, true, true, false, true, true, true, true, true, true, true, false, false, false, false, false, false] #[true, true, true, true, true, true, true, false, false, true, true, true, true, true, true, true, true, false, false, false, false, false] rfl rfl rfl rfl (by kernel_rfl) (by decide) (by decide) (fun K hK => ?_) (fun K hK => ?_)
            · skip
              refine value_ (w1 := ?_) (v := ?_) (by rfl) rfl ?_ ?_
              rotate_left 2
              · go_simp
                constructor
                · rfl
                · rfl
              have HBn : Hid (Blk (wA.alloc (.cells #[.int .i64 t] 3)) (wA.heap.size) #[.int .i64 t] 3) := Lib.hid (by simpa using Blk.new wA #[.int .i64 t] 3)
              have HPn := Lib.hid (HPc.out.quiet (Fr.alloc (Fr.refl _ wA) (.cells #[.int .i64 t] 3)))
              clear HPc HJ
              have HPc := HPn
              have HB7 := HBn
              clear HPn HBn
              have HJ := Lib.hid (H7.out _ HPc.out.b HPc.out.x HPc.out.y)
              refine hK.out _ _ ⟨HJ.out.1, HJ.out.2.1, HJ.out.2.2.1, HJ.out.2.2.2.1, HJ.out.2.2.2.2.1, HJ.out.2.2.2.2.2.1, HJ.out.2.2.2.2.2.2⟩ (fun hHeld => ?_)
              clear hK K
              refine norm_ (a' := ?_) ?_ ?_
              rotate_left
              · show Act.put _ (some 39) _ = _
                simp only [Act.put, List.setIfInBounds_toArray, List.set_cons_zero, List.set_cons_succ, i64_w, i32_w]
                rfl
              refine two_ (i := 8) (j := 16) (Ni := some 40) (Nj := some 48) #[true, true, true, true, true, true, true, true, true, true, true, true, true, true, true, true, false, false, false, false, false, false] #[true, true, true, true, true, true, true, true, false, true, true, true, true, true, true, true, true, false, false, false, false, false] rfl rfl rfl rfl (by kernel_rfl) (by decide) (by decide) (fun K hK => ?_) (fun K hK => ?_)
              · skip
                refine rAppAt (Kd.int .i64) (w0 := w) w.heap.size (by rfl) (.tmp 33) (.tmp 39) 22 3 (.int .i64 0) 8 (by rfl) Tryd.underlying22 infoInt rfl (by decide) (by decide) (.slice Ad da.length cd) da t [.int .i64 t] _ (by rfl) (by rfl) HB7.out rfl rfl (by intro q hq; simp [Kd.int, Kd.scalar] at hq) HPc.out.od HPc.out.b HPc.out.b.size (by omega) ?_
                intro v1 w8 ho _ hg _
                rw [← HDE.out] at ho
                obtain ⟨Ae, ce, hve⟩ := Kd.R_slice ho
                subst hve
                have HPn := Lib.hid (PrAt.growD HPc.out hg ho)
                clear HPc HJ HB7 ho hg
                have HPc := HPn
                clear HPn
                have HJ := Lib.hid (H7.out _ HPc.out.b HPc.out.x HPc.out.y)
                refine hK.out _ _ ⟨HJ.out.1, HJ.out.2.1, HJ.out.2.2.1, HJ.out.2.2.2.1, HJ.out.2.2.2.2.1, HJ.out.2.2.2.2.2.1, HJ.out.2.2.2.2.2.2⟩ (fun hHeld => ?_)
                clear hK K
                refine norm_ (a' := ?_) ?_ ?_
                rotate_left
                · show Act.put _ (some 40) _ = _
                  simp only [Act.put, List.setIfInBounds_toArray, List.set_cons_zero, List.set_cons_succ, i64_w, i32_w]
                  rfl
                refine pure_ (i := 18) (N := some 50) (v := ?_) (a' := ?_) #[true, true, true, true, true, true, true, true, true, true, true, true, true, true, true, true, false, false, true, false, false, false] rfl rfl (by kernel_rfl) (fun _ _ _ h => h) (Or.inl ⟨by rfl, ?_⟩) ?_ ?_
                rotate_left
                · intro w'
                  go_simp
                  with_reducible rfl
                rotate_left
                · simp only [Act.put, List.setIfInBounds_toArray, List.set_cons_zero, List.set_cons_succ, i64_w, i32_w]
                  rfl
                refine one_ (i := 16) (N := some 48) #[true, true, true, true, true, true, true, true, true, true, true, true, true, true, true, true, true, false, true, false, false, false] rfl rfl (by kernel_rfl) (by decide) (fun K hK => ?_)
                refine value_ (w1 := ?_) (v := ?_) (by rfl) rfl ?_ ?_
                rotate_left 2
                · go_simp
                  constructor
                  · rfl
                  · rfl
                have HBn : Hid (Blk (w8.alloc (.cells #[.bool x.f0, .slice B1 x.f1.length d1] 92)) (w8.heap.size) #[.bool x.f0, .slice B1 x.f1.length d1] 92) := Lib.hid (by simpa using Blk.new w8 #[.bool x.f0, .slice B1 x.f1.length d1] 92)
                have HPn := Lib.hid (HPc.out.quiet (Fr.alloc (Fr.refl _ w8) (.cells #[.bool x.f0, .slice B1 x.f1.length d1] 92)))
                clear HPc HJ
                have HPc := HPn
                have HB16 := HBn
                clear HPn HBn
                have HJ := Lib.hid (H7.out _ HPc.out.b HPc.out.x HPc.out.y)
                refine hK.out _ _ ⟨HJ.out.1, HJ.out.2.1, HJ.out.2.2.1, HJ.out.2.2.2.1, HJ.out.2.2.2.2.1, HJ.out.2.2.2.2.2.1, HJ.out.2.2.2.2.2.2⟩ (fun hHeld => ?_)
                clear hK K
                refine norm_ (a' := ?_) ?_ ?_
                rotate_left
                · show Act.put _ (some 48) _ = _
                  simp only [Act.put, List.setIfInBounds_toArray, List.set_cons_zero, List.set_cons_succ, i64_w, i32_w]
                  rfl
                exact norm_ (by simp only [putAll, Act.put, List.setIfInBounds_toArray, List.set_cons_zero, List.set_cons_succ]) (hCont (.slice (some ⟨wA.heap.size, 0, none⟩) 1 1, .slice Ae de.length ce, .slice (some ⟨w8.heap.size, 0, none⟩) 1 1) _ ⟨_, Ae, ce, rfl, rfl, HB16.out, HPc.out⟩)
              · skip
                refine value_ (w1 := ?_) (v := ?_) (by rfl) rfl ?_ ?_
                rotate_left 2
                · go_simp
                  constructor
                  · rfl
                  · rfl
                have HBn : Hid (Blk ((wA.alloc (.cells #[.int .i64 t] 3)).alloc (.cells #[.bool x.f0, .slice B1 x.f1.length d1] 92)) (wA.heap.size + 1) #[.bool x.f0, .slice B1 x.f1.length d1] 92) := Lib.hid (by simpa using Blk.new (wA.alloc (.cells #[.int .i64 t] 3)) #[.bool x.f0, .slice B1 x.f1.length d1] 92)
                have HPn := Lib.hid (HPc.out.quiet (Fr.alloc (Fr.refl _ (wA.alloc (.cells #[.int .i64 t] 3))) (.cells #[.bool x.f0, .slice B1 x.f1.length d1] 92)))
                have HB7n := Lib.hid (HB7.out.alloc (.cells #[.bool x.f0, .slice B1 x.f1.length d1] 92))
                clear HB7
                have HB7 := HB7n
                clear HB7n
                clear HPc HJ
                have HPc := HPn
                have HB16 := HBn
                clear HPn HBn
                have HJ := Lib.hid (H7.out _ HPc.out.b HPc.out.x HPc.out.y)
                refine hK.out _ _ ⟨HJ.out.1, HJ.out.2.1, HJ.out.2.2.1, HJ.out.2.2.2.1, HJ.out.2.2.2.2.1, HJ.out.2.2.2.2.2.1, HJ.out.2.2.2.2.2.2⟩ (fun hHeld => ?_)
                clear hK K
                refine norm_ (a' := ?_) ?_ ?_
                rotate_left
                · show Act.put _ (some 48) _ = _
                  simp only [Act.put, List.setIfInBounds_toArray, List.set_cons_zero, List.set_cons_succ, i64_w, i32_w]
                  rfl
                refine one_ (i := 8) (N := some 40) #[true, true, true, true, true, true, true, true, true, true, true, true, true, true, true, true, true, false, false, false, false, false] rfl rfl (by kernel_rfl) (by decide) (fun K hK => ?_)
                refine rAppAt (Kd.int .i64) (w0 := w) w.heap.size (by rfl) (.tmp 33) (.tmp 39) 22 3 (.int .i64 0) 8 (by rfl) Tryd.underlying22 infoInt rfl (by decide) (by decide) (.slice Ad da.length cd) da t [.int .i64 t] _ (by rfl) (by rfl) HB7.out rfl rfl (by intro q hq; simp [Kd.int, Kd.scalar] at hq) HPc.out.od HPc.out.b HPc.out.b.size (by omega) ?_
                intro v1 w8 ho _ hg _
                rw [← HDE.out] at ho
                obtain ⟨Ae, ce, hve⟩ := Kd.R_slice ho
                subst hve
                have HPn := Lib.hid (PrAt.growD HPc.out hg ho)
                have HB16n := Lib.hid (grown_blk hg HB16.out (own_not_blk HB16.out (Kd.R_own HPc.out.od).choose_spec (by decide)))
                clear HB16
                have HB16 := HB16n
                clear HB16n
                clear HPc HJ HB7 ho hg
                have HPc := HPn
                clear HPn
                have HJ := Lib.hid (H7.out _ HPc.out.b HPc.out.x HPc.out.y)
                refine hK.out _ _ ⟨HJ.out.1, HJ.out.2.1, HJ.out.2.2.1, HJ.out.2.2.2.1, HJ.out.2.2.2.2.1, HJ.out.2.2.2.2.2.1, HJ.out.2.2.2.2.2.2⟩ (fun hHeld => ?_)
                clear hK K
                refine norm_ (a' := ?_) ?_ ?_
                rotate_left
                · show Act.put _ (some 40) _ = _
                  simp only [Act.put, List.setIfInBounds_toArray, List.set_cons_zero, List.set_cons_succ, i64_w, i32_w]
                  rfl
                refine pure_ (i := 18) (N := some 50) (v := ?_) (a' := ?_) #[true, true, true, true, true, true, true, true, true, true, true, true, true, true, true, true, true, false, true, false, false, false] rfl rfl (by kernel_rfl) (fun _ _ _ h => h) (Or.inl ⟨by rfl, ?_⟩) ?_ ?_
                rotate_left
                · intro w'
                  go_simp
                  with_reducible rfl
                rotate_left
                · simp only [Act.put, List.setIfInBounds_toArray, List.set_cons_zero, List.set_cons_succ, i64_w, i32_w]
                  rfl
                exact norm_ (by simp only [putAll, Act.put, List.setIfInBounds_toArray, List.set_cons_zero, List.set_cons_succ]) (hCont (.slice (some ⟨wA.heap.size, 0, none⟩) 1 1, .slice Ae de.length ce, .slice (some ⟨wA.heap.size + 1, 0, none⟩) 1 1) _ ⟨_, Ae, ce, rfl, rfl, HB16.out, HPc.out⟩)
            · skip
              refine value_ (w1 := ?_) (v := ?_) (by rfl) rfl ?_ ?_
              rotate_left 2
              · go_simp
                constructor
                · rfl
                · rfl
              have HBn : Hid (Blk (wA.alloc (.cells #[.bool x.f0, .slice B1 x.f1.length d1] 92)) (wA.heap.size) #[.bool x.f0, .slice B1 x.f1.length d1] 92) := Lib.hid (by simpa using Blk.new wA #[.bool x.f0, .slice B1 x.f1.length d1] 92)
              have HPn := Lib.hid (HPc.out.quiet (Fr.alloc (Fr.refl _ wA) (.cells #[.bool x.f0, .slice B1 x.f1.length d1] 92)))
              clear HPc HJ
              have HPc := HPn
              have HB16 := HBn
              clear HPn HBn
              have HJ := Lib.hid (H7.out _ HPc.out.b HPc.out.x HPc.out.y)
              refine hK.out _ _ ⟨HJ.out.1, HJ.out.2.1, HJ.out.2.2.1, HJ.out.2.2.2.1, HJ.out.2.2.2.2.1, HJ.out.2.2.2.2.2.1, HJ.out.2.2.2.2.2.2⟩ (fun hHeld => ?_)
              clear hK K
              refine norm_ (a' := ?_) ?_ ?_
              rotate_left
              · show Act.put _ (some 48) _ = _
                simp only [Act.put, List.setIfInBounds_toArray, List.set_cons_zero, List.set_cons_succ, i64_w, i32_w]
                rfl
              refine one_ (i := 7) (N := some 39) #[true, true, true, true, true, true, true, true, false, true, true, true, true, true, true, true, true, false, false, false, false, false] rfl rfl (by kernel_rfl) (by decide) (fun K hK => ?_)
              refine value_ (w1 := ?_) (v := ?_) (by rfl) rfl ?_ ?_
              rotate_left 2
              · go_simp
                constructor
                · rfl
                · rfl
              have HBn : Hid (Blk ((wA.alloc (.cells #[.bool x.f0, .slice B1 x.f1.length d1] 92)).alloc (.cells #[.int .i64 t] 3)) (wA.heap.size + 1) #[.int .i64 t] 3) := Lib.hid (by simpa using Blk.new (wA.alloc (.cells #[.bool x.f0, .slice B1 x.f1.length d1] 92)) #[.int .i64 t] 3)
              have HPn := Lib.hid (HPc.out.quiet (Fr.alloc (Fr.refl _ (wA.alloc (.cells #[.bool x.f0, .slice B1 x.f1.length d1] 92))) (.cells #[.int .i64 t] 3)))
              have HB16n := Lib.hid (HB16.out.alloc (.cells #[.int .i64 t] 3))
              clear HB16
              have HB16 := HB16n
              clear HB16n
              clear HPc HJ
              have HPc := HPn
              have HB7 := HBn
              clear HPn HBn
              have HJ := Lib.hid (H7.out _ HPc.out.b HPc.out.x HPc.out.y)
              refine hK.out _ _ ⟨HJ.out.1, HJ.out.2.1, HJ.out.2.2.1, HJ.out.2.2.2.1, HJ.out.2.2.2.2.1, HJ.out.2.2.2.2.2.1, HJ.out.2.2.2.2.2.2⟩ (fun hHeld => ?_)
              clear hK K
              refine norm_ (a' := ?_) ?_ ?_
              rotate_left
              · show Act.put _ (some 39) _ = _
                simp only [Act.put, List.setIfInBounds_toArray, List.set_cons_zero, List.set_cons_succ, i64_w, i32_w]
                rfl
              refine one_ (i := 8) (N := some 40) #[true, true, true, true, true, true, true, true, true, true, true, true, true, true, true, true, true, false, false, false, false, false] rfl rfl (by kernel_rfl) (by decide) (fun K hK => ?_)
              refine rAppAt (Kd.int .i64) (w0 := w) w.heap.size (by rfl) (.tmp 33) (.tmp 39) 22 3 (.int .i64 0) 8 (by rfl) Tryd.underlying22 infoInt rfl (by decide) (by decide) (.slice Ad da.length cd) da t [.int .i64 t] _ (by rfl) (by rfl) HB7.out rfl rfl (by intro q hq; simp [Kd.int, Kd.scalar] at hq) HPc.out.od HPc.out.b HPc.out.b.size (by omega) ?_
              intro v1 w8 ho _ hg _
              rw [← HDE.out] at ho
              obtain ⟨Ae, ce, hve⟩ := Kd.R_slice ho
              subst hve
              have HPn := Lib.hid (PrAt.growD HPc.out hg ho)
              have HB16n := Lib.hid (grown_blk hg HB16.out (own_not_blk HB16.out (Kd.R_own HPc.out.od).choose_spec (by decide)))
              clear HB16
              have HB16 := HB16n
              clear HB16n
              clear HPc HJ HB7 ho hg
              have HPc := HPn
              clear HPn
              have HJ := Lib.hid (H7.out _ HPc.out.b HPc.out.x HPc.out.y)
              refine hK.out _ _ ⟨HJ.out.1, HJ.out.2.1, HJ.out.2.2.1, HJ.out.2.2.2.1, HJ.out.2.2.2.2.1, HJ.out.2.2.2.2.2.1, HJ.out.2.2.2.2.2.2⟩ (fun hHeld => ?_)
              clear hK K
              refine norm_ (a' := ?_) ?_ ?_
              rotate_left
              · show Act.put _ (some 40) _ = _
                simp only [Act.put, List.setIfInBounds_toArray, List.set_cons_zero, List.set_cons_succ, i64_w, i32_w]
                rfl
              refine pure_ (i := 18) (N := some 50) (v := ?_) (a' := ?_) #[true, true, true, true, true, true, true, true, true, true, true, true, true, true, true, true, true, false, true, false, false, false] rfl rfl (by kernel_rfl) (fun _ _ _ h => h) (Or.inl ⟨by rfl, ?_⟩) ?_ ?_
              rotate_left
              · intro w'
                go_simp
                with_reducible rfl
              rotate_left
              · simp only [Act.put, List.setIfInBounds_toArray, List.set_cons_zero, List.set_cons_succ, i64_w, i32_w]
                rfl
              exact norm_ (by simp only [putAll, Act.put, List.setIfInBounds_toArray, List.set_cons_zero, List.set_cons_succ]) (hCont (.slice (some ⟨wA.heap.size + 1, 0, none⟩) 1 1, .slice Ae de.length ce, .slice (some ⟨wA.heap.size, 0, none⟩) 1 1) _ ⟨_, Ae, ce, rfl, rfl, HB16.out, HPc.out⟩)
          rintro ⟨v39, v40, v48⟩ w9 ⟨g16, Ae, ce, e1, e2, hB16, hPM⟩
          dsimp only at e1 e2
          subst e1 e2
          have HB16 := Lib.hid hB16
          have HPc := Lib.hid hPM
          clear hB16 hPM HJ
          have HJ := Lib.hid (H7.out _ HPc.out.b HPc.out.x HPc.out.y)
          have hHeld := HJ.out
          refine norm_ (a' := ?_) ?_ ?_
          rotate_left
          · simp only [putAll, Act.put, List.setIfInBounds_toArray, List.set_cons_zero, List.set_cons_succ]
            rfl
          refine one_ (i := 17) (N := some 49) #[true, true, true, true, true, true, true, true, true, true, true, true, true, true, true, true, true, true, true, false, false, false] rfl rfl (by kernel_rfl) (by decide) (fun K hK => ?_)
          refine rAppAt k92 (w0 := w) B (by rfl) (.tmp 42) (.tmp 48) 23 92 _ 32 (by rfl) Tryd.underlying23 infoNode rfl (by decide) (by decide) (.slice An nn.length cn) nn x [.bool x.f0, .slice B1 x.f1.length d1] g16 (by rfl) (by rfl) HB16.out rfl (Kd.M_below HM.out HPc.out.b) (by decide) HPc.out.on (HPc.out.b.mono hB) (Nat.le_trans hB HPc.out.b.size) (by omega) ?_
          intro v9 w10 ho9 _ hg9 hat9
          obtain ⟨ne, hne⟩ : ∃ z, z = nn ++ [x] := ⟨_, rfl⟩
          rw [← hne] at ho9
          obtain ⟨A9, c9, hv9⟩ := Kd.R_slice ho9
          subst hv9
          have HNE := Lib.hid hne
          have HP9 := Lib.hid (PrMid.growN HPc.out hRY hYY hg9 ho9 hat9)
          have q2 := grown_blk hg9 HPc.out.y (own_not_blk HPc.out.y (Kd.R_own HPc.out.on).choose_spec (by decide))
          have qx := grown_blk hg9 HPc.out.x (own_not_blk HPc.out.x (Kd.R_own HPc.out.on).choose_spec (by decide))
          have qb := HPc.out.b.grown hg9 HPc.out.b.size HPc.out.ob
          clear HJ
          have HJ := Lib.hid (H7.out _ qb qx q2)
          have Q2 := Lib.hid q2
          clear hne ho9 hg9 hat9 q2 qx qb
          refine hK.out _ _ ⟨HJ.out.1, HJ.out.2.1, HJ.out.2.2.1, HJ.out.2.2.2.1, HJ.out.2.2.2.2.1, HJ.out.2.2.2.2.2.1, HJ.out.2.2.2.2.2.2⟩ (fun hHeld => ?_)
          clear hK K
          refine norm_ (a' := ?_) ?_ ?_
          rotate_left
          · show Act.put _ (some 49) _ = _
            simp only [Act.put, List.setIfInBounds_toArray, List.set_cons_zero, List.set_cons_succ, i64_w, i32_w]
            rfl
          refine last_ (i := 19) (N := none) #[true, true, true, true, true, true, true, true, true, true, true, true, true, true, true, true, true, true, true, true, false, false] rfl rfl (by kernel_rfl) (by decide) (fun K hK => ?_)
          have qc1 := Q2.out.cell 1
          have qf1 := Q2.out.free 1
          simp at qc1
          refine skip_ (w1 := ?_) (by rfl) rfl ?_ ?_
          rotate_left
          · go_simp
            rfl
          refine hK.out _ _ ?_
          clear hK K
          refine pure_ (i := 20) (N := some 51) (v := ?_) (a' := ?_) #[true, true, true, true, true, true, true, true, true, true, true, true, true, true, true, true, true, true, true, true, true, false] rfl rfl (by kernel_rfl) (fun _ _ _ h => h) (Or.inl ⟨by rfl, ?_⟩) ?_ ?_
          rotate_left
          · intro w'
            go_simp
            with_reducible rfl
          rotate_left
          · simp only [Act.put, List.setIfInBounds_toArray, List.set_cons_zero, List.set_cons_succ, i64_w, i32_w]
            rfl
          refine last_ (i := 21) (N := none) #[true, true, true, true, true, true, true, true, true, true, true, true, true, true, true, true, true, true, true, true, true, true] rfl rfl (by kernel_rfl) (by decide) (fun K hK => ?_)
          have qc2 := Q2.out.cell 2
          have qf2 := Q2.out.free 2
          simp at qc2
          refine skip_ (w1 := ?_) (by rfl) rfl ?_ ?_
          rotate_left
          · go_simp
            rfl
          refine hK.out _ _ ?_
          clear hK K
          refine done_ (by kernel_rfl) ?_
          go_wp2
          go_roundw
          case rel =>
            refine ⟨k + 1, .slice Ae de.length ce, .slice A9 ne.length c9, by omega, by go_num, ?_⟩
            rw [ST.out, ← HZ.out, List.map_append, List.map_append, ← HDD.out, ← HNN.out, List.map_cons, List.map_cons, List.map_nil, List.map_nil, ← HDE.out, ← HNE.out]
            exact HP9.out
          case measure => simp [intOf]; omega
      · have hzz : partZ s d n = zk := by rw [EZ.out, HZ.out, show k = d.length by omega]
        have HZZ := Lib.hid hzz
        have r0 := hP.r.cell 0; have r1 := hP.r.cell 1; have r2 := hP.r.cell 2
        have f0 := hP.r.free 0; have f1 := hP.r.free 1; have f2 := hP.r.free 2
        simp at r0 r1 r2
        clear hP hzk hdd hnn hzz z0 z1 z2 HP3 HP2 yf yc
        go_wp2
        refine bodyPost_ret (results_cell_row rfl _ _ (w.heap.size + 1) 25 #[.int .i64 time, .slice Ad da.length cd, .slice An nn.length cn] (0, 0) _ rfl ?blk Tryd.underlying25 rfl (by kernel_rfl)) rfl ?_
        case blk =>
          have q := ((HP4.out.r.set 0 (.int .i64 time)).set 1 (.slice Ad da.length cd)).set 2 (.slice An nn.length cn)
          simp at q
          exact q
        refine ⟨.slice Ad da.length cd, .slice An nn.length cn, by rw [ET.out], ?_, ?_, ?_⟩
        · rw [ED.out, HZZ.out, ← HDD.out]
          exact Kd.R_set (Kd.R_set (Kd.R_set HP4.out.od HP4.out.r (by decide) 0 (.int .i64 time)) (HP4.out.r.set 0 (.int .i64 time)) (by decide) 1 (.slice Ad da.length cd)) ((HP4.out.r.set 0 (.int .i64 time)).set 1 (.slice Ad da.length cd)) (by decide) 2 (.slice An nn.length cn)
        · rw [EN.out, HZZ.out, ← HNN.out]
          exact Kd.R_set (Kd.R_set (Kd.R_set HP4.out.on HP4.out.r (by decide) 0 (.int .i64 time)) (HP4.out.r.set 0 (.int .i64 time)) (by decide) 1 (.slice Ad da.length cd)) ((HP4.out.r.set 0 (.int .i64 time)).set 1 (.slice Ad da.length cd)) (by decide) 2 (.slice An nn.length cn)
        · exact ((HP4.out.b.setCell (by show w.heap.size ≤ w.heap.size + 1; omega) _).setCell (by show w.heap.size ≤ w.heap.size + 1; omega) _).setCell (by show w.heap.size ≤ w.heap.size + 1; omega) _
  · have ET : Hid (partT time d n = 0) := Lib.hid (if_neg c0)
    have ED : Hid (partD (ofL 0 l) time d n = []) := Lib.hid (if_neg c0)
    have EN : Hid (partN (ofL 0 l) time d n = []) := Lib.hid (if_neg c0)
    have c1' : (chkR time d n != 0) = true := by simpa using c0
    clear c0
    go_enter Tryd.func26, Tryd.ntmps26
    go_wp2_with fail
    refine (CH.out _ _ _).mono ?_
    rintro e w1 ⟨rfl, hq1⟩
    have HR1 := Lib.hid (HP0.out.quiet hq1)
    have r0 := HR1.out.r.cell 0; have r1 := HR1.out.r.cell 1; have r2 := HR1.out.r.cell 2
    have f0 := HR1.out.r.free 0; have f1 := HR1.out.r.free 1; have f2 := HR1.out.r.free 2
    have y0 := HR1.out.y.cell 0; have y1 := HR1.out.y.cell 1; have y2 := HR1.out.y.cell 2
    simp at r0 r1 r2 y0 y1 y2
    clear hq1
    go_wp2
    refine bodyPost_ret (results_cell_row rfl _ _ (w.heap.size + 1) 25 #[.int .i64 0, .slice none 0 0, .slice none 0 0] (0, 0) _ rfl ?blk Tryd.underlying25 rfl (by kernel_rfl)) rfl ?_
    case blk =>
      have q := ((HR1.out.r.set 0 (.int .i64 0)).set 1 (.slice none 0 0)).set 2 (.slice none 0 0)
      simp at q
      exact q
    refine ⟨.slice none 0 0, .slice none 0 0, by rw [ET.out], ?_, ?_, ?_⟩
    · rw [ED.out]; exact Kd.R_nil _ _ _ _ _
    · rw [EN.out]; exact Kd.R_nil _ _ _ _ _
    · exact ((HR1.out.b.setCell (by show w.heap.size ≤ w.heap.size + 1; omega) _).setCell (by show w.heap.size ≤ w.heap.size + 1; omega) _).setCell (by show w.heap.size ≤ w.heap.size + 1; omega) _
end Go.Proofs.YtadepdeckapgcaaDoor
end
