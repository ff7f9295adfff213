/- LawHistoryReplays, part 6: what the proof stands on (merged by wip/shake.py out of the session's texts and of what the print wrote for this claim). -/
import Derived.Test.YtadepdeckapgcaaYcE

section
namespace Go.Proofs.Ytadepdeckapgcaa.Hi
open Go.Proofs.Ytadepdeckapgcaa Go.RowKit Go.Maps Go.Proofs.YtadepdeckapgcaaW.PrintWords Go.Proofs.YtadepdeckapgcaaW.PrintLast Go.Proofs.YtadepdeckapgcaaW.PrintMore Go.Proofs.Ytadepdeckapgcaa.PHj Go.Proofs.Ytadepdeckapgcaa.PHi
set_option linter.unusedVariables false
set_option linter.unusedSimpArgs false
theorem infoDe : (Try.prog.info? 86).map (fun i => (i.zero, i.size, i.bytes)) = some (some (.agg #[.int .i64 0, .int .i64 0, .int .i64 0]), 3, 24) := by kernel_rfl
abbrev shDe : Sh (Int × Int × Int) := shP shInt (shP shInt shInt)
def toDe (x : Int × Int × Int) : De22 := ⟨x.1, x.2.1, x.2.2⟩
theorem de_of {w : World} (a : Int × Int × Int) (cs : List Value) (h : shDe.rd w w.heap.size a cs) : k86.K w (toDe a) cs := by
  obtain ⟨c1, c2, rfl, _, ⟨rfl, _⟩, ⟨c3, c4, rfl, _, ⟨rfl, _⟩, ⟨rfl, _⟩⟩⟩ := h
  exact k86_mk w (toDe a)
theorem D_of_shape {w : World} {l : List (Int × Int × Int)} {v : Value} (h : (shL shDe).rd w w.heap.size l [v]) : D22 w v (l.map toDe) := by
  obtain ⟨A, c, rfl, hC, hc⟩ := C_of_shape (S := shDe) (d := k86) toDe rfl de_of h
  refine ⟨A, c, rfl, hc, hC, fun hne => ?_⟩
  rcases h with ⟨rfl, _⟩ | ⟨b, o, cap, hb, _, _, h, _⟩
  · simp at hne
  · simp at h
    obtain ⟨rfl, _⟩ := h
    exact ⟨b, o, rfl, hb⟩
theorem D22_take {w : World} {A : Option Addr} {c : Nat} {d : List De22} (h : D22 w (.slice A d.length c) d) (h60 : 60 < d.length) : D22 w (.slice A 60 c) (d.take 60) := by
  obtain ⟨A', c', e, hc, hC, hA⟩ := h
  injection e with e1 _ e2
  subst e1 e2
  have hl : (d.take 60).length = 60 := by simp; omega
  refine ⟨A, c, by rw [hl], by omega, ⟨rfl, by omega, fun _ => ?_⟩, fun _ => hA (fun e => by subst e; simp at h60)⟩
  obtain ⟨ad, e, hcell⟩ := hC.2.2 (by omega)
  refine ⟨ad, e, fun j p hj => hcell j p ?_⟩
  have hjl : j < 60 := by have := (List.getElem?_eq_some_iff.1 hj).1; omega
  rw [List.getElem?_take_of_lt hjl] at hj
  exact hj
theorem D_of_R {w : World} {base : Nat} {ok : Nat → Prop} {v : Value} {d : List De22} (h : Kd.R k86 86 w base ok v d) : D22 w v d := by
  obtain ⟨inner, ho⟩ := Kd.R_own h
  obtain ⟨A, c, rfl, hc, hC⟩ := Kd.R_reads h
  refine ⟨A, c, rfl, hc, hC, fun hne => ?_⟩
  rcases ho.2 with ⟨_, h0⟩ | ⟨g, cap, cur, e, _⟩
  · exact absurd (List.eq_nil_of_length_eq_zero h0) hne
  · injection e with e1 _ _
    subst e1
    exact ⟨g, 0, rfl, (ho.lt g rfl).2⟩
theorem wFew (w : World) (A : Option Addr) (c : Nat) (l : List Mk) (hC : Kd.C k29 w A l.length l) (hc : l.length ≤ c) :
    Calls Try.prog 6 #[.slice A l.length c] w fun e w' => ∃ A' c', e = .returned (.slice A' (l.take 120).length c') ∧ (l.take 120).length ≤ c' ∧ Kd.C k29 w' A' (l.take 120).length (l.take 120) ∧ Below w.heap.size w w' := by
  obtain ⟨k, hk⟩ := (ev_few l).rounds
  refine (logjamlaw38_few.calls k (fun k_ => k_ < w.heap.size) A c l _ w (Kd.V_mk hc (Kd.C_F k29_heap hC)) hk).mono ?_
  rintro e w' ⟨v, rfl, hR, hb⟩
  obtain ⟨A', c', rfl, hc', hC'⟩ := Kd.R_reads hR
  exact ⟨A', c', rfl, hc', hC', hb⟩
set_option maxRecDepth 100000 in
set_option maxHeartbeats 8000000 in
theorem replaysLaw (w : World) (A0 : Option Addr) (c0 : Nat) (d : List De22) (hD : D22 w (.slice A0 d.length c0) d) (A : Option Addr) (c : Nat) (l : List Mk) (hC : Kd.C k29 w A l.length l) (hc : l.length ≤ c) (hm : ∀ m ∈ l, inM m) :
    Calls Try.prog 5 #[.slice A0 d.length c0, .slice A l.length c] w fun e w' => e = .returned (.bool true) ∧ Quiet w w' := by
  have HF1 := Lib.hid (wFew w A c l hC hc)
  have h120 : (l.take 120).take 120 = l.take 120 := by rw [List.take_take]; rfl
  have hml : (l.take 120).length ≤ 120 := by simp; omega
  have hmm : ∀ m ∈ l.take 120, inM m := fun m h => hm m (List.mem_of_mem_take h)
  have HD := Lib.hid hD
  have hcd : d.length ≤ c0 := by obtain ⟨A', c', e, h, _⟩ := hD; injection e with _ _ e2; omega
  have hmx : d.length ≤ 9223372036854775807 := by obtain ⟨A', c', e, _, h, _⟩ := hD; exact h.2.1
  have HL := Lib.hid (fun w' => (ev_lives.rounds).elim (fun k hk => logjamlaw38_lives.calls k true w' hk))
  generalize l.take 120 = m at *
  clear hD hm hC
  by_cases h60 : 60 < d.length
  · obtain ⟨dd, hdd⟩ : ∃ z, z = d.take 60 := ⟨_, rfl⟩
    have hdl0 : dd.length = 60 := by rw [hdd]; simp; omega
    have h60c : (60 : Int) ≤ c0 := by omega
    have h60d : decide ((d.length : Int) > 60) = true := decide_eq_true (by omega)
    have HDD := Lib.hid hdd
    clear hdd
    have HF2 := Lib.hid (fun w' (A' : Option Addr) (c' : Nat) (hC' : Kd.C k29 w' A' m.length m) (hc' : m.length ≤ c') => by have q := wFew w' A' c' m hC' hc'; rw [h120] at q; exact q)
    go_enter Try.func5, Try.ntmps5
    go_wp2_with fail
    refine HF1.out.mono ?_
    rintro e w1 ⟨A1, c1, rfl, hc1, hC1, hb1⟩
    have HD1 : Hid (D22 w1 (.slice A0 60 c0) dd) := Lib.hid (by have q := (D22_take HD.out h60).quiet (Fr.of_below hb1); rw [← HDD.out] at q; exact q)
    have HBl : Hid (Below w1.heap.size w1 (w1.alloc (.cells #[] 86))) := (Below.refl _ _).alloc (Nat.le_refl _) _
    obtain ⟨A0', c0', e0, hc0', hC0, _⟩ := HD1.out
    injection e0 with e01 e0n e02
    subst e01 e02
    have HCd : Hid (Kd.C k86 (w1.alloc (.cells #[] 86)) A0 60 dd) := Lib.hid (by rw [e0n]; exact Kd.C_below hC0 HBl.out)
    have HRl : Hid (Kd.R k86 86 (w1.alloc (.cells #[] 86)) w1.heap.size (fun _ => True) (.slice (some ⟨w1.heap.size, 0, none⟩) 0 0) []) :=
      ⟨fun _ _ => trivial, [], World.ownsRow_lit (base := w1.heap.size) (e := 86) (size := 3) w1 #[] 0 (Nat.le_refl _) (by simp) (by simp), Reps.none _ _⟩
    have HC1 := Lib.hid hC1; have HB1 := Lib.hid hb1
    have hdl : dd.length ≤ 60 := by omega
    clear hC1 hb1 hC0 HF1 e0n hdl0
    obtain ⟨i05, hi05, _, hsz5, _⟩ := info_parts infoDe
    have q5 : (60 : Int) ≤ ((d.length : Int) : Int) := by omega
    have hcut5 := cut_to (P := Try.prog) 38 86 .i64 Try.underlying38 hi05 A0 d.length c0 60 (by omega) q5 hcd
    go_wp2_with (first
      | (at_builtin; refine Kd.R_append_rows k86 (Rr := k86.K (w1.alloc (.cells #[] 86))) (w0 := w1) w1.heap.size rfl (.tmp 17) (.tmp 18) 38 86 _ 24 rfl Try.underlying38 infoDe rfl (by decide) (by decide) _ [] dd A0 60 c0 (fun _ => True) (fun _ => False) rfl rfl HRl.out HCd.out (fun x cs hk => by have := k86_open hk; rw [this]; exact k86_mkM _ _ _ x) (fun _ q => q.elim) (fun _ _ => trivial) HBl.out HBl.out.size (by simp <;> omega) ?_; intro v2 w2 ho2 hb2 hg2 hat2; rw [List.nil_append] at ho2; have HR2 := Lib.hid (D_of_R ho2); have HB2 := Lib.hid hb2; obtain ⟨A2, c2, rfl⟩ := Kd.R_slice ho2; have HF2' := Lib.hid (HF2.out w2 A1 c1 (Kd.C_below HC1.out hb2) hc1); clear ho2 hb2 hg2 hat2)
      | (go_at_call 6; refine HF2'.out.mono ?_; rintro e w3 ⟨A3, c3, rfl, hc3, hC3, hb3⟩; have HP := Lib.hid (wReplay w3 _ dd hdl (HR2.out.quiet (Fr.of_below hb3)) A3 c3 m hC3 (by omega) hmm); have HB3 := Lib.hid hb3; clear hC3 hb3)
      | (go_at_call 17; refine HP.out.mono ?_; rintro e w4 ⟨v4, bs4, rfl, hbs4, hr4, hlen4, hq4⟩; obtain ⟨A4, c4, rfl⟩ := Kd.R_slice hr4; have HR4 := Lib.hid hr4; have HQ14 : Hid (Quiet w1 w4) := Lib.hid (((Fr.of_below HB2.out).quiet (Fr.of_below HB3.out)).quiet hq4); have HRP := Lib.hid (wRReplay w4 _ dd hdl (HD1.out.quiet HQ14.out) A1 c1 m (Kd.C_below HC1.out (HQ14.out.below (fun _ _ q => q))) (by omega) hmm); clear hr4 hq4)
      | (go_at_call 18; refine HRP.out.mono ?_; rintro e w5 ⟨v5, bs5, rfl, hbs5, hr5, hq5⟩; obtain ⟨A5, c5, rfl⟩ := Kd.R_slice hr5; have HS := Lib.hid (sameYes22 w5 _ _ _ (by rw [allL_len]; omega) _ _ (R22.quiet HR4.out hq5) hr5); have HQ5 := Lib.hid (HQ14.out.quiet hq5); clear hr5 hq5)
      | (go_at_call 19; refine HS.out.mono ?_; rintro e w6 ⟨rfl, hq6⟩; have HQ6 := Lib.hid (HQ5.out.quiet hq6); have HLL := Lib.hid (HL.out w6); clear hq6)
      | (go_at_call 16; refine HLL.out.mono ?_; rintro e w7 ⟨rfl, hb7⟩; have HQ7 := Lib.hid (HQ6.out.quiet (Fr.of_below hb7)); clear hb7))
    go_ret
    exact ⟨by simp, (Fr.of_below HB1.out).quiet HQ7.out⟩
  · obtain ⟨dd, hdd⟩ : ∃ z, z = d := ⟨_, rfl⟩
    have hdl0 : dd.length = d.length := by rw [hdd]
    have h60d : decide ((d.length : Int) > 60) = false := decide_eq_false (by omega)
    have HDD := Lib.hid hdd
    clear hdd
    have HF2 := Lib.hid (fun w' (A' : Option Addr) (c' : Nat) (hC' : Kd.C k29 w' A' m.length m) (hc' : m.length ≤ c') => by have q := wFew w' A' c' m hC' hc'; rw [h120] at q; exact q)
    go_enter Try.func5, Try.ntmps5
    go_wp2_with fail
    refine HF1.out.mono ?_
    rintro e w1 ⟨A1, c1, rfl, hc1, hC1, hb1⟩
    have HD1 : Hid (D22 w1 (.slice A0 d.length c0) dd) := Lib.hid (by have q := HD.out.quiet (Fr.of_below hb1); rw [HDD.out]; exact q)
    have HBl : Hid (Below w1.heap.size w1 (w1.alloc (.cells #[] 86))) := (Below.refl _ _).alloc (Nat.le_refl _) _
    obtain ⟨A0', c0', e0, hc0', hC0, _⟩ := HD1.out
    injection e0 with e01 e0n e02
    subst e01 e02
    have HCd : Hid (Kd.C k86 (w1.alloc (.cells #[] 86)) A0 d.length dd) := Lib.hid (by rw [e0n]; exact Kd.C_below hC0 HBl.out)
    have HRl : Hid (Kd.R k86 86 (w1.alloc (.cells #[] 86)) w1.heap.size (fun _ => True) (.slice (some ⟨w1.heap.size, 0, none⟩) 0 0) []) :=
      ⟨fun _ _ => trivial, [], World.ownsRow_lit (base := w1.heap.size) (e := 86) (size := 3) w1 #[] 0 (Nat.le_refl _) (by simp) (by simp), Reps.none _ _⟩
    have HC1 := Lib.hid hC1; have HB1 := Lib.hid hb1
    have hdl : dd.length ≤ 60 := by omega
    clear hC1 hb1 hC0 HF1 e0n hdl0
    go_wp2_with (first
      | (at_builtin; refine Kd.R_append_rows k86 (Rr := k86.K (w1.alloc (.cells #[] 86))) (w0 := w1) w1.heap.size rfl (.tmp 17) (.tmp 18) 38 86 _ 24 rfl Try.underlying38 infoDe rfl (by decide) (by decide) _ [] dd A0 d.length c0 (fun _ => True) (fun _ => False) rfl rfl HRl.out HCd.out (fun x cs hk => by have := k86_open hk; rw [this]; exact k86_mkM _ _ _ x) (fun _ q => q.elim) (fun _ _ => trivial) HBl.out HBl.out.size (by simp <;> omega) ?_; intro v2 w2 ho2 hb2 hg2 hat2; rw [List.nil_append] at ho2; have HR2 := Lib.hid (D_of_R ho2); have HB2 := Lib.hid hb2; obtain ⟨A2, c2, rfl⟩ := Kd.R_slice ho2; have HF2' := Lib.hid (HF2.out w2 A1 c1 (Kd.C_below HC1.out hb2) hc1); clear ho2 hb2 hg2 hat2)
      | (go_at_call 6; refine HF2'.out.mono ?_; rintro e w3 ⟨A3, c3, rfl, hc3, hC3, hb3⟩; have HP := Lib.hid (wReplay w3 _ dd hdl (HR2.out.quiet (Fr.of_below hb3)) A3 c3 m hC3 (by omega) hmm); have HB3 := Lib.hid hb3; clear hC3 hb3)
      | (go_at_call 17; refine HP.out.mono ?_; rintro e w4 ⟨v4, bs4, rfl, hbs4, hr4, hlen4, hq4⟩; obtain ⟨A4, c4, rfl⟩ := Kd.R_slice hr4; have HR4 := Lib.hid hr4; have HQ14 : Hid (Quiet w1 w4) := Lib.hid (((Fr.of_below HB2.out).quiet (Fr.of_below HB3.out)).quiet hq4); have HRP := Lib.hid (wRReplay w4 _ dd hdl (HD1.out.quiet HQ14.out) A1 c1 m (Kd.C_below HC1.out (HQ14.out.below (fun _ _ q => q))) (by omega) hmm); clear hr4 hq4)
      | (go_at_call 18; refine HRP.out.mono ?_; rintro e w5 ⟨v5, bs5, rfl, hbs5, hr5, hq5⟩; obtain ⟨A5, c5, rfl⟩ := Kd.R_slice hr5; have HS := Lib.hid (sameYes22 w5 _ _ _ (by rw [allL_len]; omega) _ _ (R22.quiet HR4.out hq5) hr5); have HQ5 := Lib.hid (HQ14.out.quiet hq5); clear hr5 hq5)
      | (go_at_call 19; refine HS.out.mono ?_; rintro e w6 ⟨rfl, hq6⟩; have HQ6 := Lib.hid (HQ5.out.quiet hq6); have HLL := Lib.hid (HL.out w6); clear hq6)
      | (go_at_call 16; refine HLL.out.mono ?_; rintro e w7 ⟨rfl, hb7⟩; have HQ7 := Lib.hid (HQ6.out.quiet (Fr.of_below hb7)); clear hb7))
    go_ret
    exact ⟨by simp, (Fr.of_below HB1.out).quiet HQ7.out⟩
theorem historyReplaysW (W : World) (v0 : Value) (a0 : List (Int × Int × Int)) (e0 : (shL shDe).rd W W.heap.size a0 [v0]) (v1 : Value) (a1 : List (Int × Int × Int × Int × Int)) (e1 : (shL shM).rd W W.heap.size a1 [v1]) :
    Calls Try.prog 5 #[v0, v1] W fun e w' => e = .returned (.bool true) ∧ Quiet W w' := by
  have hin := marks_in e1
  obtain ⟨A, c, rfl, hC, hc⟩ := C_of_shape (S := shM) (d := k29) toMk rfl mark_of e1
  have hD := D_of_shape e0
  obtain ⟨A0, c0, rfl, _⟩ := id hD
  exact replaysLaw W A0 c0 _ hD A c _ hC hc hin
end Go.Proofs.Ytadepdeckapgcaa.Hi
end
