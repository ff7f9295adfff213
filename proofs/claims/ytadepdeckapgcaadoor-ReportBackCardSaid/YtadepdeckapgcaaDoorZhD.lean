/- LawReportBack, part 4: what the proof stands on (merged by wip/shake.py out of the session's texts and of what the print wrote for this claim). -/
import Derived.Test.YtadepdeckapgcaaDoorZhC

section
namespace Go.Proofs.YtadepdeckapgcaaDoor.Rp
open Go.RowKit Go.Proofs.YtadepdeckapgcaaDoorW.PrintWords Go.Proofs.YtadepdeckapgcaaDoor.PRp Go.Proofs.YtadepdeckapgcaaDoor.Orc Go.Proofs.YtadepdeckapgcaaDoor
set_option linter.unusedVariables false
set_option linter.unusedSimpArgs false
def mkB (l : List UInt8) : ByteArray := ⟨l.toArray⟩
theorem mkB_data (l : List UInt8) : (mkB l).data.toList = l := by simp [mkB]
theorem mkB_of (s : ByteArray) : mkB s.data.toList = s := by unfold mkB; exact Lib.mk_data s
theorem mkB_list (l : List UInt8) : (mkB l).toList = l := by rw [Lib.toList_data, mkB_data]
theorem data_inj {a b : ByteArray} (h : a.data.toList = b.data.toList) : a = b := by rw [← mkB_of a, h, mkB_of]
theorem map_mk (l : List ByteArray) : (l.map (·.data.toList)).map mkB = l := by
  rw [List.map_map]; conv => rhs; rw [← List.map_id l]
  exact List.map_congr_left (fun x _ => mkB_of x)
theorem dat_app (a b : ByteArray) : (a ++ b).data.toList = a.data.toList ++ b.data.toList := by simp
theorem splP_data (a b : ByteArray) : (splP a b).map (·.data.toList) = Lib.split a.data.toList b.data.toList := by
  unfold splP; rw [Lib.splitB_data]; rfl
theorem splP_eq (a b : ByteArray) : splP a b = (Lib.split a.data.toList b.data.toList).map mkB := by rw [← splP_data, map_mk]
theorem joinB_data (l : List ByteArray) (s : ByteArray) : (joinB l s).data.toList = Lib.join (l.map (·.data.toList)) s.data.toList := by unfold joinB; simp
theorem spl_join {sep : ByteArray} {c : UInt8} (S : Sep sep.data.toList c) (ps : List ByteArray) (h0 : ps ≠ []) (h : ∀ p ∈ ps, ∀ b ∈ p.data.toList, b ≠ c) : splP (joinB ps sep) sep = ps := by
  rw [splP_eq, joinB_data, split_join S _ (by simpa using h0), map_mk]
  intro p hp
  obtain ⟨q, hq, rfl⟩ := List.mem_map.1 hp
  exact h q hq
theorem join_spl (a b : ByteArray) : joinB (splP a b) b = a := by
  apply data_inj; rw [joinB_data, splP_data, join_split]
theorem spl_ne (a b : ByteArray) : splP a b ≠ [] := by
  unfold splP
  cases Lib.countB a b with
  | zero => simp [Lib.splitB]
  | succ k => unfold Lib.splitB; split <;> simp
theorem cutP_hit {sep : ByteArray} {c : UInt8} (S : Sep sep.data.toList c) (p r : ByteArray) (h : ∀ b ∈ p.data.toList, b ≠ c) : cutP ((p ++ sep) ++ r) sep = (p, r, true) := by
  unfold cutP
  rw [dat_app, dat_app, List.append_assoc, cut_hit S _ _ h]
theorem cutP_yes {s sep : ByteArray} (h : (cutP s sep).2.2 = true) : ((cutP s sep).1 ++ sep) ++ (cutP s sep).2.1 = s := by
  have := cut_yes (s := s.data.toList) (sep := sep.data.toList) h
  apply data_inj
  rw [dat_app, dat_app, List.append_assoc]
  exact ((congr (congrArg _ (mkB_data _)) (congrArg _ (mkB_data _))).trans this.symm)
theorem cpP_hit (p r : ByteArray) : cpP (p ++ r) p = (r, true) := by
  unfold cpP
  obtain ⟨h1, h2⟩ := prefix_of p.data.toList r.data.toList
  rw [dat_app, h1, h2]
theorem cpP_yes {s p : ByteArray} (h : (cpP s p).2 = true) : p ++ (cpP s p).1 = s := by
  have := prefix_yes (s := s.data.toList) (p := p.data.toList) h
  apply data_inj
  rw [dat_app]
  exact (congrArg _ (mkB_data _)).trans this.symm
theorem rnum_it (n : Int) (h0 : 0 ≤ n) (h1 : n < 10000000000) : rnumP (itB n) = (n, true) := by
  obtain ⟨hl, _⟩ := itoa_ten n h0 h1
  have ha := atoi_itoa n (by omega) (by omega)
  have e1 : atoiOkB (itB n) = true := by unfold atoiOkB; rw [itB_data, ha]
  have e2 : atoiN (itB n) = n := by unfold atoiN; rw [itB_data, ha]
  unfold rnumP
  rw [e2, if_pos ⟨e1, h0, by rw [Lib.size_eq, itB_data]; exact hl, (itB_data n).symm⟩]
theorem rnum_yes {s : ByteArray} (h : (rnumP s).2 = true) : itB (rnumP s).1 = s := by
  unfold rnumP at h ⊢
  split at h
  · rename_i hc
    rw [if_pos hc]
    apply data_inj; rw [itB_data]; exact hc.2.2.2
  · cases h
theorem it_dig (n : Int) (h0 : 0 ≤ n) (h1 : n < 10000000000) : ∀ b ∈ (itB n).data.toList, isDig b := by rw [itB_data]; exact (itoa_ten n h0 h1).2
theorem dig_ne {b c : UInt8} (h : isDig b) (hc : c.toNat < 48 ∨ 57 < c.toNat) : b ≠ c := by rintro rfl; unfold isDig at h; omega
def isSh (b : UInt8) : Prop := isDig b ∨ b = 58 ∨ b = 44 ∨ b = 45
def isWy (b : UInt8) : Prop := isSh b ∨ b = 32 ∨ b = 111 ∨ b = 102
theorem isSh_ne {b c : UInt8} (h : isSh b) (hc : c.toNat < 44 ∨ (57 < c.toNat ∧ c.toNat ≠ 58)) : b ≠ c := by
  rcases h with h | rfl | rfl | rfl
  · exact dig_ne h (by omega)
  all_goals (rintro rfl; revert hc; decide)
theorem isWy_ne {b c : UInt8} (h : isWy b) (hc : c.toNat < 32 ∨ c = 43) : b ≠ c := by
  rcases h with h | rfl | rfl | rfl
  · refine isSh_ne h (.inl ?_)
    rcases hc with h | rfl
    · omega
    · decide
  all_goals (rintro rfl; revert hc; decide)
theorem join_mem (P : UInt8 → Prop) (sep : List UInt8) (hs : ∀ b ∈ sep, P b) : ∀ l : List (List UInt8), (∀ x ∈ l, ∀ b ∈ x, P b) → ∀ b ∈ Lib.join l sep, P b
  | [], _, b, hb => by simp [Lib.join_nil] at hb
  | [x], h, b, hb => by rw [Lib.join_one] at hb; exact h x (by simp) b hb
  | x :: y :: r, h, b, hb => by
    rw [join_two] at hb
    simp only [List.mem_append] at hb
    rcases hb with hb | hb | hb
    · exact h x (by simp) b hb
    · exact hs b hb
    · exact join_mem P sep hs (y :: r) (fun z hz => h z (by simp [hz])) b hb
theorem sh_lt {s : S108} (h : ShOk s) : ∀ b ∈ (shB s).data.toList, isDig b ∨ b = 58 := by
  obtain ⟨a, b, c, d⟩ := h
  intro x hx
  unfold shB at hx
  rw [dat_app, dat_app] at hx
  simp only [List.mem_append] at hx
  rcases hx with (hx | hx) | hx
  · exact .inl (it_dig _ a (by omega) x hx)
  · exact .inr (List.mem_singleton.1 hx)
  · exact .inl (it_dig _ (by omega) (by omega) x hx)
theorem shares_lt {l : List S108} (h : ∀ s ∈ l, ShOk s) : ∀ b ∈ (sharesP l).data.toList, isSh b := by
  unfold sharesP
  split
  · intro b hb; exact .inr (.inr (.inr (List.mem_singleton.1 hb)))
  · rw [joinB_data]
    refine join_mem isSh _ (fun b hb => .inr (.inr (.inl (List.mem_singleton.1 hb)))) _ (fun x hx b hb => ?_)
    rw [List.map_map] at hx
    obtain ⟨s, hs, rfl⟩ := List.mem_map.1 hx
    rcases sh_lt (h s hs) b hb with h | h
    · exact .inl h
    · exact .inr (.inl h)
theorem term_lt {m : S96} (h : TmOk m) : ∀ b ∈ (termB m).data.toList, isWy b := by
  obtain ⟨a, b, c, d⟩ := h
  intro x hx
  unfold termB at hx
  rw [dat_app, dat_app] at hx
  simp only [List.mem_append] at hx
  rcases hx with (hx | hx) | hx
  · exact .inl (.inl (it_dig _ (by omega) (by omega) x hx))
  · have hx : x ∈ ([32, 111, 102, 32] : List UInt8) := hx
    simp at hx
    rcases hx with h | h | h | h
    · exact .inr (.inl h)
    · exact .inr (.inr (.inl h))
    · exact .inr (.inr (.inr h))
    · exact .inr (.inl h)
  · exact .inl (shares_lt d x hx)
theorem shGo_map : ∀ (l acc : List S108), (∀ s ∈ l, ShOk s) → shGo (l.map shB) acc = (acc ++ l, true)
  | [], acc, _ => by simp [shGo]
  | s :: l, acc, h => by
    obtain ⟨a, b, c, d⟩ := h s (by simp)
    have e : cutP (shB s) sColon = (itB s.f0, itB s.f1, true) := cutP_hit (Sep.one 58) _ _ (fun x hx => dig_ne (it_dig _ a (by omega) x hx) (.inr (by decide)))
    rw [List.map_cons]
    simp only [shGo]
    rw [e, rnum_it s.f0 a (by omega), rnum_it s.f1 (by omega) (by omega), if_pos ⟨rfl, rfl, rfl⟩, shGo_map l _ (fun x hx => h x (by simp [hx]))]
    simp
theorem from_shares {l : List S108} (h : ∀ s ∈ l, ShOk s) : fromP (sharesP l) = (l, true) := by
  unfold fromP sharesP
  by_cases hl : l.length = 0
  · rw [if_pos hl, if_pos (Lib.toList_data _), List.eq_nil_of_length_eq_zero hl]
  · rw [if_neg hl]
    have hn : l ≠ [] := fun e => hl (by rw [e]; rfl)
    rw [if_neg, spl_join (Sep.one 44) _ (by simpa using hn), shGo_map l [] h]
    · simp
    · intro p hp b hb
      obtain ⟨s, hs, rfl⟩ := List.mem_map.1 hp
      rcases sh_lt (h s hs) b hb with q | rfl
      · exact dig_ne q (.inl (by decide))
      · decide
    · intro e
      rw [Lib.toList_data, joinB_data] at e
      have e := congrArg List.length e
      cases l with
      | nil => exact hl rfl
      | cons s r =>
        rw [List.map_cons, List.map_cons, Lib.join_cons, List.length_append] at e
        have q : 2 ≤ (shB s).data.toList.length := by
          unfold shB
          rw [dat_app, dat_app, List.length_append, List.length_append, itB_data, itB_data]
          have a := List.length_pos_iff.2 (itoa_ne s.f0); have b := List.length_pos_iff.2 (itoa_ne s.f1)
          omega
        change (shB s).data.toList.length + _ = 1 at e; omega
theorem altGo_map : ∀ (l acc : List S96), (∀ s ∈ l, TmOk s) → altGo (l.map termB) acc = (acc ++ l, true)
  | [], acc, _ => by simp [altGo]
  | m :: l, acc, h => by
    obtain ⟨a, b, c, d⟩ := h m (by simp)
    have e : cutP (termB m) sOf = (itB m.f0, sharesP m.f1, true) := cutP_hit (Sep.two 32 111 [102, 32] (by decide)) _ _ (fun x hx => dig_ne (it_dig _ (by omega) (by omega) x hx) (.inr (by decide)))
    rw [List.map_cons]
    simp only [altGo]
    rw [e, rnum_it m.f0 (by omega) (by omega), from_shares d, if_pos ⟨rfl, rfl, rfl⟩, altGo_map l _ (fun x hx => h x (by simp [hx]))]
    simp
def wayQ (w : List S96) : ByteArray := if w.length = 0 then ⟨#[32, 32, 119, 97, 121]⟩ else sWay ++ joinB (w.map termB) sPlus
theorem wayP_eq (w : List S96) : wayP w = wayQ w ++ sNl := by
  unfold wayP wayQ
  split <;> rfl
theorem alt_way {w : List S96} (h : ∀ m ∈ w, TmOk m) : altP (wayQ w) = (w, true) := by
  unfold altP wayQ
  by_cases hl : w.length = 0
  · rw [if_pos hl, if_pos (Lib.toList_data _), List.eq_nil_of_length_eq_zero hl]
  · rw [if_neg hl]
    have hn : w ≠ [] := fun e => hl (by rw [e]; rfl)
    rw [if_neg, cpP_hit, if_pos rfl, spl_join (Sep.two 32 43 [32] (by decide)) _ (by simpa using hn), altGo_map w [] h]
    · simp
    · intro p hp b hb
      obtain ⟨s, hs, rfl⟩ := List.mem_map.1 hp
      exact isWy_ne (term_lt (h s hs) b hb) (.inr rfl)
    · intro e
      have e := congrArg List.length e
      rw [Lib.toList_data, dat_app, List.length_append] at e
      have : sWay.data.toList.length = 6 := rfl
      simp at e; omega
theorem wayQ_lt {w : List S96} (h : ∀ m ∈ w, TmOk m) : ∀ b ∈ (wayQ w).data.toList, b ≠ 10 := by
  unfold wayQ
  split
  · decide
  · intro b hb
    rw [dat_app] at hb
    rcases List.mem_append.1 hb with hb | hb
    · exact (show ∀ b ∈ sWay.data.toList, b ≠ 10 by decide) b hb
    · rw [joinB_data] at hb
      refine join_mem (· ≠ 10) _ (by decide) _ (fun x hx b hb => ?_) b hb
      rw [List.map_map] at hx
      obtain ⟨s, hs, rfl⟩ := List.mem_map.1 hx
      exact isWy_ne (term_lt (h s hs) b hb) (.inl (by decide))
theorem shGo_back : ∀ (ls : List ByteArray) (acc r : List S108), shGo ls acc = (r, true) → ∃ l, r = acc ++ l ∧ l.map shB = ls
  | [], acc, r, h => ⟨[], by simp [shGo] at h; simp [h], rfl⟩
  | w :: ls, acc, r, h => by
    simp only [shGo] at h
    split at h
    · rename_i hc
      obtain ⟨l, rfl, hl⟩ := shGo_back ls _ r h
      refine ⟨_ :: l, by rw [List.append_assoc]; rfl, ?_⟩
      rw [List.map_cons, hl]
      unfold shB
      dsimp only
      rw [rnum_yes hc.2.1, rnum_yes hc.2.2, cutP_yes hc.1]
    · cases h
theorem from_back {s : ByteArray} (h : (fromP s).2 = true) : sharesP (fromP s).1 = s := by
  unfold fromP at h ⊢
  split at h
  · rename_i hs
    rw [if_pos hs]
    apply data_inj; rw [← Lib.toList_data s, hs]; rfl
  · rename_i hs
    rw [if_neg hs]
    obtain ⟨l, e, hl⟩ := shGo_back _ [] (shGo (splP s sComma) []).1 (Prod.ext rfl h)
    rw [e, List.nil_append]
    unfold sharesP
    rw [if_neg, hl, join_spl]
    intro e0
    rw [List.eq_nil_of_length_eq_zero e0] at hl
    exact spl_ne _ _ hl.symm
theorem altGo_back : ∀ (ls : List ByteArray) (acc r : List S96), altGo ls acc = (r, true) → ∃ l, r = acc ++ l ∧ l.map termB = ls
  | [], acc, r, h => ⟨[], by simp [altGo] at h; simp [h], rfl⟩
  | w :: ls, acc, r, h => by
    simp only [altGo] at h
    split at h
    · rename_i hc
      obtain ⟨l, rfl, hl⟩ := altGo_back ls _ r h
      refine ⟨_ :: l, by rw [List.append_assoc]; rfl, ?_⟩
      rw [List.map_cons, hl]
      unfold termB
      dsimp only
      rw [rnum_yes hc.2.1, from_back hc.2.2, cutP_yes hc.1]
    · cases h
theorem alt_back {s : ByteArray} (h : (altP s).2 = true) : wayQ (altP s).1 = s := by
  unfold altP at h ⊢
  split at h
  · rename_i hs
    rw [if_pos hs]
    apply data_inj; rw [← Lib.toList_data s, hs]; rfl
  · rename_i hs
    rw [if_neg hs]
    split at h
    · rename_i hp
      rw [if_pos hp]
      obtain ⟨l, e, hl⟩ := altGo_back _ [] (altGo (splP (cpP s sWay).1 sPlus) []).1 (Prod.ext rfl h)
      rw [e, List.nil_append]
      unfold wayQ
      rw [if_neg, hl, join_spl, cpP_yes hp]
      intro e0
      rw [List.eq_nil_of_length_eq_zero e0] at hl
      exact spl_ne _ _ hl.symm
    · cases h
def nlB : List ByteArray → List UInt8
  | [] => []
  | x :: r => x.data.toList ++ 10 :: nlB r
theorem nlB_app : ∀ a b : List ByteArray, nlB (a ++ b) = nlB a ++ nlB b
  | [], b => rfl
  | x :: a, b => by simp [nlB, nlB_app a b]
def bodyQ : List Int → List S92 → List ByteArray
  | t :: d, x :: n => (sThread ++ itB t) :: (x.f1.map wayQ ++ bodyQ d n)
  | _, _ => []
def sEnd : ByteArray := ⟨#[101, 110, 100]⟩
def linesQ (T : Int) (d : List Int) (n : List S92) : List ByteArray := (sReport ++ itB T) :: (bodyQ d n ++ [sEnd])
theorem waysL_eq : ∀ ws : List (List S96), waysL ws = nlB (ws.map wayQ)
  | [] => rfl
  | w :: r => by simp only [waysL, List.map_cons, nlB]; rw [waysL_eq r, wayP_eq, dat_app]; simp
theorem bodyL_eq : ∀ (d : List Int) (n : List S92), bodyL d n = nlB (bodyQ d n)
  | [], n => by unfold bodyL bodyQ; rfl
  | t :: d, [] => by unfold bodyL bodyQ; rfl
  | t :: d, x :: n => by
    simp only [bodyL, bodyQ, nlB]
    rw [nlB_app, ← waysL_eq, bodyL_eq d n, dat_app]
    simp
theorem textL_eq (T : Int) (d : List Int) (n : List S92) : textL T d n = nlB (linesQ T d n) := by
  unfold textL linesQ
  simp only [nlB]
  rw [nlB_app, bodyL_eq, dat_app]
  simp [nlB, sEnd]
theorem join_nl : ∀ ls : List ByteArray, joinB (ls ++ [⟨#[]⟩]) sNl = mkB (nlB ls)
  | [] => rfl
  | x :: r => by
    have ih := join_nl r
    apply data_inj
    have ih : (joinB (r ++ [⟨#[]⟩]) sNl).data.toList = (mkB (nlB r)).data.toList := by rw [ih]
    rw [mkB_data, joinB_data] at ih
    rw [mkB_data, joinB_data]
    cases r with
    | nil => simp [nlB, Lib.join, List.intercalate]
    | cons y r =>
      rw [List.cons_append, List.cons_append, List.map_cons, List.map_cons, join_two]
      rw [List.cons_append, List.map_cons] at ih
      rw [ih]; simp [nlB]
theorem lines_free {T : Int} {d : List Int} {n : List S92} (h : RpOk T d n) : ∀ x ∈ linesQ T d n, ∀ b ∈ x.data.toList, b ≠ 10 := by
  have hb : ∀ (d : List Int) (n : List S92), (∀ t ∈ d, 0 ≤ t ∧ t < 64) → (∀ x ∈ n, NdOk x) → ∀ x ∈ bodyQ d n, ∀ b ∈ x.data.toList, b ≠ 10 := by
    intro d
    induction d with
    | nil => intro n _ _ x hx; unfold bodyQ at hx; simp at hx
    | cons t d ih =>
      intro n hd hn x hx
      cases n with
      | nil => unfold bodyQ at hx; simp at hx
      | cons y n =>
        simp only [bodyQ] at hx
        rcases List.mem_cons.1 hx with rfl | hx
        · intro b hb
          rw [dat_app] at hb
          rcases List.mem_append.1 hb with hb | hb
          · exact (show ∀ b ∈ sThread.data.toList, b ≠ 10 by decide) b hb
          · have := hd t (by simp); exact dig_ne (it_dig t (by omega) (by omega) b hb) (.inl (by decide))
        · rcases List.mem_append.1 hx with hx | hx
          · obtain ⟨w, hw, rfl⟩ := List.mem_map.1 hx
            exact wayQ_lt ((hn y (by simp)).2.2 w hw).2
          · exact ih n (fun z hz => hd z (by simp [hz])) (fun z hz => hn z (by simp [hz])) x hx
  intro x hx
  unfold linesQ at hx
  rcases List.mem_cons.1 hx with rfl | hx
  · intro b hb
    rw [dat_app] at hb
    rcases List.mem_append.1 hb with hb | hb
    · exact (show ∀ b ∈ sReport.data.toList, b ≠ 10 by decide) b hb
    · have := h.t0; have := h.t1; exact dig_ne (it_dig T (by omega) (by omega) b hb) (.inl (by decide))
  · rcases List.mem_append.1 hx with hx | hx
    · exact hb d n h.d h.n x hx
    · obtain rfl := List.mem_singleton.1 hx; decide
theorem spl_text {T : Int} {d : List Int} {n : List S92} (h : RpOk T d n) : splP (mkB (textL T d n)) sNl = linesQ T d n ++ [⟨#[]⟩] := by
  rw [textL_eq, ← join_nl]
  refine spl_join (Sep.one 10) _ (by simp) (fun p hp => ?_)
  rcases List.mem_append.1 hp with hp | hp
  · exact lines_free h p hp
  · obtain rfl := List.mem_singleton.1 hp; decide
theorem putLast_snoc (n : List S92) (x : S92) (w : List S96) : putLast (n ++ [x]) w = n ++ [⟨x.f0, x.f1 ++ [w]⟩] := by
  unfold putLast
  have e : (n ++ [x]).length - 1 = n.length := by simp
  rw [e]
  have g : (n ++ [x]).getD n.length z92 = x := by simp [List.getD]
  rw [g]
  simp [List.set_append]
theorem way_no_thread (w : List S96) : (cpP (wayQ w) sThread).2 = false := by
  unfold cpP
  show Lib.hasPrefix (wayQ w).data.toList [116, 104, 114, 101, 97, 100, 32] = false
  unfold wayQ
  split
  · decide
  · rw [dat_app]
    show Lib.hasPrefix (32 :: _) _ = false
    exact prefix_no _ _ (by decide)
theorem rdGo_ways (T : Int) : ∀ (ws : List (List S96)) (r : List ByteArray) (d : List Int) (n : List S92) (x : S92), (∀ w ∈ ws, WyOk w) →
    rdGo T (ws.map wayQ ++ r) d (n ++ [x]) = rdGo T r d (n ++ [⟨x.f0, x.f1 ++ ws⟩])
  | [], r, d, n, x, _ => by simp
  | w :: ws, r, d, n, x, h => by
    rw [List.map_cons, List.cons_append]
    simp only [rdGo]
    rw [way_no_thread, if_neg (by simp), alt_way (h w (by simp)).2, if_pos ⟨rfl, by simp⟩, putLast_snoc, rdGo_ways T ws r d n _ (fun y hy => h y (by simp [hy]))]
    simp
theorem rdGo_body (T : Int) : ∀ (d2 : List Int) (n2 : List S92) (d : List Int) (n : List S92), d2.length = n2.length → (∀ t ∈ d2, 0 ≤ t ∧ t < 64) → (∀ x ∈ n2, NdOk x) →
    rdGo T (bodyQ d2 n2) d n = (T, d ++ d2, n ++ n2, true)
  | [], n2, d, n, hl, _, _ => by
    obtain rfl := List.eq_nil_of_length_eq_zero hl.symm
    unfold bodyQ; simp [rdGo]
  | t :: d2, [], d, n, hl, _, _ => by simp at hl
  | t :: d2, x :: n2, d, n, hl, hd, hn => by
    have ht := hd t (by simp)
    have hx := hn x (by simp)
    simp only [bodyQ, rdGo]
    rw [cpP_hit, rnum_it t (by omega) (by omega), if_pos rfl, if_pos rfl, rdGo_ways T x.f1 _ _ n _ hx.2.2, rdGo_body T d2 n2 _ _ (by simpa using hl) (fun z hz => hd z (by simp [hz])) (fun z hz => hn z (by simp [hz]))]
    have e : (⟨true, [] ++ x.f1⟩ : S92) = x := by
      have := hx.1
      cases x; simp at this ⊢; exact this
    rw [e]; simp
theorem rd_last3 (h e z : ByteArray) (b : List ByteArray) : rdOf ByteArray.empty (h :: (b ++ [e, z])) (((h :: (b ++ [e, z])).length : Int) - 1) = z ∧ rdOf ByteArray.empty (h :: (b ++ [e, z])) (((h :: (b ++ [e, z])).length : Int) - 2) = e ∧ rdOf ByteArray.empty (h :: (b ++ [e, z])) 0 = h ∧ ((h :: (b ++ [e, z])).take ((h :: (b ++ [e, z])).length - 2)).drop 1 = b := by
  have hl : (h :: (b ++ [e, z])).length = b.length + 3 := by simp
  rw [hl]
  have e1 : ((((b.length + 3 : Nat) : Int)) - 1) = ((b.length + 2 : Nat) : Int) := by omega
  have e2 : ((((b.length + 3 : Nat) : Int)) - 2) = ((b.length + 1 : Nat) : Int) := by omega
  rw [e1, e2]
  refine ⟨?_, ?_, ?_, ?_⟩
  · rw [rd_eq _ _ (by simp)]; simp [List.getElem_append]
  · rw [rd_eq _ _ (by simp)]; simp [List.getElem_append]
  · exact rd_eq (h :: (b ++ [e, z])) 0 (by simp)
  · rw [show b.length + 3 - 2 = b.length + 1 by omega, List.take_succ_cons, List.drop_succ_cons, List.drop_zero, List.take_left' rfl]
theorem rd_text {T : Int} {d : List Int} {n : List S92} (h : RpOk T d n) : rdP (linesQ T d n ++ [⟨#[]⟩]) = (T, d, n, true) := by
  have e : linesQ T d n ++ [⟨#[]⟩] = (sReport ++ itB T) :: (bodyQ d n ++ [sEnd, ⟨#[]⟩]) := by unfold linesQ; simp
  rw [e]
  obtain ⟨a, b, c, f⟩ := rd_last3 (sReport ++ itB T) sEnd ⟨#[]⟩ (bodyQ d n)
  unfold rdP
  rw [a, b, c, f, if_neg, cpP_hit, if_pos rfl, rnum_it T h.t0 (by have := h.t1; omega), if_pos rfl, rdGo_body T d n [] [] h.len h.d h.n]
  · simp
  · rintro (q | q | q)
    · simp at q; omega
    · exact q (Lib.toList_data _)
    · exact q (Lib.toList_data _)
theorem bodyQ_snoc : ∀ (d : List Int) (n : List S92) (t : Int) (x : S92), d.length = n.length → bodyQ (d ++ [t]) (n ++ [x]) = bodyQ d n ++ ((sThread ++ itB t) :: x.f1.map wayQ)
  | [], n, t, x, hl => by
    obtain rfl := List.eq_nil_of_length_eq_zero hl.symm
    simp [bodyQ]
  | a :: d, [], t, x, hl => by simp at hl
  | a :: d, y :: n, t, x, hl => by
    simp only [List.cons_append, bodyQ]
    rw [bodyQ_snoc d n t x (by simpa using hl)]
    simp
theorem rdGo_back (T : Int) : ∀ (ls : List ByteArray) (d0 : List Int) (n0 : List S92) (T' : Int) (d : List Int) (n : List S92), d0.length = n0.length → rdGo T ls d0 n0 = (T', d, n, true) → T' = T ∧ bodyQ d n = bodyQ d0 n0 ++ ls ∧ d.length = n.length
  | [], d0, n0, T', d, n, hl, h => by
    simp only [rdGo] at h
    injection h with h1 h; injection h with h2 h; injection h with h3 h
    subst h1; subst h2; subst h3
    exact ⟨rfl, by simp, hl⟩
  | s :: ls, d0, n0, T', d, n, hl, h => by
    simp only [rdGo] at h
    split at h
    · rename_i hp
      split at h
      · rename_i hr
        obtain ⟨a, b, c⟩ := rdGo_back T ls _ _ T' d n (by simp [hl]) h
        refine ⟨a, ?_, c⟩
        rw [b, bodyQ_snoc d0 n0 _ _ hl, rnum_yes hr, cpP_yes hp]
        simp
      · cases h
    · split at h
      · rename_i hc
        obtain ⟨n1, x, rfl⟩ : ∃ n1 x, n0 = n1 ++ [x] := ⟨n0.dropLast, n0.getLast hc.2, (List.dropLast_concat_getLast hc.2).symm⟩
        obtain ⟨d1, t, rfl⟩ : ∃ d1 t, d0 = d1 ++ [t] := by
          have hd : d0 ≠ [] := by rintro rfl; simp at hl
          exact ⟨d0.dropLast, d0.getLast hd, (List.dropLast_concat_getLast hd).symm⟩
        rw [putLast_snoc] at h
        obtain ⟨a, b, c⟩ := rdGo_back T ls _ _ T' d n (by simpa using hl) h
        refine ⟨a, ?_, c⟩
        rw [b, bodyQ_snoc d1 n1 _ _ (by simpa using hl), bodyQ_snoc d1 n1 _ _ (by simpa using hl)]
        simp [alt_back hc.1]
      · cases h
theorem rd_back {s : ByteArray} {T : Int} {d : List Int} {n : List S92} (h : rdP (splP s sNl) = (T, d, n, true)) : mkB (textL T d n) = s := by
  have hj := join_spl s sNl
  generalize splP s sNl = L at h hj
  unfold rdP at h
  split at h
  · cases h
  · rename_i hc
    have h3 : 3 ≤ L.length := by
      rcases Nat.lt_or_ge L.length 3 with q | q
      · exact absurd (.inl q) hc
      · exact q
    obtain ⟨hd, b, e, z, rfl⟩ : ∃ hd b e z, L = hd :: (b ++ [e, z]) := by
      cases L with
      | nil => simp at h3
      | cons hd L =>
        have n1 : L ≠ [] := by rintro rfl; simp at h3
        have e1 := List.dropLast_concat_getLast n1
        have n2 : L.dropLast ≠ [] := by
          intro q; have := congrArg List.length q; rw [List.length_dropLast] at this; simp at h3 this; omega
        have e2 := List.dropLast_concat_getLast n2
        refine ⟨hd, L.dropLast.dropLast, L.dropLast.getLast n2, L.getLast n1, ?_⟩
        rw [show ([L.dropLast.getLast n2, L.getLast n1] : List ByteArray) = [L.dropLast.getLast n2] ++ [L.getLast n1] from rfl, ← List.append_assoc, e2, e1]
    obtain ⟨r1, r2, r3, r4⟩ := rd_last3 hd e z b
    rw [r1, r2] at hc
    rw [r3, r4] at h
    have hz : z = ⟨#[]⟩ := by
      apply data_inj; rw [← Lib.toList_data]
      exact Classical.byContradiction (fun q => hc (.inr (.inl q)))
    have he : e = sEnd := by
      apply data_inj; rw [← Lib.toList_data]
      exact Classical.byContradiction (fun q => hc (.inr (.inr q)))
    split at h
    · rename_i hp
      split at h
      · rename_i hr
        obtain ⟨a, bb, _⟩ := rdGo_back _ b [] [] T d n rfl h
        have bb : bodyQ d n = b := bb
        have ea : sReport ++ itB T = hd := by rw [a, rnum_yes hr, cpP_yes hp]
        rw [textL_eq, ← join_nl, ← hj, hz, he]
        unfold linesQ
        rw [bb, ea]
        simp
      · cases h
    · cases h
end Go.Proofs.YtadepdeckapgcaaDoor.Rp
end

section
namespace Go.Proofs.YtadepdeckapgcaaDoor.PRp
open Go.RowKit Go.Proofs.YtadepdeckapgcaaDoor.Orc Go.Proofs.YtadepdeckapgcaaDoorW.PrintWords Go.Proofs.YtadepdeckapgcaaDoorW.PrintLast Go.Proofs.YtadepdeckapgcaaDoorW.PrintMore
attribute [local go_sem] max2_int min2_int max_two min_two max_three min_three max_four min_four
set_option linter.unusedVariables false
set_option linter.unusedSimpArgs false
mutual
def logjamlaw26_Own.l0 : Nat → List (S92) → List (S92) → Int → Option ((List (S92)))
 | 0, _, _, _ => none
 | k + 1, x0, x3, x4 => if x4 < (x0.length : Int) then (logjamlaw26_Own.j1 k x0 x3 x4 (decide (x4 < 70))) else (logjamlaw26_Own.j1 k x0 x3 x4 false)
def logjamlaw26_Own.j1 : Nat → List (S92) → List (S92) → Int → Bool → Option ((List (S92)))
 | 0, _, _, _, _ => none
 | k + 1, x0, x3, x4, x19 => if x19 = true then (if 0 ≤ x4 then (if x4 < (x0.length : Int) then (logjamlaw26_Own.l1 k x0 x3 x4 0 ((rd_T92 x0 x4).f0) ([] : List (List (S96)))) else (none)) else (none)) else (some x3)
def logjamlaw26_Own.l1 : Nat → List (S92) → List (S92) → Int → Int → Bool → List (List (S96)) → Option ((List (S92)))
 | 0, _, _, _, _, _, _ => none
 | k + 1, x0, x3, x4, x6, x169000, x169001 => if 0 ≤ x4 then (if x4 < (x0.length : Int) then (if x6 < (((rd_T92 x0 x4).f1).length : Int) then (logjamlaw26_Own.j3 k x0 x3 x4 x6 (decide (x6 < 6)) x169000 x169001) else (logjamlaw26_Own.j3 k x0 x3 x4 x6 false x169000 x169001)) else (none)) else (none)
def logjamlaw26_Own.j3 : Nat → List (S92) → List (S92) → Int → Int → Bool → Bool → List (List (S96)) → Option ((List (S92)))
 | 0, _, _, _, _, _, _, _ => none
 | k + 1, x0, x3, x4, x6, x39, x169000, x169001 => if x39 = true then (logjamlaw26_Own.l2 k x0 x3 x4 x6 (([] : List (S96))) 0 x169000 x169001) else (if x3.length < 4398046511104 then (logjamlaw26_Own.l0 k x0 (x3 ++ [(⟨x169000, x169001⟩ : S92)]) (wrap64 (x4 + 1))) else (none))
def logjamlaw26_Own.l2 : Nat → List (S92) → List (S92) → Int → Int → List (S96) → Int → Bool → List (List (S96)) → Option ((List (S92)))
 | 0, _, _, _, _, _, _, _, _ => none
 | k + 1, x0, x3, x4, x6, x7, x8, x169000, x169001 => if 0 ≤ x4 then (if x4 < (x0.length : Int) then (if 0 ≤ x6 then (if x6 < (((rd_T92 x0 x4).f1).length : Int) then (if x8 < ((rd_L7 ((rd_T92 x0 x4).f1) x6).length : Int) then (logjamlaw26_Own.j5 k x0 x3 x4 x6 x7 x8 (decide (x8 < 6)) x169000 x169001) else (logjamlaw26_Own.j5 k x0 x3 x4 x6 x7 x8 false x169000 x169001)) else (none)) else (none)) else (none)) else (none)
def logjamlaw26_Own.j5 : Nat → List (S92) → List (S92) → Int → Int → List (S96) → Int → Bool → Bool → List (List (S96)) → Option ((List (S92)))
 | 0, _, _, _, _, _, _, _, _, _ => none
 | k + 1, x0, x3, x4, x6, x7, x8, x57, x169000, x169001 => if x57 = true then (if 0 ≤ x4 then (if x4 < (x0.length : Int) then (if 0 ≤ x6 then (if x6 < (((rd_T92 x0 x4).f1).length : Int) then (if 0 ≤ x8 then (if x8 < ((rd_L7 ((rd_T92 x0 x4).f1) x6).length : Int) then (if (((rd_T96 (rd_L7 ((rd_T92 x0 x4).f1) x6) x8).f1).length : Int) > 70 then (if 70 ≤ (((rd_T96 (rd_L7 ((rd_T92 x0 x4).f1) x6) x8).f1).length : Int) then ((some (((rd_T96 (rd_L7 ((rd_T92 x0 x4).f1) x6) x8).f1).take 70 : List (S108))).bind fun y182 => ((some (([] : List (S108)) : List (S108))).bind fun y186 => (if y186.length + y182.length < 8796093022208 then (if x7.length < 4398046511104 then (logjamlaw26_Own.l2 k x0 x3 x4 x6 (x7 ++ [(⟨(rd_T96 (rd_L7 ((rd_T92 x0 x4).f1) x6) x8).f0, (y186 ++ y182)⟩ : S96)]) (wrap64 (x8 + 1)) x169000 x169001) else (none)) else (none)))) else (none)) else ((some (([] : List (S108)) : List (S108))).bind fun y195 => (if y195.length + ((rd_T96 (rd_L7 ((rd_T92 x0 x4).f1) x6) x8).f1).length < 8796093022208 then (if x7.length < 4398046511104 then (logjamlaw26_Own.l2 k x0 x3 x4 x6 (x7 ++ [(⟨(rd_T96 (rd_L7 ((rd_T92 x0 x4).f1) x6) x8).f0, (y195 ++ ((rd_T96 (rd_L7 ((rd_T92 x0 x4).f1) x6) x8).f1))⟩ : S96)]) (wrap64 (x8 + 1)) x169000 x169001) else (none)) else (none)))) else (none)) else (none)) else (none)) else (none)) else (none)) else (none)) else (if x169001.length < 5864062014805 then (logjamlaw26_Own.l1 k x0 x3 x4 (wrap64 (x6 + 1)) x169000 (x169001 ++ [x7])) else (none))
end
def logjamlaw26_Own.f (k : Nat) (l0 : List (S92)) : Option ((List (S92))) := logjamlaw26_Own.l0 k l0 (([] : List (S92))) 0
def logjamlaw26_Own.T17 : Bool × List (List Nat × List Nat) := (true, [([], []), ([], []), ([1], [1]), ([], []), ([], []), ([3, 4], [3, 4]), ([2, 5], [2, 5]), ([6], [6]), ([0, 7, 5], [0, 7]), ([8, 8, 0, 1, 2, 3, 4, 5, 6, 7, 8], [0, 8])])
def logjamlaw26_Own.B17 : List Nat := [0, 0, 2, 0, 0, 24, 62, 126, 255, 511]
theorem logjamlaw26_Own.tab17 : rtab .any (opsOf Tryd.f14 17) = logjamlaw26_Own.T17 := by kernel_rfl
theorem logjamlaw26_Own.bits17 : waitsOk logjamlaw26_Own.T17.2 logjamlaw26_Own.B17 = true := by kernel_rfl
set_option maxHeartbeats 8000000 in
set_option maxRecDepth 100000 in
theorem logjamlaw26_Own.calls (k : Nat) (A0 : Option Addr) (c0 : Nat) (l0 : List (S92)) (r : List (S92)) (w : World) (hr0 : Kd.C k92 w A0 l0.length l0) (hc0 : l0.length ≤ c0) (h : logjamlaw26_Own.f k l0 = some r) :
  Calls Tryd.prog 14 #[.slice A0 l0.length c0] w fun e w' => ∃ v0_ : Value, e = .returned (v0_) ∧ Kd.R k92 92 w' w.heap.size (fun _ => True) v0_ r ∧ Below w.heap.size w w' := by
 have hu92 := Tryd.underlying92
 have hu96 := Tryd.underlying96
 have HR0 := Aside0.mk hr0
 have HC0 := Aside0.mk hc0
 clear hr0 hc0
 have HB := Aside0.mk (Below.refl w.heap.size w)
 have H : (logjamlaw26_Own.l0 k l0 (([] : List (S92))) 0) = some r := h
 clear h
 obtain ⟨y164, hy164⟩ : ∃ y_ : List (S92), y_ = (([] : List (S92))) := ⟨_, rfl⟩
 replace H : (logjamlaw26_Own.l0 k l0 y164 0) = some r := by first | (rw [hy164]; with_reducible exact H) | (have H2_ := (Option.bind_some _ _).symm.trans H; rw [hy164]; with_reducible exact H2_) | (have H2_ := (Option.bind_some _ _).symm.trans H; with_reducible exact H2_) | with_reducible exact H | (rw [hy164]; exact H) | exact H
 have Ny164 := Aside0.mk hy164
 clear hy164
 have H' := Aside0.mk H
 clear H
 go_enter Tryd.func14, Tryd.ntmps14
 go_wp2_with (first | ((with_reducible refine gate_dst (N := 11) rfl ?_); refine Kd.R_lit k92 _ 92 ?hg (N := 11) ?hd (xs := ([] : List (S92))) (inner := []) (ok := fun _ => True) (okp := fun _ => True) ?hr ?hp (fun _ hk => hk) trivial (Below.refl _ _) (Nat.le_refl _) (by simp) ?_; (case hd => rfl); (case hg => rfl); (case hr => first | (go_simp; done) | (go_simp; rfl)); (case hp => exact (Reps.none _ _)); intro v165 w2 ho3 hb hg_ hnew_; clear hg_ hnew_; (first | rw [← Ny164.out] at ho3 | (simp only [Int.reduceToNat] at ho3; rw [← Ny164.out] at ho3)); have n0_ := Aside0.mk (Kd.R_lower ho3 (below_size (by repeat (first | (with_reducible first | exact HB.out | apply below_alloc | apply pw_below_drewN | apply below_drew1) | exact HB.out)))); have n1_ := Aside0.mk (below_step (by repeat (first | (with_reducible first | exact HB.out | apply below_alloc | apply pw_below_drewN | apply below_drew1) | exact HB.out)) hb); clear HB; have HO166 := n0_; have HB := n1_; clear n0_ n1_; clear hb ho3))
 go_loopg [3, 4] k (fun kq v3 v4 w' => ∃ (x3_1 : List (S92)) (x4_1 : Int), v4 = .int .i64 x4_1 ∧ Aside0 (logjamlaw26_Own.l0 kq l0 x3_1 x4_1 = some r) ∧ Aside0 (kq ≤ k) ∧ Aside0 (Kd.R k92 92 w' w.heap.size (fun _ => True) v3 x3_1) ∧ Aside0 (Below w.heap.size w w'))
 case atStart => exact ⟨(y164), (0), (by first | rfl | (simp; done) | (simp only [emptyNe_, emptyEq_]; done) | (simp [*]; done)), H', ⟨Nat.le_refl _⟩, ⟨by (with_reducible repeat (first | apply Kd.R_alloc | apply Kd.R_drewN | apply Kd.R_drew)); exact HO166.out⟩, ⟨by repeat (first | (with_reducible first | exact HB.out | apply below_alloc | apply pw_below_drewN | apply below_drew1) | exact HB.out)⟩⟩
 case round =>
  clear H'; try clear c1; try clear p2
  obtain ⟨x3_1, x4_1, rfl, HA, HK1, HO_3, HB⟩ := hrel
  cases gk with
  | zero => exact absurd HA.out (by simp [logjamlaw26_Own.l0])
  | succ k1 =>
   have H := HA.out
   clear HA
   simp only [logjamlaw26_Own.l0] at H
   have HC4 := Aside0.mk H
   clear H
   go_upto_region 3 with (fail)
   go_cut [19] (fun v19 wc => ∃ (kq : Nat) (x19_3 : Bool), v19 = .bool x19_3 ∧ Aside0 (logjamlaw26_Own.j1 kq l0 x3_1 x4_1 x19_3 = some r) ∧ Aside0 (kq ≤ k1) ∧ Aside0 (Kd.R k92 92 wc w.heap.size (fun _ => True) u3 x3_1) ∧ Aside0 (Below w.heap.size w wc))
   case first =>
    have H := HC4.out
    clear HC4
    by_cases c5 : x4_1 < (l0.length : Int)
    ·rw [if_pos c5] at H
     have c5b0 : decide (x4_1 < (l0.length : Int)) = true := decide_eq_true c5
     clear c5
     (first | rw [c5b0] | (simp only [i64_w, i32_w]; rw [c5b0]) | skip)
     have H' := Aside0.mk H
     clear H
     go_wp2
     go_meet
     case rel => exact ⟨_, (decide (x4_1 < 70)), (by first | rfl | (simp; done) | (simp only [emptyNe_, emptyEq_]; done) | (simp [*]; done)), H', ⟨by have := HK1.out; first | omega | exact Nat.le_refl _⟩, ⟨by (with_reducible repeat (first | apply Kd.R_alloc | apply Kd.R_drewN | apply Kd.R_drew)); exact HO_3.out⟩, ⟨by repeat (first | (with_reducible first | exact HB.out | apply below_alloc | apply pw_below_drewN | apply below_drew1) | exact HB.out)⟩⟩
    ·rw [if_neg c5] at H
     have c5b0 : decide (x4_1 < (l0.length : Int)) = false := decide_eq_false c5
     clear c5
     (first | rw [c5b0] | (simp only [i64_w, i32_w]; rw [c5b0]) | skip)
     have H' := Aside0.mk H
     clear H
     go_wp2
     go_meet
     case rel => exact ⟨_, (false), (by first | rfl | (simp; done) | (simp only [emptyNe_, emptyEq_]; done) | (simp [*]; done)), H', ⟨by have := HK1.out; first | omega | exact Nat.le_refl _⟩, ⟨by (with_reducible repeat (first | apply Kd.R_alloc | apply Kd.R_drewN | apply Kd.R_drew)); exact HO_3.out⟩, ⟨by repeat (first | (with_reducible first | exact HB.out | apply below_alloc | apply pw_below_drewN | apply below_drew1) | exact HB.out)⟩⟩
   case rest =>
    clear HC4; try clear c1; try clear p2; try clear c5; try clear c5b0; try clear p2
    obtain ⟨kq, x19_3, rfl, HA, HJ3, HO_3, HB⟩ := hcut
    cases kq with
    | zero => exact absurd HA.out (by simp [logjamlaw26_Own.j1])
    | succ kj3 =>
     have H := HA.out
     clear HA
     simp only [logjamlaw26_Own.j1] at H
     by_cases c6 : x19_3 = true
     ·subst c6
      have H1 : (if 0 ≤ x4_1 then (if x4_1 < (l0.length : Int) then (logjamlaw26_Own.l1 kj3 l0 x3_1 x4_1 0 ((rd_T92 l0 x4_1).f0) ([] : List (List (S96)))) else (none)) else (none)) = some r := by rw [if_pos rfl] at H; exact H
      clear H
      have H := H1
      clear H1
      by_cases c7 : 0 ≤ x4_1
      ·rw [if_pos c7] at H
       have c7b0 : decide (0 ≤ x4_1) = true := decide_eq_true c7
       clear c7
       by_cases c8 : x4_1 < (l0.length : Int)
       ·rw [if_pos c8] at H
        have c8b0 : decide (x4_1 < (l0.length : Int)) = true := decide_eq_true c8
        clear c8
        have H' := Aside0.mk H
        clear H
        have p167 : 0 ≤ (x4_1 : Int) := of_decide_eq_true (by first | (with_reducible assumption) | assumption)
        have q167 : x4_1 < (l0.length : Int) := of_decide_eq_true (by first | (with_reducible assumption) | assumption)
        obtain ⟨ad167, A167_1, c167_1, e167, hx167_0, hx167_1, hl167_1, hi167_1⟩ := at_T92 HR0.out x4_1 p167 q167
        cases e167
        replace hx167_0 := (HB.out.cell (World.block_lt_of_cell? w _ hx167_0)).trans hx167_0
        replace hx167_1 := (HB.out.cell (World.block_lt_of_cell? w _ hx167_1)).trans hx167_1
        have HR167_1 := Aside0.mk hi167_1
        have HC167_1 := Aside0.mk hl167_1
        clear hi167_1 hl167_1
        replace p167 := eq_true p167
        replace q167 := eq_true q167
        go_wp2_with (first | ((with_reducible refine gate_dst (N := 5) rfl ?_); refine box_event ?hg (N := 5) ?hd (cs := #[.bool false, .slice none 0 0]) (t := 92) ?hr ?_; (case hd => rfl); (case hg => rfl); (case hr => first | (go_simp; done) | (go_simp; rfl)); intro gb168 hg w9 hbox hb; have n0_ := Aside0.mk (Kd.R_below (Kd.R_elderB (by (with_reducible repeat (first | apply Kd.R_alloc | apply Kd.R_drewN | apply Kd.R_drew)); exact HO_3.out) gb168 (Nat.le_of_eq hg.symm)) hb); have n1_ := Aside0.mk (below_step (by repeat (first | (with_reducible first | exact HB.out | apply below_alloc | apply pw_below_drewN | apply below_drew1) | exact HB.out)) hb); have n2_ := Aside0.mk (hbox); have n3_ := Aside0.mk ((by rw [hg]; exact (below_size (by repeat (first | (with_reducible first | exact HB.out | apply below_alloc | apply pw_below_drewN | apply below_drew1) | exact HB.out))) : w.heap.size ≤ gb168)); have n4_ := Aside0.mk ((by rw [hg]; exact (below_size (by repeat (first | (with_reducible first | exact HB.out | apply below_alloc | apply pw_below_drewN | apply below_drew1) | exact HB.out))) : w.heap.size ≤ gb168)); clear HO_3; clear HB; have HO_3 := n0_; have HB := n1_; have BK168 := n2_; have GW168 := n3_; have GE168 := n4_; clear n0_ n1_ n2_ n3_ n4_; clear hb hbox hg; have hcz10_0 : w9.cell? ⟨gb168, 0, none⟩ = some (.bool false) := (blk_cell BK168.out 0).trans rfl; have hcz10_1 : w9.cell? ⟨gb168, 1, none⟩ = some (.slice none 0 0) := (blk_cell BK168.out 1).trans rfl; have hfz10_0 := blk_frozen BK168.out 0; have hfz10_1 := blk_frozen BK168.out 1))
        go_loopg [6] kj3 (fun kq v6 w' => ∃ (x6_3 : Int) (x169001_3 : List (List (S96))) (u169001 : Value), v6 = .int .i64 x6_3 ∧ Aside0 (logjamlaw26_Own.l1 kq l0 x3_1 x4_1 x6_3 ((rd_T92 l0 x4_1).f0) x169001_3 = some r) ∧ Aside0 (kq ≤ kj3) ∧ Aside0 (Kd.R k92 92 w' w.heap.size (fun k_ => some k_ ≠ (u169001 : Value).ownBlock ∧ k_ ≠ gb168) u3 x3_1) ∧ Aside0 (Kd.R (Kd.slice 96 k96) 93 w' w.heap.size (fun _ => True) u169001 x169001_3) ∧ Aside0 (w'.heap[gb168]? = some (.cells #[.bool ((rd_T92 l0 x4_1).f0), u169001] 92 (0, 0))) ∧ Aside0 (Below w.heap.size w w'))
        case atStart => exact ⟨(0), (([] : List (List (S96)))), (.slice none 0 0), (by first | rfl | (simp; done) | (simp only [emptyNe_, emptyEq_]; done) | (simp [*]; done)), H', ⟨Nat.le_refl _⟩, ⟨by (with_reducible repeat (first | apply Kd.R_alloc | apply Kd.R_drewN | apply Kd.R_drew)); exact Kd.R_mono (Kd.R_far (p := ⟨gb168, 1, none⟩) (Kd.R_far (p := ⟨gb168, 0, none⟩) (Kd.R_mono HO_3.out (fun k_ hk => (⟨hk, hk.2⟩ : _ ∧ k_ ≠ gb168))) (fun _ hk => hk.2) (.bool ((rd_T92 l0 x4_1).f0))) (fun _ hk => hk.2) (.slice none 0 0)) (fun _ hk => ⟨(by simp [Value.ownBlock]), hk.1.2⟩)⟩, ⟨by first | exact Kd.R_nil _ _ _ _ _ | exact Kd.N_nil _ _ _ _ _ | exact Kd.V_nil _ _ _ _ _ | exact Kd.Q_nil _ _ _ _ _ | exact Kd.S_nil _ _ _ _ _⟩, ⟨by (with_reducible repeat (first | refine blk_drewN ?_ _ | refine blk_drew ?_ | refine blk_alloc ?_ _)); refine blk_put (cs := #[.bool ((rd_T92 l0 x4_1).f0), .slice none 0 0]) ?_ 1 _ rfl; (with_reducible repeat (first | refine blk_drewN ?_ _ | refine blk_drew ?_ | refine blk_alloc ?_ _)); refine blk_put (cs := #[.bool false, .slice none 0 0]) ?_ 0 _ rfl; (with_reducible repeat (first | refine blk_drewN ?_ _ | refine blk_drew ?_ | refine blk_alloc ?_ _)); exact BK168.out⟩, ⟨by repeat (first | (with_reducible first | exact HB.out | apply below_alloc | apply pw_below_drewN | apply below_drew1 | refine below_set ?_ GE168.out) | exact HB.out)⟩⟩
        case round =>
         clear H'; try clear c1; try clear p1; try clear q1; try clear hx1; try clear p2; try clear c5; try clear c5b0; try clear c6; try clear c7; try clear c7b0; try clear c8; try clear c8b0; try clear hcz10_0; try clear hcz10_1; try clear hfz10_0; try clear hfz10_1; try clear hx167_0; try clear hx167_1; try clear p167; try clear p2; try clear q167
         obtain ⟨x6_3, x169001_3, u169001, rfl, HA, HK3, HO_3, HO_169001, BK168, HB⟩ := hrel
         cases gk with
         | zero => exact absurd HA.out (by simp [logjamlaw26_Own.l1])
         | succ k3 =>
          have H := HA.out
          clear HA
          simp only [logjamlaw26_Own.l1] at H
          have HC11 := Aside0.mk H
          clear H
          go_upto_region 7 with (fail)
          go_cut [39] (fun v39 wc => ∃ (kq : Nat) (x39_10 : Bool), v39 = .bool x39_10 ∧ Aside0 (logjamlaw26_Own.j3 kq l0 x3_1 x4_1 x6_3 x39_10 ((rd_T92 l0 x4_1).f0) x169001_3 = some r) ∧ Aside0 (kq ≤ k3) ∧ Aside0 (Kd.R k92 92 wc w.heap.size (fun k_ => some k_ ≠ (u169001 : Value).ownBlock ∧ k_ ≠ gb168) u3 x3_1) ∧ Aside0 (Kd.R (Kd.slice 96 k96) 93 wc w.heap.size (fun _ => True) u169001 x169001_3) ∧ Aside0 (wc.heap[gb168]? = some (.cells #[.bool ((rd_T92 l0 x4_1).f0), u169001] 92 (0, 0))) ∧ Aside0 (Below w.heap.size w wc))
          case first =>
           have H := HC11.out
           clear HC11
           by_cases c12 : 0 ≤ x4_1
           ·rw [if_pos c12] at H
            have c12b0 : decide (0 ≤ x4_1) = true := decide_eq_true c12
            clear c12
            (first | rw [c12b0] | (simp only [i64_w, i32_w]; rw [c12b0]) | skip)
            by_cases c13 : x4_1 < (l0.length : Int)
            ·rw [if_pos c13] at H
             have c13b0 : decide (x4_1 < (l0.length : Int)) = true := decide_eq_true c13
             clear c13
             by_cases c14 : x6_3 < (((rd_T92 l0 x4_1).f1).length : Int)
             ·rw [if_pos c14] at H
              have c14b0 : decide (x6_3 < (((rd_T92 l0 x4_1).f1).length : Int)) = true := decide_eq_true c14
              clear c14
              have H' := Aside0.mk H
              clear H
              have p169 : 0 ≤ (x4_1 : Int) := of_decide_eq_true (by first | (with_reducible assumption) | assumption)
              have q169 : x4_1 < (l0.length : Int) := of_decide_eq_true (by first | (with_reducible assumption) | assumption)
              obtain ⟨ad169, A169_1, c169_1, e169, hx169_0, hx169_1, hl169_1, hi169_1⟩ := at_T92 HR0.out x4_1 p169 q169
              obtain rfl : ad167 = ad169 := (by injection e169)
              replace hx169_0 := (HB.out.cell (World.block_lt_of_cell? w _ hx169_0)).trans hx169_0
              replace hx169_1 := (HB.out.cell (World.block_lt_of_cell? w _ hx169_1)).trans hx169_1
              have HR169_1 := Aside0.mk hi169_1
              have HC169_1 := Aside0.mk hl169_1
              clear hi169_1 hl169_1
              replace p169 := eq_true p169
              replace q169 := eq_true q169
              go_wp2
              go_meet
              case rel => exact ⟨_, (decide (x6_3 < 6)), (by first | rfl | (simp; done) | (simp only [emptyNe_, emptyEq_]; done) | (simp [*]; done)), H', ⟨by have := HK1.out; have := HJ3.out; have := HK3.out; first | omega | exact Nat.le_refl _⟩, ⟨by (with_reducible repeat (first | apply Kd.R_alloc | apply Kd.R_drewN | apply Kd.R_drew)); exact HO_3.out⟩, ⟨by (with_reducible repeat (first | apply Kd.R_alloc | apply Kd.R_drewN | apply Kd.R_drew)); exact HO_169001.out⟩, ⟨by (with_reducible repeat (first | refine blk_drewN ?_ _ | refine blk_drew ?_ | refine blk_alloc ?_ _)); exact BK168.out⟩, ⟨by repeat (first | (with_reducible first | exact HB.out | apply below_alloc | apply pw_below_drewN | apply below_drew1 | refine below_set ?_ GE168.out) | exact HB.out)⟩⟩
             ·rw [if_neg c14] at H
              have c14b0 : decide (x6_3 < (((rd_T92 l0 x4_1).f1).length : Int)) = false := decide_eq_false c14
              clear c14
              have H' := Aside0.mk H
              clear H
              have p169 : 0 ≤ (x4_1 : Int) := of_decide_eq_true (by first | (with_reducible assumption) | assumption)
              have q169 : x4_1 < (l0.length : Int) := of_decide_eq_true (by first | (with_reducible assumption) | assumption)
              obtain ⟨ad169, A169_1, c169_1, e169, hx169_0, hx169_1, hl169_1, hi169_1⟩ := at_T92 HR0.out x4_1 p169 q169
              obtain rfl : ad167 = ad169 := (by injection e169)
              replace hx169_0 := (HB.out.cell (World.block_lt_of_cell? w _ hx169_0)).trans hx169_0
              replace hx169_1 := (HB.out.cell (World.block_lt_of_cell? w _ hx169_1)).trans hx169_1
              have HR169_1 := Aside0.mk hi169_1
              have HC169_1 := Aside0.mk hl169_1
              clear hi169_1 hl169_1
              replace p169 := eq_true p169
              replace q169 := eq_true q169
              go_wp2
              go_meet
              case rel => exact ⟨_, (false), (by first | rfl | (simp; done) | (simp only [emptyNe_, emptyEq_]; done) | (simp [*]; done)), H', ⟨by have := HK1.out; have := HJ3.out; have := HK3.out; first | omega | exact Nat.le_refl _⟩, ⟨by (with_reducible repeat (first | apply Kd.R_alloc | apply Kd.R_drewN | apply Kd.R_drew)); exact HO_3.out⟩, ⟨by (with_reducible repeat (first | apply Kd.R_alloc | apply Kd.R_drewN | apply Kd.R_drew)); exact HO_169001.out⟩, ⟨by (with_reducible repeat (first | refine blk_drewN ?_ _ | refine blk_drew ?_ | refine blk_alloc ?_ _)); exact BK168.out⟩, ⟨by repeat (first | (with_reducible first | exact HB.out | apply below_alloc | apply pw_below_drewN | apply below_drew1 | refine below_set ?_ GE168.out) | exact HB.out)⟩⟩
            ·rw [if_neg c13] at H
             exact absurd H (by simp)
           ·rw [if_neg c12] at H
            exact absurd H (by simp)
          case rest =>
           clear HC11; try clear c1; try clear p1; try clear q1; try clear hx1; try clear p2; try clear c5; try clear c5b0; try clear c6; try clear c7; try clear c7b0; try clear c8; try clear c8b0; try clear c12; try clear c12b0; try clear c13; try clear c13b0; try clear c14; try clear c14b0; try clear hcz10_0; try clear hcz10_1; try clear hfz10_0; try clear hfz10_1; try clear hx167_0; try clear hx167_1; try clear hx169_0; try clear hx169_1; try clear p1; try clear p167; try clear p169; try clear p2; try clear q1; try clear q167; try clear q169
           obtain ⟨kq, x39_10, rfl, HA, HJ10, HO_3, HO_169001, BK168, HB⟩ := hcut
           cases kq with
           | zero => exact absurd HA.out (by simp [logjamlaw26_Own.j3])
           | succ kj10 =>
            have H := HA.out
            clear HA
            simp only [logjamlaw26_Own.j3] at H
            by_cases c15 : x39_10 = true
            ·subst c15
             have H1 : (logjamlaw26_Own.l2 kj10 l0 x3_1 x4_1 x6_3 (([] : List (S96))) 0 ((rd_T92 l0 x4_1).f0) x169001_3) = some r := by rw [if_pos rfl] at H; exact H
             clear H
             have H := H1
             clear H1
             obtain ⟨y173, hy173⟩ : ∃ y_ : List (S96), y_ = (([] : List (S96))) := ⟨_, rfl⟩
             replace H : (logjamlaw26_Own.l2 kj10 l0 x3_1 x4_1 x6_3 y173 0 ((rd_T92 l0 x4_1).f0) x169001_3) = some r := by first | (rw [hy173]; with_reducible exact H) | (have H2_ := (Option.bind_some _ _).symm.trans H; rw [hy173]; with_reducible exact H2_) | (have H2_ := (Option.bind_some _ _).symm.trans H; with_reducible exact H2_) | with_reducible exact H | (rw [hy173]; exact H) | exact H
             have Ny173 := Aside0.mk hy173
             clear hy173
             have H' := Aside0.mk H
             clear H
             go_wp2_with (first | ((with_reducible refine gate_dst (N := 42) rfl ?_); refine Kd.S_lit k96 _ 96 ?hg (N := 42) ?hd (xs := ([] : List (S96))) (inner := []) (ok := fun _ => True) (okp := fun _ => True) ?hr ?hp (fun _ hk => hk) trivial (Below.refl _ _) (Nat.le_refl _) (by simp) ?_; (case hd => rfl); (case hg => rfl); (case hr => first | (go_simp; done) | (go_simp; rfl)); (case hp => exact (Reps.none _ _)); intro v174 w16 ho17 hb hg_ hnew_; clear hg_ hnew_; (first | rw [← Ny173.out] at ho17 | (simp only [Int.reduceToNat] at ho17; rw [← Ny173.out] at ho17)); have n0_ := Aside0.mk (Kd.R_elder' (by (with_reducible repeat (first | apply Kd.R_alloc | apply Kd.R_drewN | apply Kd.R_drew)); exact HO_3.out) (Kd.S_base ho17) hb); have n1_ := Aside0.mk (Kd.R_elder' (by (with_reducible repeat (first | apply Kd.R_alloc | apply Kd.R_drewN | apply Kd.R_drew)); exact HO_169001.out) (Kd.S_base ho17) hb); have n2_ := Aside0.mk (Kd.S_lower ho17 (below_size (by repeat (first | (with_reducible first | exact HB.out | apply below_alloc | apply pw_below_drewN | apply below_drew1 | refine below_set ?_ GE168.out) | exact HB.out)))); have n3_ := Aside0.mk (blk_below (g := gb168) (o := .cells #[.bool ((rd_T92 l0 x4_1).f0), u169001] 92 (0, 0)) (by (with_reducible repeat (first | refine blk_drewN ?_ _ | refine blk_drew ?_ | refine blk_alloc ?_ _)); exact BK168.out) hb); have n4_ := Aside0.mk (below_step (by repeat (first | (with_reducible first | exact HB.out | apply below_alloc | apply pw_below_drewN | apply below_drew1 | refine below_set ?_ GE168.out) | exact HB.out)) hb); clear HO_3; clear HO_169001; clear BK168; clear HB; have HO_3 := n0_; have HO_169001 := n1_; have HO175 := n2_; have BK168 := n3_; have HB := n4_; clear n0_ n1_ n2_ n3_ n4_; clear hb ho17))
             go_loopg [7, 8] kj10 (fun kq v7 v8 w' => ∃ (x7_5 : List (S96)) (x8_5 : Int), v8 = .int .i64 x8_5 ∧ Aside0 (logjamlaw26_Own.l2 kq l0 x3_1 x4_1 x6_3 x7_5 x8_5 ((rd_T92 l0 x4_1).f0) x169001_3 = some r) ∧ Aside0 (kq ≤ kj10) ∧ Aside0 (Kd.R k92 92 w' w.heap.size (fun k_ => some k_ ≠ (v7 : Value).ownBlock ∧ some k_ ≠ (u169001 : Value).ownBlock ∧ k_ ≠ gb168) u3 x3_1) ∧ Aside0 (Kd.S k96 96 w' w.heap.size (fun _ => True) v7 x7_5) ∧ Aside0 (Kd.R (Kd.slice 96 k96) 93 w' w.heap.size (fun k_ => some k_ ≠ (v7 : Value).ownBlock) u169001 x169001_3) ∧ Aside0 (w'.heap[gb168]? = some (.cells #[.bool ((rd_T92 l0 x4_1).f0), u169001] 92 (0, 0))) ∧ Aside0 (Below w.heap.size w w'))
             case atStart => exact ⟨(y173), (0), (by first | rfl | (simp; done) | (simp only [emptyNe_, emptyEq_]; done) | (simp [*]; done)), H', ⟨Nat.le_refl _⟩, ⟨by (with_reducible repeat (first | apply Kd.R_alloc | apply Kd.R_drewN | apply Kd.R_drew)); exact Kd.R_mono HO_3.out (fun _ hk => ⟨hk.2, ⟨hk.1.1, hk.1.2⟩⟩)⟩, ⟨by (with_reducible repeat (first | apply Kd.S_alloc | apply Kd.S_drewN | apply Kd.S_drew)); exact HO175.out⟩, ⟨by (with_reducible repeat (first | apply Kd.R_alloc | apply Kd.R_drewN | apply Kd.R_drew)); exact Kd.R_mono HO_169001.out (fun _ hk => hk.2)⟩, ⟨by (with_reducible repeat (first | refine blk_drewN ?_ _ | refine blk_drew ?_ | refine blk_alloc ?_ _)); exact BK168.out⟩, ⟨by repeat (first | (with_reducible first | exact HB.out | apply below_alloc | apply pw_below_drewN | apply below_drew1 | refine below_set ?_ GE168.out) | exact HB.out)⟩⟩
             case round =>
              clear H'; try clear c1; try clear p1; try clear q1; try clear hx1; try clear p2; try clear c5; try clear c5b0; try clear c6; try clear c7; try clear c7b0; try clear c8; try clear c8b0; try clear c12; try clear c12b0; try clear c13; try clear c13b0; try clear c14; try clear c14b0; try clear c15; try clear c16; try clear p16; try clear q16; try clear hx16; try clear hcz10_0; try clear hcz10_1; try clear hfz10_0; try clear hfz10_1; try clear hx167_0; try clear hx167_1; try clear hx169_0; try clear hx169_1; try clear p1; try clear p167; try clear p169; try clear p2; try clear q1; try clear q167; try clear q169
              obtain ⟨x7_5, x8_5, rfl, HA, HK5, HO_3, HO_7, HO_169001, BK168, HB⟩ := hrel
              cases gk with
              | zero => exact absurd HA.out (by simp [logjamlaw26_Own.l2])
              | succ k5 =>
               have H := HA.out
               clear HA
               simp only [logjamlaw26_Own.l2] at H
               have HC18 := Aside0.mk H
               clear H
               go_upto_region 11 with (fail)
               go_cut [57] (fun v57 wc => ∃ (kq : Nat) (x57_17 : Bool), v57 = .bool x57_17 ∧ Aside0 (logjamlaw26_Own.j5 kq l0 x3_1 x4_1 x6_3 x7_5 x8_5 x57_17 ((rd_T92 l0 x4_1).f0) x169001_3 = some r) ∧ Aside0 (kq ≤ k5) ∧ Aside0 (Kd.R k92 92 wc w.heap.size (fun k_ => some k_ ≠ (u7 : Value).ownBlock ∧ some k_ ≠ (u169001 : Value).ownBlock ∧ k_ ≠ gb168) u3 x3_1) ∧ Aside0 (Kd.S k96 96 wc w.heap.size (fun _ => True) u7 x7_5) ∧ Aside0 (Kd.R (Kd.slice 96 k96) 93 wc w.heap.size (fun k_ => some k_ ≠ (u7 : Value).ownBlock) u169001 x169001_3) ∧ Aside0 (wc.heap[gb168]? = some (.cells #[.bool ((rd_T92 l0 x4_1).f0), u169001] 92 (0, 0))) ∧ Aside0 (Below w.heap.size w wc))
               case first =>
                have H := HC18.out
                clear HC18
                by_cases c19 : 0 ≤ x4_1
                ·rw [if_pos c19] at H
                 have c19b0 : decide (0 ≤ x4_1) = true := decide_eq_true c19
                 clear c19
                 (first | rw [c19b0] | (simp only [i64_w, i32_w]; rw [c19b0]) | skip)
                 by_cases c20 : x4_1 < (l0.length : Int)
                 ·rw [if_pos c20] at H
                  have c20b0 : decide (x4_1 < (l0.length : Int)) = true := decide_eq_true c20
                  clear c20
                  by_cases c21 : 0 ≤ x6_3
                  ·rw [if_pos c21] at H
                   have c21b0 : decide (0 ≤ x6_3) = true := decide_eq_true c21
                   clear c21
                   by_cases c22 : x6_3 < (((rd_T92 l0 x4_1).f1).length : Int)
                   ·rw [if_pos c22] at H
                    have c22b0 : decide (x6_3 < (((rd_T92 l0 x4_1).f1).length : Int)) = true := decide_eq_true c22
                    clear c22
                    by_cases c23 : x8_5 < ((rd_L7 ((rd_T92 l0 x4_1).f1) x6_3).length : Int)
                    ·rw [if_pos c23] at H
                     have c23b0 : decide (x8_5 < ((rd_L7 ((rd_T92 l0 x4_1).f1) x6_3).length : Int)) = true := decide_eq_true c23
                     clear c23
                     have H' := Aside0.mk H
                     clear H
                     have p176 : 0 ≤ (x4_1 : Int) := of_decide_eq_true (by first | (with_reducible assumption) | assumption)
                     have q176 : x4_1 < (l0.length : Int) := of_decide_eq_true (by first | (with_reducible assumption) | assumption)
                     obtain ⟨ad176, A176_1, c176_1, e176, hx176_0, hx176_1, hl176_1, hi176_1⟩ := at_T92 HR0.out x4_1 p176 q176
                     obtain rfl : ad167 = ad176 := (by injection e176)
                     replace hx176_0 := (HB.out.cell (World.block_lt_of_cell? w _ hx176_0)).trans hx176_0
                     replace hx176_1 := (HB.out.cell (World.block_lt_of_cell? w _ hx176_1)).trans hx176_1
                     have HR176_1 := Aside0.mk hi176_1
                     have HC176_1 := Aside0.mk hl176_1
                     clear hi176_1 hl176_1
                     replace p176 := eq_true p176
                     replace q176 := eq_true q176
                     have p177 : 0 ≤ (x6_3 : Int) := of_decide_eq_true (by first | (with_reducible assumption) | assumption)
                     have q177 : x6_3 < (((rd_T92 l0 x4_1).f1).length : Int) := of_decide_eq_true (by first | (with_reducible assumption) | assumption)
                     obtain ⟨ad177, A177_0, c177_0, e177, hx177_0, hl177_0, hi177_0⟩ := at_L7 HR176_1.out x6_3 p177 q177
                     cases e177
                     replace hx177_0 := (HB.out.cell (World.block_lt_of_cell? w _ hx177_0)).trans hx177_0
                     have HR177_0 := Aside0.mk hi177_0
                     have HC177_0 := Aside0.mk hl177_0
                     clear hi177_0 hl177_0
                     replace p177 := eq_true p177
                     replace q177 := eq_true q177
                     go_wp2
                     go_meet
                     case rel => exact ⟨_, (decide (x8_5 < 6)), (by first | rfl | (simp; done) | (simp only [emptyNe_, emptyEq_]; done) | (simp [*]; done)), H', ⟨by have := HK1.out; have := HJ3.out; have := HK3.out; have := HJ10.out; have := HK5.out; first | omega | exact Nat.le_refl _⟩, ⟨by (with_reducible repeat (first | apply Kd.R_alloc | apply Kd.R_drewN | apply Kd.R_drew)); exact HO_3.out⟩, ⟨by (with_reducible repeat (first | apply Kd.S_alloc | apply Kd.S_drewN | apply Kd.S_drew)); exact HO_7.out⟩, ⟨by (with_reducible repeat (first | apply Kd.R_alloc | apply Kd.R_drewN | apply Kd.R_drew)); exact HO_169001.out⟩, ⟨by (with_reducible repeat (first | refine blk_drewN ?_ _ | refine blk_drew ?_ | refine blk_alloc ?_ _)); exact BK168.out⟩, ⟨by repeat (first | (with_reducible first | exact HB.out | apply below_alloc | apply pw_below_drewN | apply below_drew1 | refine below_set ?_ GE168.out) | exact HB.out)⟩⟩
                    ·rw [if_neg c23] at H
                     have c23b0 : decide (x8_5 < ((rd_L7 ((rd_T92 l0 x4_1).f1) x6_3).length : Int)) = false := decide_eq_false c23
                     clear c23
                     have H' := Aside0.mk H
                     clear H
                     have p176 : 0 ≤ (x4_1 : Int) := of_decide_eq_true (by first | (with_reducible assumption) | assumption)
                     have q176 : x4_1 < (l0.length : Int) := of_decide_eq_true (by first | (with_reducible assumption) | assumption)
                     obtain ⟨ad176, A176_1, c176_1, e176, hx176_0, hx176_1, hl176_1, hi176_1⟩ := at_T92 HR0.out x4_1 p176 q176
                     obtain rfl : ad167 = ad176 := (by injection e176)
                     replace hx176_0 := (HB.out.cell (World.block_lt_of_cell? w _ hx176_0)).trans hx176_0
                     replace hx176_1 := (HB.out.cell (World.block_lt_of_cell? w _ hx176_1)).trans hx176_1
                     have HR176_1 := Aside0.mk hi176_1
                     have HC176_1 := Aside0.mk hl176_1
                     clear hi176_1 hl176_1
                     replace p176 := eq_true p176
                     replace q176 := eq_true q176
                     have p177 : 0 ≤ (x6_3 : Int) := of_decide_eq_true (by first | (with_reducible assumption) | assumption)
                     have q177 : x6_3 < (((rd_T92 l0 x4_1).f1).length : Int) := of_decide_eq_true (by first | (with_reducible assumption) | assumption)
                     obtain ⟨ad177, A177_0, c177_0, e177, hx177_0, hl177_0, hi177_0⟩ := at_L7 HR176_1.out x6_3 p177 q177
                     cases e177
                     replace hx177_0 := (HB.out.cell (World.block_lt_of_cell? w _ hx177_0)).trans hx177_0
                     have HR177_0 := Aside0.mk hi177_0
                     have HC177_0 := Aside0.mk hl177_0
                     clear hi177_0 hl177_0
                     replace p177 := eq_true p177
                     replace q177 := eq_true q177
                     go_wp2
                     go_meet
                     case rel => exact ⟨_, (false), (by first | rfl | (simp; done) | (simp only [emptyNe_, emptyEq_]; done) | (simp [*]; done)), H', ⟨by have := HK1.out; have := HJ3.out; have := HK3.out; have := HJ10.out; have := HK5.out; first | omega | exact Nat.le_refl _⟩, ⟨by (with_reducible repeat (first | apply Kd.R_alloc | apply Kd.R_drewN | apply Kd.R_drew)); exact HO_3.out⟩, ⟨by (with_reducible repeat (first | apply Kd.S_alloc | apply Kd.S_drewN | apply Kd.S_drew)); exact HO_7.out⟩, ⟨by (with_reducible repeat (first | apply Kd.R_alloc | apply Kd.R_drewN | apply Kd.R_drew)); exact HO_169001.out⟩, ⟨by (with_reducible repeat (first | refine blk_drewN ?_ _ | refine blk_drew ?_ | refine blk_alloc ?_ _)); exact BK168.out⟩, ⟨by repeat (first | (with_reducible first | exact HB.out | apply below_alloc | apply pw_below_drewN | apply below_drew1 | refine below_set ?_ GE168.out) | exact HB.out)⟩⟩
                   ·rw [if_neg c22] at H
                    exact absurd H (by simp)
                  ·rw [if_neg c21] at H
                   exact absurd H (by simp)
                 ·rw [if_neg c20] at H
                  exact absurd H (by simp)
                ·rw [if_neg c19] at H
                 exact absurd H (by simp)
               case rest =>
                clear HC18; try clear c1; try clear p1; try clear q1; try clear hx1; try clear c2; try clear p2; try clear c5; try clear c5b0; try clear c6; try clear c7; try clear c7b0; try clear c8; try clear c8b0; try clear c12; try clear c12b0; try clear c13; try clear c13b0; try clear c14; try clear c14b0; try clear c15; try clear c16; try clear p16; try clear q16; try clear hx16; try clear c17; try clear p17; try clear q17; try clear hx17; try clear c19; try clear c19b0; try clear c20; try clear c20b0; try clear c21; try clear c21b0; try clear c22; try clear c22b0; try clear c23; try clear c23b0; try clear hcz10_0; try clear hcz10_1; try clear hfz10_0; try clear hfz10_1; try clear hx167_0; try clear hx167_1; try clear hx169_0; try clear hx169_1; try clear hx176_0; try clear hx176_1; try clear hx177_0; try clear p1; try clear p16; try clear p167; try clear p169; try clear p176; try clear p177; try clear p2; try clear q1; try clear q16; try clear q167; try clear q169; try clear q176; try clear q177
                obtain ⟨kq, x57_17, rfl, HA, HJ17, HO_3, HO_7, HO_169001, BK168, HB⟩ := hcut
                cases kq with
                | zero => exact absurd HA.out (by simp [logjamlaw26_Own.j5])
                | succ kj17 =>
                 have H := HA.out
                 clear HA
                 simp only [logjamlaw26_Own.j5] at H
                 by_cases c24 : x57_17 = true
                 ·subst c24
                  have H1 : (if 0 ≤ x4_1 then (if x4_1 < (l0.length : Int) then (if 0 ≤ x6_3 then (if x6_3 < (((rd_T92 l0 x4_1).f1).length : Int) then (if 0 ≤ x8_5 then (if x8_5 < ((rd_L7 ((rd_T92 l0 x4_1).f1) x6_3).length : Int) then (if (((rd_T96 (rd_L7 ((rd_T92 l0 x4_1).f1) x6_3) x8_5).f1).length : Int) > 70 then (if 70 ≤ (((rd_T96 (rd_L7 ((rd_T92 l0 x4_1).f1) x6_3) x8_5).f1).length : Int) then ((some (((rd_T96 (rd_L7 ((rd_T92 l0 x4_1).f1) x6_3) x8_5).f1).take 70 : List (S108))).bind fun y182 => ((some (([] : List (S108)) : List (S108))).bind fun y186 => (if y186.length + y182.length < 8796093022208 then (if x7_5.length < 4398046511104 then (logjamlaw26_Own.l2 kj17 l0 x3_1 x4_1 x6_3 (x7_5 ++ [(⟨(rd_T96 (rd_L7 ((rd_T92 l0 x4_1).f1) x6_3) x8_5).f0, (y186 ++ y182)⟩ : S96)]) (wrap64 (x8_5 + 1)) ((rd_T92 l0 x4_1).f0) x169001_3) else (none)) else (none)))) else (none)) else ((some (([] : List (S108)) : List (S108))).bind fun y195 => (if y195.length + ((rd_T96 (rd_L7 ((rd_T92 l0 x4_1).f1) x6_3) x8_5).f1).length < 8796093022208 then (if x7_5.length < 4398046511104 then (logjamlaw26_Own.l2 kj17 l0 x3_1 x4_1 x6_3 (x7_5 ++ [(⟨(rd_T96 (rd_L7 ((rd_T92 l0 x4_1).f1) x6_3) x8_5).f0, (y195 ++ ((rd_T96 (rd_L7 ((rd_T92 l0 x4_1).f1) x6_3) x8_5).f1))⟩ : S96)]) (wrap64 (x8_5 + 1)) ((rd_T92 l0 x4_1).f0) x169001_3) else (none)) else (none)))) else (none)) else (none)) else (none)) else (none)) else (none)) else (none)) = some r := by rw [if_pos rfl] at H; exact H
                  clear H
                  have H := H1
                  clear H1
                  by_cases c25 : 0 ≤ x4_1
                  ·rw [if_pos c25] at H
                   have c25b0 : decide (0 ≤ x4_1) = true := decide_eq_true c25
                   clear c25
                   by_cases c26 : x4_1 < (l0.length : Int)
                   ·rw [if_pos c26] at H
                    have c26b0 : decide (x4_1 < (l0.length : Int)) = true := decide_eq_true c26
                    clear c26
                    by_cases c27 : 0 ≤ x6_3
                    ·rw [if_pos c27] at H
                     have c27b0 : decide (0 ≤ x6_3) = true := decide_eq_true c27
                     clear c27
                     by_cases c28 : x6_3 < (((rd_T92 l0 x4_1).f1).length : Int)
                     ·rw [if_pos c28] at H
                      have c28b0 : decide (x6_3 < (((rd_T92 l0 x4_1).f1).length : Int)) = true := decide_eq_true c28
                      clear c28
                      by_cases c29 : 0 ≤ x8_5
                      ·rw [if_pos c29] at H
                       have c29b0 : decide (0 ≤ x8_5) = true := decide_eq_true c29
                       clear c29
                       by_cases c30 : x8_5 < ((rd_L7 ((rd_T92 l0 x4_1).f1) x6_3).length : Int)
                       ·rw [if_pos c30] at H
                        have c30b0 : decide (x8_5 < ((rd_L7 ((rd_T92 l0 x4_1).f1) x6_3).length : Int)) = true := decide_eq_true c30
                        clear c30
                        by_cases c31 : (((rd_T96 (rd_L7 ((rd_T92 l0 x4_1).f1) x6_3) x8_5).f1).length : Int) > 70
                        ·rw [if_pos c31] at H
                         have c31b0 : decide (70 < (((rd_T96 (rd_L7 ((rd_T92 l0 x4_1).f1) x6_3) x8_5).f1).length : Int)) = true := decide_eq_true c31
                         have c31b1 : decide (70 < ((rd_T96 (rd_L7 ((rd_T92 l0 x4_1).f1) x6_3) x8_5).f1).length) = true := decide_eq_true (by omega)
                         clear c31
                         by_cases c32 : 70 ≤ (((rd_T96 (rd_L7 ((rd_T92 l0 x4_1).f1) x6_3) x8_5).f1).length : Int)
                         ·rw [if_pos c32] at H
                          have c32b0 := eq_true c32
                          have c32b1 : decide (70 ≤ (((rd_T96 (rd_L7 ((rd_T92 l0 x4_1).f1) x6_3) x8_5).f1).length : Int)) = true := decide_eq_true c32
                          clear c32
                          obtain ⟨y182, hy182⟩ : ∃ y_ : List (S108), y_ = (((rd_T96 (rd_L7 ((rd_T92 l0 x4_1).f1) x6_3) x8_5).f1).take 70) := ⟨_, rfl⟩
                          replace H : ((some (([] : List (S108)) : List (S108))).bind fun y186 => (if y186.length + y182.length < 8796093022208 then (if x7_5.length < 4398046511104 then (logjamlaw26_Own.l2 kj17 l0 x3_1 x4_1 x6_3 (x7_5 ++ [(⟨(rd_T96 (rd_L7 ((rd_T92 l0 x4_1).f1) x6_3) x8_5).f0, (y186 ++ y182)⟩ : S96)]) (wrap64 (x8_5 + 1)) ((rd_T92 l0 x4_1).f0) x169001_3) else (none)) else (none))) = some r := by first | (rw [hy182]; with_reducible exact H) | (have H2_ := (Option.bind_some _ _).symm.trans H; rw [hy182]; with_reducible exact H2_) | (have H2_ := (Option.bind_some _ _).symm.trans H; with_reducible exact H2_) | with_reducible exact H | (rw [hy182]; exact H) | exact H
                          have Ny182 := Aside0.mk hy182
                          clear hy182
                          obtain ⟨y186, hy186⟩ : ∃ y_ : List (S108), y_ = (([] : List (S108))) := ⟨_, rfl⟩
                          replace H : (if y186.length + y182.length < 8796093022208 then (if x7_5.length < 4398046511104 then (logjamlaw26_Own.l2 kj17 l0 x3_1 x4_1 x6_3 (x7_5 ++ [(⟨(rd_T96 (rd_L7 ((rd_T92 l0 x4_1).f1) x6_3) x8_5).f0, (y186 ++ y182)⟩ : S96)]) (wrap64 (x8_5 + 1)) ((rd_T92 l0 x4_1).f0) x169001_3) else (none)) else (none)) = some r := by first | (rw [hy186]; with_reducible exact H) | (have H2_ := (Option.bind_some _ _).symm.trans H; rw [hy186]; with_reducible exact H2_) | (have H2_ := (Option.bind_some _ _).symm.trans H; with_reducible exact H2_) | with_reducible exact H | (rw [hy186]; exact H) | exact H
                          have Ny186 := Aside0.mk hy186
                          clear hy186
                          by_cases c33 : y186.length + y182.length < 8796093022208
                          ·rw [if_pos c33] at H
                           have LMc33 := Aside0.mk c33
                           clear c33
                           obtain ⟨y189, hy189⟩ : ∃ y_ : List (S108), y_ = (y186 ++ y182) := ⟨_, rfl⟩
                           replace H : (if x7_5.length < 4398046511104 then (logjamlaw26_Own.l2 kj17 l0 x3_1 x4_1 x6_3 (x7_5 ++ [(⟨(rd_T96 (rd_L7 ((rd_T92 l0 x4_1).f1) x6_3) x8_5).f0, y189⟩ : S96)]) (wrap64 (x8_5 + 1)) ((rd_T92 l0 x4_1).f0) x169001_3) else (none)) = some r := by first | (rw [hy189]; with_reducible exact H) | (have H2_ := (Option.bind_some _ _).symm.trans H; rw [hy189]; with_reducible exact H2_) | (have H2_ := (Option.bind_some _ _).symm.trans H; with_reducible exact H2_) | with_reducible exact H | (rw [hy189]; exact H) | exact H
                           have Ny189 := Aside0.mk hy189
                           clear hy189
                           by_cases c34 : x7_5.length < 4398046511104
                           ·rw [if_pos c34] at H
                            have LMc34 := Aside0.mk c34
                            clear c34
                            obtain ⟨y192, hy192⟩ : ∃ y_ : List (S96), y_ = (x7_5 ++ [(⟨(rd_T96 (rd_L7 ((rd_T92 l0 x4_1).f1) x6_3) x8_5).f0, y189⟩ : S96)]) := ⟨_, rfl⟩
                            replace H : (logjamlaw26_Own.l2 kj17 l0 x3_1 x4_1 x6_3 y192 (wrap64 (x8_5 + 1)) ((rd_T92 l0 x4_1).f0) x169001_3) = some r := by first | (rw [hy192]; with_reducible exact H) | (have H2_ := (Option.bind_some _ _).symm.trans H; rw [hy192]; with_reducible exact H2_) | (have H2_ := (Option.bind_some _ _).symm.trans H; with_reducible exact H2_) | with_reducible exact H | (rw [hy192]; exact H) | exact H
                            have Ny192 := Aside0.mk hy192
                            clear hy192
                            have H' := Aside0.mk H
                            clear H
                            have p178 : 0 ≤ (x4_1 : Int) := of_decide_eq_true (by first | (with_reducible assumption) | assumption)
                            have q178 : x4_1 < (l0.length : Int) := of_decide_eq_true (by first | (with_reducible assumption) | assumption)
                            obtain ⟨ad178, A178_1, c178_1, e178, hx178_0, hx178_1, hl178_1, hi178_1⟩ := at_T92 HR0.out x4_1 p178 q178
                            obtain rfl : ad167 = ad178 := (by injection e178)
                            replace hx178_0 := (HB.out.cell (World.block_lt_of_cell? w _ hx178_0)).trans hx178_0
                            replace hx178_1 := (HB.out.cell (World.block_lt_of_cell? w _ hx178_1)).trans hx178_1
                            have HR178_1 := Aside0.mk hi178_1
                            have HC178_1 := Aside0.mk hl178_1
                            clear hi178_1 hl178_1
                            replace p178 := eq_true p178
                            replace q178 := eq_true q178
                            have p179 : 0 ≤ (x6_3 : Int) := of_decide_eq_true (by first | (with_reducible assumption) | assumption)
                            have q179 : x6_3 < (((rd_T92 l0 x4_1).f1).length : Int) := of_decide_eq_true (by first | (with_reducible assumption) | assumption)
                            obtain ⟨ad179, A179_0, c179_0, e179, hx179_0, hl179_0, hi179_0⟩ := at_L7 HR178_1.out x6_3 p179 q179
                            cases e179
                            replace hx179_0 := (HB.out.cell (World.block_lt_of_cell? w _ hx179_0)).trans hx179_0
                            have HR179_0 := Aside0.mk hi179_0
                            have HC179_0 := Aside0.mk hl179_0
                            clear hi179_0 hl179_0
                            replace p179 := eq_true p179
                            replace q179 := eq_true q179
                            have p180 : 0 ≤ (x8_5 : Int) := of_decide_eq_true (by first | (with_reducible assumption) | assumption)
                            have q180 : x8_5 < ((rd_L7 ((rd_T92 l0 x4_1).f1) x6_3).length : Int) := of_decide_eq_true (by first | (with_reducible assumption) | assumption)
                            obtain ⟨ad180, A180_1, c180_1, e180, hx180_0, hx180_1, hl180_1, hi180_1⟩ := at_T96 HR179_0.out x8_5 p180 q180
                            cases e180
                            replace hx180_0 := (HB.out.cell (World.block_lt_of_cell? w _ hx180_0)).trans hx180_0
                            replace hx180_1 := (HB.out.cell (World.block_lt_of_cell? w _ hx180_1)).trans hx180_1
                            have HR180_1 := Aside0.mk hi180_1
                            have HC180_1 := Aside0.mk hl180_1
                            clear hi180_1 hl180_1
                            replace p180 := eq_true p180
                            replace q180 := eq_true q180
                            try go_wp2_with (first | ((with_reducible refine gate_dst (N := 9) rfl ?_); refine box_event ?hg (N := 9) ?hd (cs := #[.int .i64 0, .slice none 0 0]) (t := 96) ?hr ?_; (case hd => rfl); (case hg => rfl); (case hr => first | (go_simp; done) | (go_simp; rfl)); intro gb181 hg w35 hbox hb; have n0_ := Aside0.mk (Kd.R_below (Kd.R_elderB (by (with_reducible repeat (first | apply Kd.R_alloc | apply Kd.R_drewN | apply Kd.R_drew)); exact HO_3.out) gb181 (Nat.le_of_eq hg.symm)) hb); have n1_ := Aside0.mk (Kd.S_below (Kd.S_elderB (by (with_reducible repeat (first | apply Kd.S_alloc | apply Kd.S_drewN | apply Kd.S_drew)); exact HO_7.out) gb181 (Nat.le_of_eq hg.symm)) hb); have n2_ := Aside0.mk (Kd.R_below (Kd.R_elderB (by (with_reducible repeat (first | apply Kd.R_alloc | apply Kd.R_drewN | apply Kd.R_drew)); exact HO_169001.out) gb181 (Nat.le_of_eq hg.symm)) hb); have n3_ := Aside0.mk (blk_below (g := gb168) (o := .cells #[.bool ((rd_T92 l0 x4_1).f0), u169001] 92 (0, 0)) (by (with_reducible repeat (first | refine blk_drewN ?_ _ | refine blk_drew ?_ | refine blk_alloc ?_ _)); exact BK168.out) hb); have n4_ := Aside0.mk (below_step (by repeat (first | (with_reducible first | exact HB.out | apply below_alloc | apply pw_below_drewN | apply below_drew1 | refine below_set ?_ GE168.out) | exact HB.out)) hb); have n5_ := Aside0.mk (hbox); have n6_ := Aside0.mk ((by rw [hg]; exact (below_size (by repeat (first | (with_reducible first | exact HB.out | apply below_alloc | apply pw_below_drewN | apply below_drew1 | refine below_set ?_ GE168.out) | exact HB.out))) : w.heap.size ≤ gb181)); have n7_ := Aside0.mk ((by rw [hg]; exact (below_size (by repeat (first | (with_reducible first | exact HB.out | apply below_alloc | apply pw_below_drewN | apply below_drew1 | refine below_set ?_ GE168.out) | exact HB.out))) : w.heap.size ≤ gb181)); have n8_ := Aside0.mk ((by rw [hg]; exact Nat.ne_of_lt (blk_lt (g := gb168) (o := .cells #[.bool ((rd_T92 l0 x4_1).f0), u169001] 92 (0, 0)) (by (with_reducible repeat (first | refine blk_drewN ?_ _ | refine blk_drew ?_ | refine blk_alloc ?_ _)); exact BK168.out)) : gb168 ≠ gb181)); have n9_ := Aside0.mk ((by rw [hg]; exact Nat.ne_of_gt (blk_lt (g := gb168) (o := .cells #[.bool ((rd_T92 l0 x4_1).f0), u169001] 92 (0, 0)) (by (with_reducible repeat (first | refine blk_drewN ?_ _ | refine blk_drew ?_ | refine blk_alloc ?_ _)); exact BK168.out)) : gb181 ≠ gb168)); clear HO_3; clear HO_7; clear HO_169001; clear BK168; clear HB; have HO_3 := n0_; have HO_7 := n1_; have HO_169001 := n2_; have BK168 := n3_; have HB := n4_; have BK181 := n5_; have GW181 := n6_; have GE181 := n7_; have NB168_181 := n8_; have NB181_168 := n9_; clear n0_ n1_ n2_ n3_ n4_ n5_ n6_ n7_ n8_ n9_; clear hb hbox hg; have hnb36 := NB181_168.out; have hnc36 := NB168_181.out; have hcz37_0 : w35.cell? ⟨gb181, 0, none⟩ = some (.int .i64 0) := (blk_cell BK181.out 0).trans rfl; have hcz37_1 : w35.cell? ⟨gb181, 1, none⟩ = some (.slice none 0 0) := (blk_cell BK181.out 1).trans rfl; have hfz37_0 := blk_frozen BK181.out 0; have hfz37_1 := blk_frozen BK181.out 1) | ((with_reducible refine gate_store (t := 96) (p := 9) rfl ?_); refine store_event (t := 96) (p := 9) (v := ?vo_w38) (w1 := ((w35.setCell ⟨gb181, 0, none⟩ (.int .i64 ((rd_T96 (rd_L7 ((rd_T92 l0 x4_1).f1) x6_3) x8_5).f0))).setCell ⟨gb181, 1, none⟩ (.slice A180_1 ((rd_T96 (rd_L7 ((rd_T92 l0 x4_1).f1) x6_3) x8_5).f1).length c180_1))) ?hg ?ho ?hn ?hr ?_; (case ho => rfl); (case hg => rfl); (case hn => rfl); (case hr => first | (go_simp; done) | (go_simp; rfl)); intro w38 hw; have n0_ : Aside0 (Kd.R k92 92 w38 w.heap.size (fun k_ => some k_ ≠ (u7 : Value).ownBlock ∧ some k_ ≠ (u169001 : Value).ownBlock ∧ k_ ≠ gb168 ∧ k_ ≠ gb181) u3 x3_1) := ⟨(by rw [hw]; exact (by (with_reducible repeat (first | apply Kd.R_alloc | apply Kd.R_drewN | apply Kd.R_drew)); exact Kd.R_mono (Kd.R_far (p := ⟨gb181, 1, none⟩) (Kd.R_far (p := ⟨gb181, 0, none⟩) (Kd.R_mono HO_3.out (fun k_ hk => (⟨hk, hk.2⟩ : _ ∧ k_ ≠ gb181))) (fun _ hk => hk.2) (.int .i64 ((rd_T96 (rd_L7 ((rd_T92 l0 x4_1).f1) x6_3) x8_5).f0))) (fun _ hk => hk.2) (.slice A180_1 ((rd_T96 (rd_L7 ((rd_T92 l0 x4_1).f1) x6_3) x8_5).f1).length c180_1)) (fun _ hk => ⟨hk.1.1.1, ⟨hk.1.1.2.1, ⟨hk.1.1.2.2, hk.1.2⟩⟩⟩)))⟩; have n1_ : Aside0 (Kd.S k96 96 w38 w.heap.size (fun k_ => k_ ≠ gb181) u7 x7_5) := ⟨(by rw [hw]; exact (by (with_reducible repeat (first | apply Kd.S_alloc | apply Kd.S_drewN | apply Kd.S_drew)); exact Kd.S_mono (Kd.S_far (p := ⟨gb181, 1, none⟩) (Kd.S_far (p := ⟨gb181, 0, none⟩) (Kd.S_mono HO_7.out (fun k_ hk => (⟨hk, hk.2⟩ : _ ∧ k_ ≠ gb181))) (fun _ hk => hk.2) (.int .i64 ((rd_T96 (rd_L7 ((rd_T92 l0 x4_1).f1) x6_3) x8_5).f0))) (fun _ hk => hk.2) (.slice A180_1 ((rd_T96 (rd_L7 ((rd_T92 l0 x4_1).f1) x6_3) x8_5).f1).length c180_1)) (fun _ hk => hk.1.2)))⟩; have n2_ : Aside0 (Kd.R (Kd.slice 96 k96) 93 w38 w.heap.size (fun k_ => some k_ ≠ (u7 : Value).ownBlock ∧ k_ ≠ gb181) u169001 x169001_3) := ⟨(by rw [hw]; exact (by (with_reducible repeat (first | apply Kd.R_alloc | apply Kd.R_drewN | apply Kd.R_drew)); exact Kd.R_mono (Kd.R_far (p := ⟨gb181, 1, none⟩) (Kd.R_far (p := ⟨gb181, 0, none⟩) (Kd.R_mono HO_169001.out (fun k_ hk => (⟨hk, hk.2⟩ : _ ∧ k_ ≠ gb181))) (fun _ hk => hk.2) (.int .i64 ((rd_T96 (rd_L7 ((rd_T92 l0 x4_1).f1) x6_3) x8_5).f0))) (fun _ hk => hk.2) (.slice A180_1 ((rd_T96 (rd_L7 ((rd_T92 l0 x4_1).f1) x6_3) x8_5).f1).length c180_1)) (fun _ hk => ⟨hk.1.1, hk.1.2⟩)))⟩; have n3_ : Aside0 (w38.heap[gb168]? = some (.cells #[.bool ((rd_T92 l0 x4_1).f0), u169001] 92 (0, 0))) := ⟨(by rw [hw]; exact (by (with_reducible repeat (first | refine blk_drewN ?_ _ | refine blk_drew ?_ | refine blk_alloc ?_ _)); refine blk_far ?_ NB168_181.out _; (with_reducible repeat (first | refine blk_drewN ?_ _ | refine blk_drew ?_ | refine blk_alloc ?_ _)); refine blk_far ?_ NB168_181.out _; (with_reducible repeat (first | refine blk_drewN ?_ _ | refine blk_drew ?_ | refine blk_alloc ?_ _)); exact BK168.out))⟩; have n4_ : Aside0 (w38.heap[gb181]? = some (.cells #[.int .i64 ((rd_T96 (rd_L7 ((rd_T92 l0 x4_1).f1) x6_3) x8_5).f0), .slice A180_1 ((rd_T96 (rd_L7 ((rd_T92 l0 x4_1).f1) x6_3) x8_5).f1).length c180_1] 96 (0, 0))) := ⟨(by rw [hw]; exact (by (with_reducible repeat (first | refine blk_drewN ?_ _ | refine blk_drew ?_ | refine blk_alloc ?_ _)); refine blk_put (cs := #[.int .i64 ((rd_T96 (rd_L7 ((rd_T92 l0 x4_1).f1) x6_3) x8_5).f0), .slice none 0 0]) ?_ 1 _ rfl; (with_reducible repeat (first | refine blk_drewN ?_ _ | refine blk_drew ?_ | refine blk_alloc ?_ _)); refine blk_put (cs := #[.int .i64 0, .slice none 0 0]) ?_ 0 _ rfl; (with_reducible repeat (first | refine blk_drewN ?_ _ | refine blk_drew ?_ | refine blk_alloc ?_ _)); exact BK181.out))⟩; have n5_ : Aside0 (Below w.heap.size w w38) := ⟨(by rw [hw]; exact (by repeat (first | (with_reducible first | exact HB.out | apply below_alloc | apply pw_below_drewN | apply below_drew1 | refine below_set ?_ GE168.out | refine below_set ?_ GE181.out) | exact HB.out)))⟩; clear hw; clear HO_3; clear HO_7; clear HO_169001; clear BK168; clear BK181; clear HB; have HO_3 := n0_; have HO_7 := n1_; have HO_169001 := n2_; have BK168 := n3_; have BK181 := n4_; have HB := n5_; clear n0_ n1_ n2_ n3_ n4_ n5_; have hcz39_0 : w38.cell? ⟨gb181, 0, none⟩ = some (.int .i64 ((rd_T96 (rd_L7 ((rd_T92 l0 x4_1).f1) x6_3) x8_5).f0)) := (blk_cell BK181.out 0).trans rfl; have hcz39_1 : w38.cell? ⟨gb181, 1, none⟩ = some (.slice A180_1 ((rd_T96 (rd_L7 ((rd_T92 l0 x4_1).f1) x6_3) x8_5).f1).length c180_1) := (blk_cell BK181.out 1).trans rfl; have hfz39_0 := blk_frozen BK181.out 0; have hfz39_1 := blk_frozen BK181.out 1; have q40 : (70 : Int) ≤ ((((rd_T96 (rd_L7 ((rd_T92 l0 x4_1).f1) x6_3) x8_5).f1).length : Int) : Int) := of_decide_eq_true (by first | (with_reducible assumption) | assumption); obtain ⟨i040, hi040, _, hsz40, _⟩ := info_parts info108; have hroom40 : ((rd_T96 (rd_L7 ((rd_T92 l0 x4_1).f1) x6_3) x8_5).f1).length ≤ c180_1 := HC180_1.out; have hC40 : Kd.C k108 _ A180_1 ((rd_T96 (rd_L7 ((rd_T92 l0 x4_1).f1) x6_3) x8_5).f1).length ((rd_T96 (rd_L7 ((rd_T92 l0 x4_1).f1) x6_3) x8_5).f1) := HR180_1.out; have hcut40 := cut_to (P := Tryd.prog) 94 108 .i64 Tryd.underlying94 hi040 A180_1 ((rd_T96 (rd_L7 ((rd_T92 l0 x4_1).f1) x6_3) x8_5).f1).length c180_1 70 (by omega) q40 hroom40; have hr40 := Kd.C_take (m := 70) hC40 (by omega); have hy40 : y182.length = (70 : Int).toNat := (by rw [Ny182.out, List.length_take]; omega); rw [← Ny182.out] at hr40; rw [← hy40] at hcut40; have HR185 := Aside0.mk hr40; have HC185 := Aside0.mk (show y182.length ≤ c180_1 from by omega); clear hr40 hC40 hroom40 hi040 hsz40; have KY40 := Aside0.mk hy40; clear hy40; replace q40 := eq_true q40))
                            have n0_ := Aside0.mk (Kd.R_drew HO_3.out)
                            have n1_ := Aside0.mk (Kd.S_drew HO_7.out)
                            have n2_ := Aside0.mk (Kd.R_drew HO_169001.out)
                            have n3_ := Aside0.mk (blk_drew BK168.out)
                            have n4_ := Aside0.mk (blk_drew BK181.out)
                            have n5_ := Aside0.mk (below_drew1 HB.out)
                            clear HO_3; clear HO_7; clear HO_169001; clear BK168; clear BK181; clear HB; have HO_3 := n0_; have HO_7 := n1_; have HO_169001 := n2_; have BK168 := n3_; have BK181 := n4_; have HB := n5_; clear n0_ n1_ n2_ n3_ n4_ n5_
                            refine start_ (n := 10) (S := fun w' => w'.cell? ⟨gb181, 0, none⟩ = some (.int .i64 ((rd_T96 (rd_L7 ((rd_T92 l0 x4_1).f1) x6_3) x8_5).f0)) ∧ w'.cell? ⟨gb181, 1, none⟩ = some (.slice A180_1 ((rd_T96 (rd_L7 ((rd_T92 l0 x4_1).f1) x6_3) x8_5).f1).length c180_1)) (ds := []) #[false, false, false, false, false, false, false, false, false, false] (by kernel_rfl) rfl rfl ⟨(blk_cell BK181.out 0).trans rfl, (blk_cell BK181.out 1).trans rfl⟩ (fun hHeld => ?_); refine with_tabW logjamlaw26_Own.tab17 logjamlaw26_Own.bits17 (fun HT_ HW_ => ?_)
                            generalize w38.drew = w41 at HO_3 HO_7 HO_169001 BK168 BK181 HB hHeld ⊢
                            refine pure_ (i := 0) (N := some 78) (v := ?_) (a' := ?_) #[true, false, false, false, false, false, false, false, false, false] rfl rfl (any_of HT_.out (by kernel_rfl)) (fun _ _ _ h => h) (Or.inl ⟨by rfl, ?_⟩) ?_ ?_
                            rotate_left
                            ·intro w'
                             go_simp
                             with_reducible rfl
                            rotate_left
                            ·simp only [Act.put, List.setIfInBounds_toArray, List.set_cons_zero, List.set_cons_succ, i64_w, i32_w]
                             rfl
                            refine pure_ (i := 1) (N := some 79) (v := ?_) (a' := ?_) #[true, true, false, false, false, false, false, false, false, false] rfl rfl (any_of HT_.out (by kernel_rfl)) (fun _ _ _ h => h) (Or.inl ⟨by rfl, ?_⟩) ?_ ?_
                            rotate_left
                            ·intro w'
                             go_simp
                             with_reducible rfl
                            rotate_left
                            ·simp only [Act.put, List.setIfInBounds_toArray, List.set_cons_zero, List.set_cons_succ, i64_w, i32_w]
                             rfl
                            refine pure_ (i := 4) (N := some 82) (v := ?_) (a' := ?_) #[true, true, false, false, true, false, false, false, false, false] rfl rfl (any_of HT_.out (by kernel_rfl)) (fun _ _ _ h => h) (Or.inl ⟨by rfl, ?_⟩) ?_ ?_
                            rotate_left
                            ·intro w'
                             go_simp
                             with_reducible rfl
                            rotate_left
                            ·simp only [Act.put, List.setIfInBounds_toArray, List.set_cons_zero, List.set_cons_succ, i64_w, i32_w]
                             rfl
                            refine take_ (i := 2) (N := some 80) (v := ?_) (a' := ?_) #[true, true, true, false, true, false, false, false, false, false] rfl rfl (take_ofW HT_.out HW_.out (by kernel_rfl)) (fun _ _ _ h => h) (Or.inl ⟨by rfl, ?_⟩) hHeld ?_ ?_
                            rotate_left
                            ·rintro w' ⟨s0, s1⟩
                             go_simp
                             with_reducible rfl
                            rotate_left
                            ·simp only [Act.put, List.setIfInBounds_toArray, List.set_cons_zero, List.set_cons_succ, i64_w, i32_w]
                             rfl
                            refine one_ (i := 3) (N := some 81) #[true, true, true, true, true, false, false, false, false, false] rfl rfl (one_of HT_.out (by kernel_rfl)) (by decide) (fun K hK => ?_)
                            refine Kd.R_lit_step k108 _ 108 ?hg (N := 81) ?hd (xs := ([] : List (S108))) (inner := []) (ok := fun _ => True) (okp := fun _ => True) ?hr ?hp (fun _ hk => hk) trivial (Below.refl _ _) (Nat.le_refl _) (by simp) ?_; (case hd => rfl); (case hg => rfl); (case hr => first | (go_simp; done) | (go_simp; rfl)); (case hp => exact (Reps.none _ _))
                            intro v187 w42 ho43 hb hg_ hnew_
                            clear hg_ hnew_
                            (first | rw [← Ny186.out] at ho43 | (simp only [Int.reduceToNat] at ho43; rw [← Ny186.out] at ho43))
                            have n0_ := Aside0.mk (Kd.R_elder' (by (with_reducible repeat (first | apply Kd.R_alloc | apply Kd.R_drewN | apply Kd.R_drew)); exact HO_3.out) (Kd.R_base ho43) hb)
                            have n1_ := Aside0.mk (Kd.S_elder' (by (with_reducible repeat (first | apply Kd.S_alloc | apply Kd.S_drewN | apply Kd.S_drew)); exact HO_7.out) (Kd.R_base ho43) hb)
                            have n2_ := Aside0.mk (Kd.R_elder' (by (with_reducible repeat (first | apply Kd.R_alloc | apply Kd.R_drewN | apply Kd.R_drew)); exact HO_169001.out) (Kd.R_base ho43) hb)
                            have n3_ := Aside0.mk (Kd.R_lower ho43 (below_size (by repeat (first | (with_reducible first | exact HB.out | apply below_alloc | apply pw_below_drewN | apply below_drew1 | refine below_set ?_ GE168.out | refine below_set ?_ GE181.out) | exact HB.out))))
                            have n4_ := Aside0.mk (blk_below (g := gb168) (o := .cells #[.bool ((rd_T92 l0 x4_1).f0), u169001] 92 (0, 0)) (by (with_reducible repeat (first | refine blk_drewN ?_ _ | refine blk_drew ?_ | refine blk_alloc ?_ _)); exact BK168.out) hb)
                            have n5_ := Aside0.mk (blk_below (g := gb181) (o := .cells #[.int .i64 ((rd_T96 (rd_L7 ((rd_T92 l0 x4_1).f1) x6_3) x8_5).f0), .slice A180_1 ((rd_T96 (rd_L7 ((rd_T92 l0 x4_1).f1) x6_3) x8_5).f1).length c180_1] 96 (0, 0)) (by (with_reducible repeat (first | refine blk_drewN ?_ _ | refine blk_drew ?_ | refine blk_alloc ?_ _)); exact BK181.out) hb)
                            have n6_ := Aside0.mk (below_step (by repeat (first | (with_reducible first | exact HB.out | apply below_alloc | apply pw_below_drewN | apply below_drew1 | refine below_set ?_ GE168.out | refine below_set ?_ GE181.out) | exact HB.out)) hb)
                            clear HO_3; clear HO_7; clear HO_169001; clear BK168; clear BK181; clear HB; have HO_3 := n0_; have HO_7 := n1_; have HO_169001 := n2_; have HO188 := n3_; have BK168 := n4_; have BK181 := n5_; have HB := n6_; clear n0_ n1_ n2_ n3_ n4_ n5_ n6_; clear hb ho43
                            refine hK.out _ _ ⟨(blk_cell BK181.out 0).trans rfl, (blk_cell BK181.out 1).trans rfl⟩ (fun hHeld => ?_)
                            clear hK K
                            refine norm_ (a' := ?_) ?_ ?_
                            rotate_left
                            ·show Act.put _ (some 81) _ = _
                             simp only [Act.put, List.setIfInBounds_toArray, List.set_cons_zero, List.set_cons_succ, i64_w, i32_w]
                             rfl
                            refine one_ (i := 5) (N := some 83) #[true, true, true, true, true, true, false, false, false, false] rfl rfl (one_of HT_.out (by kernel_rfl)) (by decide) (fun K hK => ?_)
                            refine Kd.R_append_rows_step k108 (w0 := w) w.heap.size (by rfl) (.tmp 81) (.tmp 82) 94 108 (.agg #[(.int .i64 0), (.int .i64 0)]) 16 rfl Tryd.underlying94 info108 rfl (by decide) (by omega) v187 y186 y182 _ _ _ (fun _ => True) (fun _ => False) rfl rfl ?aO ?aR (fun _ _ h => h) (fun _ h => h.elim) ?aF ?aB ?aS ?aL ?_
                            (case aR => repeat (first | exact (Kd.C_below HR185.out HB.out) | (with_reducible refine Kd.C_alloc ?_ _) | (with_reducible refine Kd.C_drewN ?_ _) | (with_reducible refine Kd.C_drew ?_)))
                            (case aB => exact (by repeat (first | (with_reducible first | exact HB.out | apply below_alloc | apply pw_below_drewN | apply below_drew1 | refine below_set ?_ GE168.out | refine below_set ?_ GE181.out) | exact HB.out)))
                            (case aF => exact (fun _ _ => trivial))
                            (case aO => exact (by (with_reducible repeat (first | apply Kd.R_alloc | apply Kd.R_drewN | apply Kd.R_drew)); exact HO188.out))
                            (case aS => exact (below_size (by repeat (first | (with_reducible first | exact HB.out | apply below_alloc | apply pw_below_drewN | apply below_drew1 | refine below_set ?_ GE168.out | refine below_set ?_ GE181.out) | exact HB.out))))
                            (case aL => have := LMc33.out; omega)
                            intro v190 w44 ho hb hg hat
                            rw [← Ny189.out] at ho
                            have n0_ := Aside0.mk (Kd.R_after (ok := (fun k_ => some k_ ≠ (u7 : Value).ownBlock ∧ some k_ ≠ (u169001 : Value).ownBlock ∧ k_ ≠ gb168 ∧ k_ ≠ gb181)) (by (with_reducible repeat (first | apply Kd.R_alloc | apply Kd.R_drewN | apply Kd.R_drew)); exact HO_3.out) hg hat)
                            have n1_ := Aside0.mk (Kd.S_after (ok := (fun k_ => k_ ≠ gb181)) (by (with_reducible repeat (first | apply Kd.S_alloc | apply Kd.S_drewN | apply Kd.S_drew)); exact HO_7.out) hg hat)
                            have n2_ := Aside0.mk (Kd.R_after (ok := (fun k_ => some k_ ≠ (u7 : Value).ownBlock ∧ k_ ≠ gb181)) (by (with_reducible repeat (first | apply Kd.R_alloc | apply Kd.R_drewN | apply Kd.R_drew)); exact HO_169001.out) hg hat)
                            have n3_ := Aside0.mk (blk_grown (g := gb168) (o := .cells #[.bool ((rd_T92 l0 x4_1).f0), u169001] 92 (0, 0)) (by (with_reducible repeat (first | refine blk_drewN ?_ _ | refine blk_drew ?_ | refine blk_alloc ?_ _)); exact BK168.out) hg (Kd.R_ne HO188.out BK168.out (by decide)))
                            have n4_ := Aside0.mk (blk_grown (g := gb181) (o := .cells #[.int .i64 ((rd_T96 (rd_L7 ((rd_T92 l0 x4_1).f1) x6_3) x8_5).f0), .slice A180_1 ((rd_T96 (rd_L7 ((rd_T92 l0 x4_1).f1) x6_3) x8_5).f1).length c180_1] 96 (0, 0)) (by (with_reducible repeat (first | refine blk_drewN ?_ _ | refine blk_drew ?_ | refine blk_alloc ?_ _)); exact BK181.out) hg (Kd.R_ne HO188.out BK181.out (by decide)))
                            have n5_ := Aside0.mk (hb)
                            have n6_ := Aside0.mk (ho)
                            clear HO_3; clear HO_7; clear HO_169001; clear BK168; clear BK181; clear HB; clear HO188; have HO_3 := n0_; have HO_7 := n1_; have HO_169001 := n2_; have BK168 := n3_; have BK181 := n4_; have HB := n5_; have HO191 := n6_; clear n0_ n1_ n2_ n3_ n4_ n5_ n6_; clear ho hb hg hat
                            obtain ⟨Ao45, co45, eo45⟩ := Kd.R_slice HO191.out
                            (first | subst eo45 | (injection eo45 with f1_ f2_ f3_; have f4_ := f1_.symm; have f5_ := f3_.symm; clear f1_ f2_ f3_; subst f4_; subst f5_))
                            refine hK.out _ _ ⟨(blk_cell BK181.out 0).trans rfl, (blk_cell BK181.out 1).trans rfl⟩ (fun hHeld => ?_)
                            clear hK K
                            refine norm_ (a' := ?_) ?_ ?_
                            rotate_left
                            ·show Act.put _ (some 83) _ = _
                             simp only [Act.put, List.setIfInBounds_toArray, List.set_cons_zero, List.set_cons_succ, i64_w, i32_w]
                             rfl
                            refine pure_ (i := 6) (N := some 84) (v := ?_) (a' := ?_) #[true, true, true, true, true, true, true, false, false, false] rfl rfl (any_of HT_.out (by kernel_rfl)) (fun _ _ _ h => h) (Or.inl ⟨by rfl, ?_⟩) ?_ ?_
                            rotate_left
                            ·intro w'
                             go_simp
                             with_reducible rfl
                            rotate_left
                            ·simp only [Act.put, List.setIfInBounds_toArray, List.set_cons_zero, List.set_cons_succ, i64_w, i32_w]
                             rfl
                            refine one_ (i := 7) (N := some 85) #[true, true, true, true, true, true, true, true, false, false] rfl rfl (one_of HT_.out (by kernel_rfl)) (by decide) (fun K hK => ?_)
                            refine value_ (w1 := ?_) (v := ?_) (by rfl) rfl ?_ ?_
                            rotate_left 2
                            ·go_simp
                             constructor
                             ·rfl
                             ·rfl
                            refine hK.out _ _ ⟨(blk_cell (blk_alloc BK181.out _) 0).trans rfl, (blk_cell (blk_alloc BK181.out _) 1).trans rfl⟩ (fun hHeld => ?_)
                            clear hK K
                            refine norm_ (a' := ?_) ?_ ?_
                            rotate_left
                            ·show Act.put _ (some 85) _ = _
                             simp only [Act.put, List.setIfInBounds_toArray, List.set_cons_zero, List.set_cons_succ, i64_w, i32_w]
                             rfl
                            refine one_ (i := 8) (N := some 86) #[true, true, true, true, true, true, true, true, true, false] rfl rfl (one_of HT_.out (by kernel_rfl)) (by decide) (fun K hK => ?_)
                            refine Kd.S_append_step k96 (w0 := w) w.heap.size (by rfl) (.tmp 78) (.tmp 85) 93 96 (.agg #[(.int .i64 0), (.slice none 0 0)]) 32 rfl Tryd.underlying93 info96 rfl (by decide) (by omega) u7 x7_5 (⟨(rd_T96 (rd_L7 ((rd_T92 l0 x4_1).f1) x6_3) x8_5).f0, y189⟩ : S96) [.int .i64 ((rd_T96 (rd_L7 ((rd_T92 l0 x4_1).f1) x6_3) x8_5).f0), .slice Ao45 y189.length co45] (fun k_ => k_ ≠ gb181) (fun k_ => some k_ = (.slice Ao45 y189.length co45 : Value).ownBlock) rfl rfl ?aP (fun k_ hk_ => ((Kd.R_mono (ok' := fun k_ => ((fun k_ => k_ ≠ gb181)) k_ ∧ some k_ ≠ (u7 : Value).ownBlock) (Kd.R_types (Kd.R_apart' (HO191.out) (Kd.S_typed HO_7.out) (by decide)) BK181.out (by decide)) (fun k_ hk => ⟨hk.2, hk.1.2⟩))).1 k_ hk_.symm) ?aF ?aO ?aB ?aS ?aL ?_
                            (case aP => exact k96_mkM _ _ _ (⟨(rd_T96 (rd_L7 ((rd_T92 l0 x4_1).f1) x6_3) x8_5).f0, y189⟩ : S96) (Kd.R_mono (Kd.R_tight rfl (Kd.R_mono (ok' := fun k_ => ((fun k_ => k_ ≠ gb181)) k_ ∧ some k_ ≠ (u7 : Value).ownBlock) (Kd.R_types (Kd.R_apart' (HO191.out) (Kd.S_typed HO_7.out) (by decide)) BK181.out (by decide)) (fun k_ hk => ⟨hk.2, hk.1.2⟩))) (fun _ h_ => h_)))
                            (case aB => exact (by repeat (first | (with_reducible first | exact HB.out | apply below_alloc | apply pw_below_drewN | apply below_drew1 | refine below_set ?_ GE168.out | refine below_set ?_ GE181.out) | exact HB.out)))
                            (case aF => exact (fun k_ hk => Kd.freshB (g := gb181) (o := .cells #[.int .i64 ((rd_T96 (rd_L7 ((rd_T92 l0 x4_1).f1) x6_3) x8_5).f0), .slice A180_1 ((rd_T96 (rd_L7 ((rd_T92 l0 x4_1).f1) x6_3) x8_5).f1).length c180_1] 96 (0, 0)) (by (with_reducible repeat (first | refine blk_drewN ?_ _ | refine blk_drew ?_ | refine blk_alloc ?_ _)); exact BK181.out) k_ hk))
                            (case aO => exact (by (with_reducible repeat (first | apply Kd.S_alloc | apply Kd.S_drewN | apply Kd.S_drew)); exact Kd.S_mono HO_7.out (fun k_ hk => ⟨hk.1, fun e_ => hk.2 e_⟩)))
                            (case aS => exact (below_size (by repeat (first | (with_reducible first | exact HB.out | apply below_alloc | apply pw_below_drewN | apply below_drew1 | refine below_set ?_ GE168.out | refine below_set ?_ GE181.out) | exact HB.out))))
                            (case aL => have := LMc34.out; omega)
                            intro v193 w46 ho hb hg hat
                            rw [← Ny192.out] at ho
                            have n0_ := Aside0.mk (Kd.R_after (ok := (fun k_ => some k_ ≠ (u169001 : Value).ownBlock ∧ some k_ ≠ (.slice Ao45 y189.length co45 : Value).ownBlock ∧ k_ ≠ gb168 ∧ k_ ≠ gb181)) (by (with_reducible repeat (first | apply Kd.R_alloc | apply Kd.R_drewN | apply Kd.R_drew)); exact Kd.R_mono HO_3.out (fun _ hk => ⟨⟨hk.1.2.1, ⟨hk.2, ⟨hk.1.2.2.1, hk.1.2.2.2⟩⟩⟩, hk.1.1⟩)) hg hat)
                            have n1_ := Aside0.mk (Kd.R_after (ok := (fun k_ => some k_ ≠ (.slice Ao45 y189.length co45 : Value).ownBlock ∧ k_ ≠ gb181)) (by (with_reducible repeat (first | apply Kd.R_alloc | apply Kd.R_drewN | apply Kd.R_drew)); exact Kd.R_mono HO_169001.out (fun _ hk => ⟨⟨hk.2, hk.1.2⟩, hk.1.1⟩)) hg hat)
                            have n2_ := Aside0.mk (blk_grown (g := gb168) (o := .cells #[.bool ((rd_T92 l0 x4_1).f0), u169001] 92 (0, 0)) (by (with_reducible repeat (first | refine blk_drewN ?_ _ | refine blk_drew ?_ | refine blk_alloc ?_ _)); exact BK168.out) hg (Kd.S_ne HO_7.out BK168.out (by decide)))
                            have n3_ := Aside0.mk (blk_grown (g := gb181) (o := .cells #[.int .i64 ((rd_T96 (rd_L7 ((rd_T92 l0 x4_1).f1) x6_3) x8_5).f0), .slice A180_1 ((rd_T96 (rd_L7 ((rd_T92 l0 x4_1).f1) x6_3) x8_5).f1).length c180_1] 96 (0, 0)) (by (with_reducible repeat (first | refine blk_drewN ?_ _ | refine blk_drew ?_ | refine blk_alloc ?_ _)); exact BK181.out) hg (Kd.S_away HO_7.out (fun _ hk => hk.1)))
                            have n4_ := Aside0.mk (hb)
                            have n5_ := Aside0.mk (ho)
                            clear HO_3; clear HO_169001; clear BK168; clear BK181; clear HB; clear HO_7; clear HO191; have HO_3 := n0_; have HO_169001 := n1_; have BK168 := n2_; have BK181 := n3_; have HB := n4_; have HO194 := n5_; clear n0_ n1_ n2_ n3_ n4_ n5_; clear ho hb hg hat
                            refine hK.out _ _ ⟨(blk_cell BK181.out 0).trans rfl, (blk_cell BK181.out 1).trans rfl⟩ (fun hHeld => ?_)
                            clear hK K
                            refine norm_ (a' := ?_) ?_ ?_
                            rotate_left
                            ·show Act.put _ (some 86) _ = _
                             simp only [Act.put, List.setIfInBounds_toArray, List.set_cons_zero, List.set_cons_succ, i64_w, i32_w]
                             rfl
                            refine pure_ (i := 9) (N := some 7) (v := ?_) (a' := ?_) #[true, true, true, true, true, true, true, true, true, true] rfl rfl (any_of HT_.out (by kernel_rfl)) (fun _ _ _ h => h) (Or.inl ⟨by rfl, ?_⟩) ?_ ?_
                            rotate_left
                            ·intro w'
                             go_simp
                             with_reducible rfl
                            rotate_left
                            ·simp only [Act.put, List.setIfInBounds_toArray, List.set_cons_zero, List.set_cons_succ, i64_w, i32_w]
                             rfl
                            refine done_ (done_of HT_.out (by kernel_rfl)) ?_
                            try go_wp2
                            go_roundg kj17
                            case measure => have := HK1.out; have := HJ3.out; have := HK3.out; have := HJ10.out; have := HK5.out; have := HJ17.out; omega
                            case rel => exact ⟨(y192), (wrap64 (x8_5 + 1)), (by first | rfl | (simp; done) | (simp only [emptyNe_, emptyEq_]; done) | (simp [*]; done)), H', ⟨by have := HK1.out; have := HJ3.out; have := HK3.out; have := HJ10.out; have := HK5.out; have := HJ17.out; omega⟩, ⟨by (with_reducible repeat (first | apply Kd.R_alloc | apply Kd.R_drewN | apply Kd.R_drew)); exact Kd.R_mono HO_3.out (fun _ hk => ⟨hk.2, ⟨hk.1.1, hk.1.2.2.1⟩⟩)⟩, ⟨by (with_reducible repeat (first | apply Kd.S_alloc | apply Kd.S_drewN | apply Kd.S_drew)); exact Kd.S_mono HO194.out (fun _ hk => trivial)⟩, ⟨by (with_reducible repeat (first | apply Kd.R_alloc | apply Kd.R_drewN | apply Kd.R_drew)); exact Kd.R_mono HO_169001.out (fun _ hk => hk.2)⟩, ⟨by (with_reducible repeat (first | refine blk_drewN ?_ _ | refine blk_drew ?_ | refine blk_alloc ?_ _)); exact BK168.out⟩, ⟨by repeat (first | (with_reducible first | exact HB.out | apply below_alloc | apply pw_below_drewN | apply below_drew1 | refine below_set ?_ GE168.out | refine below_set ?_ GE181.out) | exact HB.out)⟩⟩
                           ·rw [if_neg c34] at H
                            exact absurd H (by simp)
                          ·rw [if_neg c33] at H
                           exact absurd H (by simp)
                         ·rw [if_neg c32] at H
                          exact absurd H (by simp)
                        ·rw [if_neg c31] at H
                         have c31b0 : decide (70 < (((rd_T96 (rd_L7 ((rd_T92 l0 x4_1).f1) x6_3) x8_5).f1).length : Int)) = false := decide_eq_false c31
                         have c31b1 : decide (70 < ((rd_T96 (rd_L7 ((rd_T92 l0 x4_1).f1) x6_3) x8_5).f1).length) = false := decide_eq_false (by omega)
                         clear c31
                         obtain ⟨y195, hy195⟩ : ∃ y_ : List (S108), y_ = (([] : List (S108))) := ⟨_, rfl⟩
                         replace H : (if y195.length + ((rd_T96 (rd_L7 ((rd_T92 l0 x4_1).f1) x6_3) x8_5).f1).length < 8796093022208 then (if x7_5.length < 4398046511104 then (logjamlaw26_Own.l2 kj17 l0 x3_1 x4_1 x6_3 (x7_5 ++ [(⟨(rd_T96 (rd_L7 ((rd_T92 l0 x4_1).f1) x6_3) x8_5).f0, (y195 ++ ((rd_T96 (rd_L7 ((rd_T92 l0 x4_1).f1) x6_3) x8_5).f1))⟩ : S96)]) (wrap64 (x8_5 + 1)) ((rd_T92 l0 x4_1).f0) x169001_3) else (none)) else (none)) = some r := by first | (rw [hy195]; with_reducible exact H) | (have H2_ := (Option.bind_some _ _).symm.trans H; rw [hy195]; with_reducible exact H2_) | (have H2_ := (Option.bind_some _ _).symm.trans H; with_reducible exact H2_) | with_reducible exact H | (rw [hy195]; exact H) | exact H
                         have Ny195 := Aside0.mk hy195
                         clear hy195
                         by_cases c47 : y195.length + ((rd_T96 (rd_L7 ((rd_T92 l0 x4_1).f1) x6_3) x8_5).f1).length < 8796093022208
                         ·rw [if_pos c47] at H
                          have LMc47 := Aside0.mk c47
                          clear c47
                          obtain ⟨y198, hy198⟩ : ∃ y_ : List (S108), y_ = (y195 ++ ((rd_T96 (rd_L7 ((rd_T92 l0 x4_1).f1) x6_3) x8_5).f1)) := ⟨_, rfl⟩
                          replace H : (if x7_5.length < 4398046511104 then (logjamlaw26_Own.l2 kj17 l0 x3_1 x4_1 x6_3 (x7_5 ++ [(⟨(rd_T96 (rd_L7 ((rd_T92 l0 x4_1).f1) x6_3) x8_5).f0, y198⟩ : S96)]) (wrap64 (x8_5 + 1)) ((rd_T92 l0 x4_1).f0) x169001_3) else (none)) = some r := by first | (rw [hy198]; with_reducible exact H) | (have H2_ := (Option.bind_some _ _).symm.trans H; rw [hy198]; with_reducible exact H2_) | (have H2_ := (Option.bind_some _ _).symm.trans H; with_reducible exact H2_) | with_reducible exact H | (rw [hy198]; exact H) | exact H
                          have Ny198 := Aside0.mk hy198
                          clear hy198
                          by_cases c48 : x7_5.length < 4398046511104
                          ·rw [if_pos c48] at H
                           have LMc48 := Aside0.mk c48
                           clear c48
                           obtain ⟨y201, hy201⟩ : ∃ y_ : List (S96), y_ = (x7_5 ++ [(⟨(rd_T96 (rd_L7 ((rd_T92 l0 x4_1).f1) x6_3) x8_5).f0, y198⟩ : S96)]) := ⟨_, rfl⟩
                           replace H : (logjamlaw26_Own.l2 kj17 l0 x3_1 x4_1 x6_3 y201 (wrap64 (x8_5 + 1)) ((rd_T92 l0 x4_1).f0) x169001_3) = some r := by first | (rw [hy201]; with_reducible exact H) | (have H2_ := (Option.bind_some _ _).symm.trans H; rw [hy201]; with_reducible exact H2_) | (have H2_ := (Option.bind_some _ _).symm.trans H; with_reducible exact H2_) | with_reducible exact H | (rw [hy201]; exact H) | exact H
                           have Ny201 := Aside0.mk hy201
                           clear hy201
                           have H' := Aside0.mk H
                           clear H
                           have p178 : 0 ≤ (x4_1 : Int) := of_decide_eq_true (by first | (with_reducible assumption) | assumption)
                           have q178 : x4_1 < (l0.length : Int) := of_decide_eq_true (by first | (with_reducible assumption) | assumption)
                           obtain ⟨ad178, A178_1, c178_1, e178, hx178_0, hx178_1, hl178_1, hi178_1⟩ := at_T92 HR0.out x4_1 p178 q178
                           obtain rfl : ad167 = ad178 := (by injection e178)
                           replace hx178_0 := (HB.out.cell (World.block_lt_of_cell? w _ hx178_0)).trans hx178_0
                           replace hx178_1 := (HB.out.cell (World.block_lt_of_cell? w _ hx178_1)).trans hx178_1
                           have HR178_1 := Aside0.mk hi178_1
                           have HC178_1 := Aside0.mk hl178_1
                           clear hi178_1 hl178_1
                           replace p178 := eq_true p178
                           replace q178 := eq_true q178
                           have p179 : 0 ≤ (x6_3 : Int) := of_decide_eq_true (by first | (with_reducible assumption) | assumption)
                           have q179 : x6_3 < (((rd_T92 l0 x4_1).f1).length : Int) := of_decide_eq_true (by first | (with_reducible assumption) | assumption)
                           obtain ⟨ad179, A179_0, c179_0, e179, hx179_0, hl179_0, hi179_0⟩ := at_L7 HR178_1.out x6_3 p179 q179
                           cases e179
                           replace hx179_0 := (HB.out.cell (World.block_lt_of_cell? w _ hx179_0)).trans hx179_0
                           have HR179_0 := Aside0.mk hi179_0
                           have HC179_0 := Aside0.mk hl179_0
                           clear hi179_0 hl179_0
                           replace p179 := eq_true p179
                           replace q179 := eq_true q179
                           have p180 : 0 ≤ (x8_5 : Int) := of_decide_eq_true (by first | (with_reducible assumption) | assumption)
                           have q180 : x8_5 < ((rd_L7 ((rd_T92 l0 x4_1).f1) x6_3).length : Int) := of_decide_eq_true (by first | (with_reducible assumption) | assumption)
                           obtain ⟨ad180, A180_1, c180_1, e180, hx180_0, hx180_1, hl180_1, hi180_1⟩ := at_T96 HR179_0.out x8_5 p180 q180
                           cases e180
                           replace hx180_0 := (HB.out.cell (World.block_lt_of_cell? w _ hx180_0)).trans hx180_0
                           replace hx180_1 := (HB.out.cell (World.block_lt_of_cell? w _ hx180_1)).trans hx180_1
                           have HR180_1 := Aside0.mk hi180_1
                           have HC180_1 := Aside0.mk hl180_1
                           clear hi180_1 hl180_1
                           replace p180 := eq_true p180
                           replace q180 := eq_true q180
                           try go_wp2_with (first | ((with_reducible refine gate_dst (N := 9) rfl ?_); refine box_event ?hg (N := 9) ?hd (cs := #[.int .i64 0, .slice none 0 0]) (t := 96) ?hr ?_; (case hd => rfl); (case hg => rfl); (case hr => first | (go_simp; done) | (go_simp; rfl)); intro gb181 hg w49 hbox hb; have n0_ := Aside0.mk (Kd.R_below (Kd.R_elderB (by (with_reducible repeat (first | apply Kd.R_alloc | apply Kd.R_drewN | apply Kd.R_drew)); exact HO_3.out) gb181 (Nat.le_of_eq hg.symm)) hb); have n1_ := Aside0.mk (Kd.S_below (Kd.S_elderB (by (with_reducible repeat (first | apply Kd.S_alloc | apply Kd.S_drewN | apply Kd.S_drew)); exact HO_7.out) gb181 (Nat.le_of_eq hg.symm)) hb); have n2_ := Aside0.mk (Kd.R_below (Kd.R_elderB (by (with_reducible repeat (first | apply Kd.R_alloc | apply Kd.R_drewN | apply Kd.R_drew)); exact HO_169001.out) gb181 (Nat.le_of_eq hg.symm)) hb); have n3_ := Aside0.mk (blk_below (g := gb168) (o := .cells #[.bool ((rd_T92 l0 x4_1).f0), u169001] 92 (0, 0)) (by (with_reducible repeat (first | refine blk_drewN ?_ _ | refine blk_drew ?_ | refine blk_alloc ?_ _)); exact BK168.out) hb); have n4_ := Aside0.mk (below_step (by repeat (first | (with_reducible first | exact HB.out | apply below_alloc | apply pw_below_drewN | apply below_drew1 | refine below_set ?_ GE168.out) | exact HB.out)) hb); have n5_ := Aside0.mk (hbox); have n6_ := Aside0.mk ((by rw [hg]; exact (below_size (by repeat (first | (with_reducible first | exact HB.out | apply below_alloc | apply pw_below_drewN | apply below_drew1 | refine below_set ?_ GE168.out) | exact HB.out))) : w.heap.size ≤ gb181)); have n7_ := Aside0.mk ((by rw [hg]; exact (below_size (by repeat (first | (with_reducible first | exact HB.out | apply below_alloc | apply pw_below_drewN | apply below_drew1 | refine below_set ?_ GE168.out) | exact HB.out))) : w.heap.size ≤ gb181)); have n8_ := Aside0.mk ((by rw [hg]; exact Nat.ne_of_lt (blk_lt (g := gb168) (o := .cells #[.bool ((rd_T92 l0 x4_1).f0), u169001] 92 (0, 0)) (by (with_reducible repeat (first | refine blk_drewN ?_ _ | refine blk_drew ?_ | refine blk_alloc ?_ _)); exact BK168.out)) : gb168 ≠ gb181)); have n9_ := Aside0.mk ((by rw [hg]; exact Nat.ne_of_gt (blk_lt (g := gb168) (o := .cells #[.bool ((rd_T92 l0 x4_1).f0), u169001] 92 (0, 0)) (by (with_reducible repeat (first | refine blk_drewN ?_ _ | refine blk_drew ?_ | refine blk_alloc ?_ _)); exact BK168.out)) : gb181 ≠ gb168)); clear HO_3; clear HO_7; clear HO_169001; clear BK168; clear HB; have HO_3 := n0_; have HO_7 := n1_; have HO_169001 := n2_; have BK168 := n3_; have HB := n4_; have BK181 := n5_; have GW181 := n6_; have GE181 := n7_; have NB168_181 := n8_; have NB181_168 := n9_; clear n0_ n1_ n2_ n3_ n4_ n5_ n6_ n7_ n8_ n9_; clear hb hbox hg; have hnb50 := NB181_168.out; have hnc50 := NB168_181.out; have hcz51_0 : w49.cell? ⟨gb181, 0, none⟩ = some (.int .i64 0) := (blk_cell BK181.out 0).trans rfl; have hcz51_1 : w49.cell? ⟨gb181, 1, none⟩ = some (.slice none 0 0) := (blk_cell BK181.out 1).trans rfl; have hfz51_0 := blk_frozen BK181.out 0; have hfz51_1 := blk_frozen BK181.out 1))
                           have n0_ : Aside0 (Kd.R k92 92 ((w49.setCell ⟨gb181, 0, none⟩ (.int .i64 ((rd_T96 (rd_L7 ((rd_T92 l0 x4_1).f1) x6_3) x8_5).f0))).setCell ⟨gb181, 1, none⟩ (.slice A180_1 ((rd_T96 (rd_L7 ((rd_T92 l0 x4_1).f1) x6_3) x8_5).f1).length c180_1)) w.heap.size (fun k_ => some k_ ≠ (u7 : Value).ownBlock ∧ some k_ ≠ (u169001 : Value).ownBlock ∧ k_ ≠ gb168 ∧ k_ ≠ gb181) u3 x3_1) := ⟨by (with_reducible repeat (first | apply Kd.R_alloc | apply Kd.R_drewN | apply Kd.R_drew)); exact Kd.R_mono (Kd.R_far (p := ⟨gb181, 1, none⟩) (Kd.R_far (p := ⟨gb181, 0, none⟩) (Kd.R_mono HO_3.out (fun k_ hk => (⟨hk, hk.2⟩ : _ ∧ k_ ≠ gb181))) (fun _ hk => hk.2) (.int .i64 ((rd_T96 (rd_L7 ((rd_T92 l0 x4_1).f1) x6_3) x8_5).f0))) (fun _ hk => hk.2) (.slice A180_1 ((rd_T96 (rd_L7 ((rd_T92 l0 x4_1).f1) x6_3) x8_5).f1).length c180_1)) (fun _ hk => ⟨hk.1.1.1, ⟨hk.1.1.2.1, ⟨hk.1.1.2.2, hk.1.2⟩⟩⟩)⟩
                           have n1_ : Aside0 (Kd.S k96 96 ((w49.setCell ⟨gb181, 0, none⟩ (.int .i64 ((rd_T96 (rd_L7 ((rd_T92 l0 x4_1).f1) x6_3) x8_5).f0))).setCell ⟨gb181, 1, none⟩ (.slice A180_1 ((rd_T96 (rd_L7 ((rd_T92 l0 x4_1).f1) x6_3) x8_5).f1).length c180_1)) w.heap.size (fun k_ => k_ ≠ gb181) u7 x7_5) := ⟨by (with_reducible repeat (first | apply Kd.S_alloc | apply Kd.S_drewN | apply Kd.S_drew)); exact Kd.S_mono (Kd.S_far (p := ⟨gb181, 1, none⟩) (Kd.S_far (p := ⟨gb181, 0, none⟩) (Kd.S_mono HO_7.out (fun k_ hk => (⟨hk, hk.2⟩ : _ ∧ k_ ≠ gb181))) (fun _ hk => hk.2) (.int .i64 ((rd_T96 (rd_L7 ((rd_T92 l0 x4_1).f1) x6_3) x8_5).f0))) (fun _ hk => hk.2) (.slice A180_1 ((rd_T96 (rd_L7 ((rd_T92 l0 x4_1).f1) x6_3) x8_5).f1).length c180_1)) (fun _ hk => hk.1.2)⟩
                           have n2_ : Aside0 (Kd.R (Kd.slice 96 k96) 93 ((w49.setCell ⟨gb181, 0, none⟩ (.int .i64 ((rd_T96 (rd_L7 ((rd_T92 l0 x4_1).f1) x6_3) x8_5).f0))).setCell ⟨gb181, 1, none⟩ (.slice A180_1 ((rd_T96 (rd_L7 ((rd_T92 l0 x4_1).f1) x6_3) x8_5).f1).length c180_1)) w.heap.size (fun k_ => some k_ ≠ (u7 : Value).ownBlock ∧ k_ ≠ gb181) u169001 x169001_3) := ⟨by (with_reducible repeat (first | apply Kd.R_alloc | apply Kd.R_drewN | apply Kd.R_drew)); exact Kd.R_mono (Kd.R_far (p := ⟨gb181, 1, none⟩) (Kd.R_far (p := ⟨gb181, 0, none⟩) (Kd.R_mono HO_169001.out (fun k_ hk => (⟨hk, hk.2⟩ : _ ∧ k_ ≠ gb181))) (fun _ hk => hk.2) (.int .i64 ((rd_T96 (rd_L7 ((rd_T92 l0 x4_1).f1) x6_3) x8_5).f0))) (fun _ hk => hk.2) (.slice A180_1 ((rd_T96 (rd_L7 ((rd_T92 l0 x4_1).f1) x6_3) x8_5).f1).length c180_1)) (fun _ hk => ⟨hk.1.1, hk.1.2⟩)⟩
                           have n3_ : Aside0 (((w49.setCell ⟨gb181, 0, none⟩ (.int .i64 ((rd_T96 (rd_L7 ((rd_T92 l0 x4_1).f1) x6_3) x8_5).f0))).setCell ⟨gb181, 1, none⟩ (.slice A180_1 ((rd_T96 (rd_L7 ((rd_T92 l0 x4_1).f1) x6_3) x8_5).f1).length c180_1)).heap[gb168]? = some (.cells #[.bool ((rd_T92 l0 x4_1).f0), u169001] 92 (0, 0))) := ⟨by (with_reducible repeat (first | refine blk_drewN ?_ _ | refine blk_drew ?_ | refine blk_alloc ?_ _)); refine blk_far ?_ NB168_181.out _; (with_reducible repeat (first | refine blk_drewN ?_ _ | refine blk_drew ?_ | refine blk_alloc ?_ _)); refine blk_far ?_ NB168_181.out _; (with_reducible repeat (first | refine blk_drewN ?_ _ | refine blk_drew ?_ | refine blk_alloc ?_ _)); exact BK168.out⟩
                           have n4_ : Aside0 (((w49.setCell ⟨gb181, 0, none⟩ (.int .i64 ((rd_T96 (rd_L7 ((rd_T92 l0 x4_1).f1) x6_3) x8_5).f0))).setCell ⟨gb181, 1, none⟩ (.slice A180_1 ((rd_T96 (rd_L7 ((rd_T92 l0 x4_1).f1) x6_3) x8_5).f1).length c180_1)).heap[gb181]? = some (.cells #[.int .i64 ((rd_T96 (rd_L7 ((rd_T92 l0 x4_1).f1) x6_3) x8_5).f0), .slice A180_1 ((rd_T96 (rd_L7 ((rd_T92 l0 x4_1).f1) x6_3) x8_5).f1).length c180_1] 96 (0, 0))) := ⟨by (with_reducible repeat (first | refine blk_drewN ?_ _ | refine blk_drew ?_ | refine blk_alloc ?_ _)); refine blk_put (cs := #[.int .i64 ((rd_T96 (rd_L7 ((rd_T92 l0 x4_1).f1) x6_3) x8_5).f0), .slice none 0 0]) ?_ 1 _ rfl; (with_reducible repeat (first | refine blk_drewN ?_ _ | refine blk_drew ?_ | refine blk_alloc ?_ _)); refine blk_put (cs := #[.int .i64 0, .slice none 0 0]) ?_ 0 _ rfl; (with_reducible repeat (first | refine blk_drewN ?_ _ | refine blk_drew ?_ | refine blk_alloc ?_ _)); exact BK181.out⟩
                           have n5_ : Aside0 (Below w.heap.size w ((w49.setCell ⟨gb181, 0, none⟩ (.int .i64 ((rd_T96 (rd_L7 ((rd_T92 l0 x4_1).f1) x6_3) x8_5).f0))).setCell ⟨gb181, 1, none⟩ (.slice A180_1 ((rd_T96 (rd_L7 ((rd_T92 l0 x4_1).f1) x6_3) x8_5).f1).length c180_1))) := ⟨by repeat (first | (with_reducible first | exact HB.out | apply below_alloc | apply pw_below_drewN | apply below_drew1 | refine below_set ?_ GE168.out | refine below_set ?_ GE181.out) | exact HB.out)⟩
                           (try clear HO_3); (try clear HO_7); (try clear HO_169001); (try clear BK168); (try clear BK181); (try clear HB)
                           generalize ((w49.setCell ⟨gb181, 0, none⟩ (.int .i64 ((rd_T96 (rd_L7 ((rd_T92 l0 x4_1).f1) x6_3) x8_5).f0))).setCell ⟨gb181, 1, none⟩ (.slice A180_1 ((rd_T96 (rd_L7 ((rd_T92 l0 x4_1).f1) x6_3) x8_5).f1).length c180_1)) = w52 at n0_ n1_ n2_ n3_ n4_ n5_ ⊢
                           have HO_3 := n0_; have HO_7 := n1_
                           have HO_169001 := n2_; have BK168 := n3_
                           have BK181 := n4_; have HB := n5_
                           clear n0_ n1_ n2_ n3_ n4_ n5_
                           have n0_ := Aside0.mk (Kd.R_drew HO_3.out)
                           have n1_ := Aside0.mk (Kd.S_drew HO_7.out)
                           have n2_ := Aside0.mk (Kd.R_drew HO_169001.out)
                           have n3_ := Aside0.mk (blk_drew BK168.out)
                           have n4_ := Aside0.mk (blk_drew BK181.out)
                           have n5_ := Aside0.mk (below_drew1 HB.out)
                           clear HO_3; clear HO_7; clear HO_169001; clear BK168; clear BK181; clear HB; have HO_3 := n0_; have HO_7 := n1_; have HO_169001 := n2_; have BK168 := n3_; have BK181 := n4_; have HB := n5_; clear n0_ n1_ n2_ n3_ n4_ n5_
                           refine start_ (n := 10) (S := fun w' => w'.cell? ⟨gb181, 0, none⟩ = some (.int .i64 ((rd_T96 (rd_L7 ((rd_T92 l0 x4_1).f1) x6_3) x8_5).f0)) ∧ w'.cell? ⟨gb181, 1, none⟩ = some (.slice A180_1 ((rd_T96 (rd_L7 ((rd_T92 l0 x4_1).f1) x6_3) x8_5).f1).length c180_1)) (ds := []) #[false, false, false, false, false, false, false, false, false, false] (by kernel_rfl) rfl rfl ⟨(blk_cell BK181.out 0).trans rfl, (blk_cell BK181.out 1).trans rfl⟩ (fun hHeld => ?_); refine with_tabW logjamlaw26_Own.tab17 logjamlaw26_Own.bits17 (fun HT_ HW_ => ?_)
                           generalize w52.drew = w53 at HO_3 HO_7 HO_169001 BK168 BK181 HB hHeld ⊢
                           refine pure_ (i := 0) (N := some 78) (v := ?_) (a' := ?_) #[true, false, false, false, false, false, false, false, false, false] rfl rfl (any_of HT_.out (by kernel_rfl)) (fun _ _ _ h => h) (Or.inl ⟨by rfl, ?_⟩) ?_ ?_
                           rotate_left
                           ·intro w'
                            go_simp
                            with_reducible rfl
                           rotate_left
                           ·simp only [Act.put, List.setIfInBounds_toArray, List.set_cons_zero, List.set_cons_succ, i64_w, i32_w]
                            rfl
                           refine pure_ (i := 1) (N := some 79) (v := ?_) (a' := ?_) #[true, true, false, false, false, false, false, false, false, false] rfl rfl (any_of HT_.out (by kernel_rfl)) (fun _ _ _ h => h) (Or.inl ⟨by rfl, ?_⟩) ?_ ?_
                           rotate_left
                           ·intro w'
                            go_simp
                            with_reducible rfl
                           rotate_left
                           ·simp only [Act.put, List.setIfInBounds_toArray, List.set_cons_zero, List.set_cons_succ, i64_w, i32_w]
                            rfl
                           refine pure_ (i := 4) (N := some 82) (v := ?_) (a' := ?_) #[true, true, false, false, true, false, false, false, false, false] rfl rfl (any_of HT_.out (by kernel_rfl)) (fun _ _ _ h => h) (Or.inl ⟨by rfl, ?_⟩) ?_ ?_
                           rotate_left
                           ·intro w'
                            go_simp
                            with_reducible rfl
                           rotate_left
                           ·simp only [Act.put, List.setIfInBounds_toArray, List.set_cons_zero, List.set_cons_succ, i64_w, i32_w]
                            rfl
                           refine take_ (i := 2) (N := some 80) (v := ?_) (a' := ?_) #[true, true, true, false, true, false, false, false, false, false] rfl rfl (take_ofW HT_.out HW_.out (by kernel_rfl)) (fun _ _ _ h => h) (Or.inl ⟨by rfl, ?_⟩) hHeld ?_ ?_
                           rotate_left
                           ·rintro w' ⟨s0, s1⟩
                            go_simp
                            with_reducible rfl
                           rotate_left
                           ·simp only [Act.put, List.setIfInBounds_toArray, List.set_cons_zero, List.set_cons_succ, i64_w, i32_w]
                            rfl
                           refine one_ (i := 3) (N := some 81) #[true, true, true, true, true, false, false, false, false, false] rfl rfl (one_of HT_.out (by kernel_rfl)) (by decide) (fun K hK => ?_)
                           refine Kd.R_lit_step k108 _ 108 ?hg (N := 81) ?hd (xs := ([] : List (S108))) (inner := []) (ok := fun _ => True) (okp := fun _ => True) ?hr ?hp (fun _ hk => hk) trivial (Below.refl _ _) (Nat.le_refl _) (by simp) ?_; (case hd => rfl); (case hg => rfl); (case hr => first | (go_simp; done) | (go_simp; rfl)); (case hp => exact (Reps.none _ _))
                           intro v196 w54 ho55 hb hg_ hnew_
                           clear hg_ hnew_
                           (first | rw [← Ny195.out] at ho55 | (simp only [Int.reduceToNat] at ho55; rw [← Ny195.out] at ho55))
                           have n0_ := Aside0.mk (Kd.R_elder' (by (with_reducible repeat (first | apply Kd.R_alloc | apply Kd.R_drewN | apply Kd.R_drew)); exact HO_3.out) (Kd.R_base ho55) hb)
                           have n1_ := Aside0.mk (Kd.S_elder' (by (with_reducible repeat (first | apply Kd.S_alloc | apply Kd.S_drewN | apply Kd.S_drew)); exact HO_7.out) (Kd.R_base ho55) hb)
                           have n2_ := Aside0.mk (Kd.R_elder' (by (with_reducible repeat (first | apply Kd.R_alloc | apply Kd.R_drewN | apply Kd.R_drew)); exact HO_169001.out) (Kd.R_base ho55) hb)
                           have n3_ := Aside0.mk (Kd.R_lower ho55 (below_size (by repeat (first | (with_reducible first | exact HB.out | apply below_alloc | apply pw_below_drewN | apply below_drew1 | refine below_set ?_ GE168.out | refine below_set ?_ GE181.out) | exact HB.out))))
                           have n4_ := Aside0.mk (blk_below (g := gb168) (o := .cells #[.bool ((rd_T92 l0 x4_1).f0), u169001] 92 (0, 0)) (by (with_reducible repeat (first | refine blk_drewN ?_ _ | refine blk_drew ?_ | refine blk_alloc ?_ _)); exact BK168.out) hb)
                           have n5_ := Aside0.mk (blk_below (g := gb181) (o := .cells #[.int .i64 ((rd_T96 (rd_L7 ((rd_T92 l0 x4_1).f1) x6_3) x8_5).f0), .slice A180_1 ((rd_T96 (rd_L7 ((rd_T92 l0 x4_1).f1) x6_3) x8_5).f1).length c180_1] 96 (0, 0)) (by (with_reducible repeat (first | refine blk_drewN ?_ _ | refine blk_drew ?_ | refine blk_alloc ?_ _)); exact BK181.out) hb)
                           have n6_ := Aside0.mk (below_step (by repeat (first | (with_reducible first | exact HB.out | apply below_alloc | apply pw_below_drewN | apply below_drew1 | refine below_set ?_ GE168.out | refine below_set ?_ GE181.out) | exact HB.out)) hb)
                           clear HO_3; clear HO_7; clear HO_169001; clear BK168; clear BK181; clear HB; have HO_3 := n0_; have HO_7 := n1_; have HO_169001 := n2_; have HO197 := n3_; have BK168 := n4_; have BK181 := n5_; have HB := n6_; clear n0_ n1_ n2_ n3_ n4_ n5_ n6_; clear hb ho55
                           refine hK.out _ _ ⟨(blk_cell BK181.out 0).trans rfl, (blk_cell BK181.out 1).trans rfl⟩ (fun hHeld => ?_)
                           clear hK K
                           refine norm_ (a' := ?_) ?_ ?_
                           rotate_left
                           ·show Act.put _ (some 81) _ = _
                            simp only [Act.put, List.setIfInBounds_toArray, List.set_cons_zero, List.set_cons_succ, i64_w, i32_w]
                            rfl
                           refine one_ (i := 5) (N := some 83) #[true, true, true, true, true, true, false, false, false, false] rfl rfl (one_of HT_.out (by kernel_rfl)) (by decide) (fun K hK => ?_)
                           refine Kd.R_append_rows_step k108 (w0 := w) w.heap.size (by rfl) (.tmp 81) (.tmp 82) 94 108 (.agg #[(.int .i64 0), (.int .i64 0)]) 16 rfl Tryd.underlying94 info108 rfl (by decide) (by omega) v196 y195 ((rd_T96 (rd_L7 ((rd_T92 l0 x4_1).f1) x6_3) x8_5).f1) _ _ _ (fun _ => True) (fun _ => False) rfl rfl ?aO ?aR (fun _ _ h => h) (fun _ h => h.elim) ?aF ?aB ?aS ?aL ?_
                           (case aR => repeat (first | exact (Kd.C_below HR180_1.out HB.out) | (with_reducible refine Kd.C_alloc ?_ _) | (with_reducible refine Kd.C_drewN ?_ _) | (with_reducible refine Kd.C_drew ?_)))
                           (case aB => exact (by repeat (first | (with_reducible first | exact HB.out | apply below_alloc | apply pw_below_drewN | apply below_drew1 | refine below_set ?_ GE168.out | refine below_set ?_ GE181.out) | exact HB.out)))
                           (case aF => exact (fun _ _ => trivial))
                           (case aO => exact (by (with_reducible repeat (first | apply Kd.R_alloc | apply Kd.R_drewN | apply Kd.R_drew)); exact HO197.out))
                           (case aS => exact (below_size (by repeat (first | (with_reducible first | exact HB.out | apply below_alloc | apply pw_below_drewN | apply below_drew1 | refine below_set ?_ GE168.out | refine below_set ?_ GE181.out) | exact HB.out))))
                           (case aL => have := LMc47.out; omega)
                           intro v199 w56 ho hb hg hat
                           rw [← Ny198.out] at ho
                           have n0_ := Aside0.mk (Kd.R_after (ok := (fun k_ => some k_ ≠ (u7 : Value).ownBlock ∧ some k_ ≠ (u169001 : Value).ownBlock ∧ k_ ≠ gb168 ∧ k_ ≠ gb181)) (by (with_reducible repeat (first | apply Kd.R_alloc | apply Kd.R_drewN | apply Kd.R_drew)); exact HO_3.out) hg hat)
                           have n1_ := Aside0.mk (Kd.S_after (ok := (fun k_ => k_ ≠ gb181)) (by (with_reducible repeat (first | apply Kd.S_alloc | apply Kd.S_drewN | apply Kd.S_drew)); exact HO_7.out) hg hat)
                           have n2_ := Aside0.mk (Kd.R_after (ok := (fun k_ => some k_ ≠ (u7 : Value).ownBlock ∧ k_ ≠ gb181)) (by (with_reducible repeat (first | apply Kd.R_alloc | apply Kd.R_drewN | apply Kd.R_drew)); exact HO_169001.out) hg hat)
                           have n3_ := Aside0.mk (blk_grown (g := gb168) (o := .cells #[.bool ((rd_T92 l0 x4_1).f0), u169001] 92 (0, 0)) (by (with_reducible repeat (first | refine blk_drewN ?_ _ | refine blk_drew ?_ | refine blk_alloc ?_ _)); exact BK168.out) hg (Kd.R_ne HO197.out BK168.out (by decide)))
                           have n4_ := Aside0.mk (blk_grown (g := gb181) (o := .cells #[.int .i64 ((rd_T96 (rd_L7 ((rd_T92 l0 x4_1).f1) x6_3) x8_5).f0), .slice A180_1 ((rd_T96 (rd_L7 ((rd_T92 l0 x4_1).f1) x6_3) x8_5).f1).length c180_1] 96 (0, 0)) (by (with_reducible repeat (first | refine blk_drewN ?_ _ | refine blk_drew ?_ | refine blk_alloc ?_ _)); exact BK181.out) hg (Kd.R_ne HO197.out BK181.out (by decide)))
                           have n5_ := Aside0.mk (hb)
                           have n6_ := Aside0.mk (ho)
                           clear HO_3; clear HO_7; clear HO_169001; clear BK168; clear BK181; clear HB; clear HO197; have HO_3 := n0_; have HO_7 := n1_; have HO_169001 := n2_; have BK168 := n3_; have BK181 := n4_; have HB := n5_; have HO200 := n6_; clear n0_ n1_ n2_ n3_ n4_ n5_ n6_; clear ho hb hg hat
                           obtain ⟨Ao57, co57, eo57⟩ := Kd.R_slice HO200.out
                           (first | subst eo57 | (injection eo57 with f1_ f2_ f3_; have f4_ := f1_.symm; have f5_ := f3_.symm; clear f1_ f2_ f3_; subst f4_; subst f5_))
                           refine hK.out _ _ ⟨(blk_cell BK181.out 0).trans rfl, (blk_cell BK181.out 1).trans rfl⟩ (fun hHeld => ?_)
                           clear hK K
                           refine norm_ (a' := ?_) ?_ ?_
                           rotate_left
                           ·show Act.put _ (some 83) _ = _
                            simp only [Act.put, List.setIfInBounds_toArray, List.set_cons_zero, List.set_cons_succ, i64_w, i32_w]
                            rfl
                           refine pure_ (i := 6) (N := some 84) (v := ?_) (a' := ?_) #[true, true, true, true, true, true, true, false, false, false] rfl rfl (any_of HT_.out (by kernel_rfl)) (fun _ _ _ h => h) (Or.inl ⟨by rfl, ?_⟩) ?_ ?_
                           rotate_left
                           ·intro w'
                            go_simp
                            with_reducible rfl
                           rotate_left
                           ·simp only [Act.put, List.setIfInBounds_toArray, List.set_cons_zero, List.set_cons_succ, i64_w, i32_w]
                            rfl
                           refine one_ (i := 7) (N := some 85) #[true, true, true, true, true, true, true, true, false, false] rfl rfl (one_of HT_.out (by kernel_rfl)) (by decide) (fun K hK => ?_)
                           refine value_ (w1 := ?_) (v := ?_) (by rfl) rfl ?_ ?_
                           rotate_left 2
                           ·go_simp
                            constructor
                            ·rfl
                            ·rfl
                           refine hK.out _ _ ⟨(blk_cell (blk_alloc BK181.out _) 0).trans rfl, (blk_cell (blk_alloc BK181.out _) 1).trans rfl⟩ (fun hHeld => ?_)
                           clear hK K
                           refine norm_ (a' := ?_) ?_ ?_
                           rotate_left
                           ·show Act.put _ (some 85) _ = _
                            simp only [Act.put, List.setIfInBounds_toArray, List.set_cons_zero, List.set_cons_succ, i64_w, i32_w]
                            rfl
                           refine one_ (i := 8) (N := some 86) #[true, true, true, true, true, true, true, true, true, false] rfl rfl (one_of HT_.out (by kernel_rfl)) (by decide) (fun K hK => ?_)
                           refine Kd.S_append_step k96 (w0 := w) w.heap.size (by rfl) (.tmp 78) (.tmp 85) 93 96 (.agg #[(.int .i64 0), (.slice none 0 0)]) 32 rfl Tryd.underlying93 info96 rfl (by decide) (by omega) u7 x7_5 (⟨(rd_T96 (rd_L7 ((rd_T92 l0 x4_1).f1) x6_3) x8_5).f0, y198⟩ : S96) [.int .i64 ((rd_T96 (rd_L7 ((rd_T92 l0 x4_1).f1) x6_3) x8_5).f0), .slice Ao57 y198.length co57] (fun k_ => k_ ≠ gb181) (fun k_ => some k_ = (.slice Ao57 y198.length co57 : Value).ownBlock) rfl rfl ?aP (fun k_ hk_ => ((Kd.R_mono (ok' := fun k_ => ((fun k_ => k_ ≠ gb181)) k_ ∧ some k_ ≠ (u7 : Value).ownBlock) (Kd.R_types (Kd.R_apart' (HO200.out) (Kd.S_typed HO_7.out) (by decide)) BK181.out (by decide)) (fun k_ hk => ⟨hk.2, hk.1.2⟩))).1 k_ hk_.symm) ?aF ?aO ?aB ?aS ?aL ?_
                           (case aP => exact k96_mkM _ _ _ (⟨(rd_T96 (rd_L7 ((rd_T92 l0 x4_1).f1) x6_3) x8_5).f0, y198⟩ : S96) (Kd.R_mono (Kd.R_tight rfl (Kd.R_mono (ok' := fun k_ => ((fun k_ => k_ ≠ gb181)) k_ ∧ some k_ ≠ (u7 : Value).ownBlock) (Kd.R_types (Kd.R_apart' (HO200.out) (Kd.S_typed HO_7.out) (by decide)) BK181.out (by decide)) (fun k_ hk => ⟨hk.2, hk.1.2⟩))) (fun _ h_ => h_)))
                           (case aB => exact (by repeat (first | (with_reducible first | exact HB.out | apply below_alloc | apply pw_below_drewN | apply below_drew1 | refine below_set ?_ GE168.out | refine below_set ?_ GE181.out) | exact HB.out)))
                           (case aF => exact (fun k_ hk => Kd.freshB (g := gb181) (o := .cells #[.int .i64 ((rd_T96 (rd_L7 ((rd_T92 l0 x4_1).f1) x6_3) x8_5).f0), .slice A180_1 ((rd_T96 (rd_L7 ((rd_T92 l0 x4_1).f1) x6_3) x8_5).f1).length c180_1] 96 (0, 0)) (by (with_reducible repeat (first | refine blk_drewN ?_ _ | refine blk_drew ?_ | refine blk_alloc ?_ _)); exact BK181.out) k_ hk))
                           (case aO => exact (by (with_reducible repeat (first | apply Kd.S_alloc | apply Kd.S_drewN | apply Kd.S_drew)); exact Kd.S_mono HO_7.out (fun k_ hk => ⟨hk.1, fun e_ => hk.2 e_⟩)))
                           (case aS => exact (below_size (by repeat (first | (with_reducible first | exact HB.out | apply below_alloc | apply pw_below_drewN | apply below_drew1 | refine below_set ?_ GE168.out | refine below_set ?_ GE181.out) | exact HB.out))))
                           (case aL => have := LMc48.out; omega)
                           intro v202 w58 ho hb hg hat
                           rw [← Ny201.out] at ho
                           have n0_ := Aside0.mk (Kd.R_after (ok := (fun k_ => some k_ ≠ (u169001 : Value).ownBlock ∧ some k_ ≠ (.slice Ao57 y198.length co57 : Value).ownBlock ∧ k_ ≠ gb168 ∧ k_ ≠ gb181)) (by (with_reducible repeat (first | apply Kd.R_alloc | apply Kd.R_drewN | apply Kd.R_drew)); exact Kd.R_mono HO_3.out (fun _ hk => ⟨⟨hk.1.2.1, ⟨hk.2, ⟨hk.1.2.2.1, hk.1.2.2.2⟩⟩⟩, hk.1.1⟩)) hg hat)
                           have n1_ := Aside0.mk (Kd.R_after (ok := (fun k_ => some k_ ≠ (.slice Ao57 y198.length co57 : Value).ownBlock ∧ k_ ≠ gb181)) (by (with_reducible repeat (first | apply Kd.R_alloc | apply Kd.R_drewN | apply Kd.R_drew)); exact Kd.R_mono HO_169001.out (fun _ hk => ⟨⟨hk.2, hk.1.2⟩, hk.1.1⟩)) hg hat)
                           have n2_ := Aside0.mk (blk_grown (g := gb168) (o := .cells #[.bool ((rd_T92 l0 x4_1).f0), u169001] 92 (0, 0)) (by (with_reducible repeat (first | refine blk_drewN ?_ _ | refine blk_drew ?_ | refine blk_alloc ?_ _)); exact BK168.out) hg (Kd.S_ne HO_7.out BK168.out (by decide)))
                           have n3_ := Aside0.mk (blk_grown (g := gb181) (o := .cells #[.int .i64 ((rd_T96 (rd_L7 ((rd_T92 l0 x4_1).f1) x6_3) x8_5).f0), .slice A180_1 ((rd_T96 (rd_L7 ((rd_T92 l0 x4_1).f1) x6_3) x8_5).f1).length c180_1] 96 (0, 0)) (by (with_reducible repeat (first | refine blk_drewN ?_ _ | refine blk_drew ?_ | refine blk_alloc ?_ _)); exact BK181.out) hg (Kd.S_away HO_7.out (fun _ hk => hk.1)))
                           have n4_ := Aside0.mk (hb)
                           have n5_ := Aside0.mk (ho)
                           clear HO_3; clear HO_169001; clear BK168; clear BK181; clear HB; clear HO_7; clear HO200; have HO_3 := n0_; have HO_169001 := n1_; have BK168 := n2_; have BK181 := n3_; have HB := n4_; have HO203 := n5_; clear n0_ n1_ n2_ n3_ n4_ n5_; clear ho hb hg hat
                           refine hK.out _ _ ⟨(blk_cell BK181.out 0).trans rfl, (blk_cell BK181.out 1).trans rfl⟩ (fun hHeld => ?_)
                           clear hK K
                           refine norm_ (a' := ?_) ?_ ?_
                           rotate_left
                           ·show Act.put _ (some 86) _ = _
                            simp only [Act.put, List.setIfInBounds_toArray, List.set_cons_zero, List.set_cons_succ, i64_w, i32_w]
                            rfl
                           refine pure_ (i := 9) (N := some 7) (v := ?_) (a' := ?_) #[true, true, true, true, true, true, true, true, true, true] rfl rfl (any_of HT_.out (by kernel_rfl)) (fun _ _ _ h => h) (Or.inl ⟨by rfl, ?_⟩) ?_ ?_
                           rotate_left
                           ·intro w'
                            go_simp
                            with_reducible rfl
                           rotate_left
                           ·simp only [Act.put, List.setIfInBounds_toArray, List.set_cons_zero, List.set_cons_succ, i64_w, i32_w]
                            rfl
                           refine done_ (done_of HT_.out (by kernel_rfl)) ?_
                           try go_wp2
                           go_roundg kj17
                           case measure => have := HK1.out; have := HJ3.out; have := HK3.out; have := HJ10.out; have := HK5.out; have := HJ17.out; omega
                           case rel => exact ⟨(y201), (wrap64 (x8_5 + 1)), (by first | rfl | (simp; done) | (simp only [emptyNe_, emptyEq_]; done) | (simp [*]; done)), H', ⟨by have := HK1.out; have := HJ3.out; have := HK3.out; have := HJ10.out; have := HK5.out; have := HJ17.out; omega⟩, ⟨by (with_reducible repeat (first | apply Kd.R_alloc | apply Kd.R_drewN | apply Kd.R_drew)); exact Kd.R_mono HO_3.out (fun _ hk => ⟨hk.2, ⟨hk.1.1, hk.1.2.2.1⟩⟩)⟩, ⟨by (with_reducible repeat (first | apply Kd.S_alloc | apply Kd.S_drewN | apply Kd.S_drew)); exact Kd.S_mono HO203.out (fun _ hk => trivial)⟩, ⟨by (with_reducible repeat (first | apply Kd.R_alloc | apply Kd.R_drewN | apply Kd.R_drew)); exact Kd.R_mono HO_169001.out (fun _ hk => hk.2)⟩, ⟨by (with_reducible repeat (first | refine blk_drewN ?_ _ | refine blk_drew ?_ | refine blk_alloc ?_ _)); exact BK168.out⟩, ⟨by repeat (first | (with_reducible first | exact HB.out | apply below_alloc | apply pw_below_drewN | apply below_drew1 | refine below_set ?_ GE168.out | refine below_set ?_ GE181.out) | exact HB.out)⟩⟩
                          ·rw [if_neg c48] at H
                           exact absurd H (by simp)
                         ·rw [if_neg c47] at H
                          exact absurd H (by simp)
                       ·rw [if_neg c30] at H
                        exact absurd H (by simp)
                      ·rw [if_neg c29] at H
                       exact absurd H (by simp)
                     ·rw [if_neg c28] at H
                      exact absurd H (by simp)
                    ·rw [if_neg c27] at H
                     exact absurd H (by simp)
                   ·rw [if_neg c26] at H
                    exact absurd H (by simp)
                  ·rw [if_neg c25] at H
                   exact absurd H (by simp)
                 ·replace c24 := Bool.eq_false_iff.mpr c24
                  subst c24
                  have H1 : (if x169001_3.length < 5864062014805 then (logjamlaw26_Own.l1 kj17 l0 x3_1 x4_1 (wrap64 (x6_3 + 1)) ((rd_T92 l0 x4_1).f0) (x169001_3 ++ [x7_5])) else (none)) = some r := by rw [if_neg (show ¬ (false = true) by decide)] at H; exact H
                  clear H
                  have H := H1
                  clear H1
                  by_cases c59 : x169001_3.length < 5864062014805
                  ·rw [if_pos c59] at H
                   have LMc59 := Aside0.mk c59
                   clear c59
                   obtain ⟨y204, hy204⟩ : ∃ y_ : List (List (S96)), y_ = (x169001_3 ++ [x7_5]) := ⟨_, rfl⟩
                   replace H : (logjamlaw26_Own.l1 kj17 l0 x3_1 x4_1 (wrap64 (x6_3 + 1)) ((rd_T92 l0 x4_1).f0) y204) = some r := by first | (rw [hy204]; with_reducible exact H) | (have H2_ := (Option.bind_some _ _).symm.trans H; rw [hy204]; with_reducible exact H2_) | (have H2_ := (Option.bind_some _ _).symm.trans H; with_reducible exact H2_) | with_reducible exact H | (rw [hy204]; exact H) | exact H
                   have Ny204 := Aside0.mk hy204
                   clear hy204
                   have H' := Aside0.mk H
                   clear H
                   have hcz60_0 : wc.cell? ⟨gb168, 0, none⟩ = some (.bool ((rd_T92 l0 x4_1).f0)) := (blk_cell BK168.out 0).trans rfl
                   have hcz60_1 : wc.cell? ⟨gb168, 1, none⟩ = some (u169001) := (blk_cell BK168.out 1).trans rfl
                   have hfz60_0 := blk_frozen BK168.out 0
                   have hfz60_1 := blk_frozen BK168.out 1
                   obtain ⟨Ao62, co62, eo62⟩ := Kd.S_slice HO_7.out
                   subst eo62
                   go_wp2_with (first | ((with_reducible refine gate_builtin (b := .append) (xs := #[.tmp 88, .tmp 90]) rfl ?_); at_builtin; refine Kd.R_append (Kd.slice 96 k96) (w0 := w) w.heap.size rfl (.tmp 88) (.tmp 90) 90 93 (.slice none 0 0) 24 rfl Tryd.underlying90 info93 rfl (by decide) (by omega) u169001 x169001_3 x7_5 [.slice Ao62 x7_5.length co62] (fun _ => True) (fun k_ => ((fun _ => True)) k_ ∧ some k_ ≠ (u169001 : Value).ownBlock) rfl rfl ?aP (fun _ hk => hk) ?aF ?aO ?aB ?aS ?aL ?_; (case aP => exact Kd.M_row (Kd.R_mono (Kd.R_apart' ((Kd.S_R HO_7.out)) (Kd.R_typed HO_169001.out) (by decide)) (fun k_ hk => ⟨trivial, hk.2⟩))); (case aB => exact (by repeat (first | (with_reducible first | exact HB.out | apply below_alloc | apply pw_below_drewN | apply below_drew1 | refine below_set ?_ GE168.out) | exact HB.out))); (case aF => exact (fun _ _ => trivial)); (case aO => exact (by (with_reducible repeat (first | apply Kd.R_alloc | apply Kd.R_drewN | apply Kd.R_drew)); exact Kd.R_mono HO_169001.out (fun _ hk => trivial))); (case aS => exact (below_size (by repeat (first | (with_reducible first | exact HB.out | apply below_alloc | apply pw_below_drewN | apply below_drew1 | refine below_set ?_ GE168.out) | exact HB.out)))); (case aL => have := LMc59.out; omega); intro v205 w61 ho hb hg hat; rw [← Ny204.out] at ho; have n0_ := Aside0.mk (Kd.R_after (ok := (fun k_ => some k_ ≠ (.slice Ao62 x7_5.length co62 : Value).ownBlock ∧ k_ ≠ gb168)) (by (with_reducible repeat (first | apply Kd.R_alloc | apply Kd.R_drewN | apply Kd.R_drew)); exact Kd.R_mono HO_3.out (fun _ hk => ⟨⟨hk.1, hk.2.2⟩, hk.2.1⟩)) hg hat); have n1_ := Aside0.mk (blk_grown (g := gb168) (o := .cells #[.bool ((rd_T92 l0 x4_1).f0), u169001] 92 (0, 0)) (by (with_reducible repeat (first | refine blk_drewN ?_ _ | refine blk_drew ?_ | refine blk_alloc ?_ _)); exact BK168.out) hg (Kd.R_ne HO_169001.out BK168.out (by decide))); have n2_ := Aside0.mk (hb); have n3_ := Aside0.mk (ho); clear HO_3; clear BK168; clear HB; clear HO_169001; clear HO_7; have HO_3 := n0_; have BK168 := n1_; have HB := n2_; have HO206 := n3_; clear n0_ n1_ n2_ n3_; clear ho hb hg hat; obtain ⟨Ao63, co63, eo63⟩ := Kd.R_slice HO206.out; subst eo63; have hcz64_0 : w61.cell? ⟨gb168, 0, none⟩ = some (.bool ((rd_T92 l0 x4_1).f0)) := (blk_cell BK168.out 0).trans rfl; have hcz64_1 : w61.cell? ⟨gb168, 1, none⟩ = some (u169001) := (blk_cell BK168.out 1).trans rfl; have hfz64_0 := blk_frozen BK168.out 0; have hfz64_1 := blk_frozen BK168.out 1))
                   go_roundg kj17
                   case measure => have := HK1.out; have := HJ3.out; have := HK3.out; have := HJ10.out; have := HK5.out; have := HJ17.out; omega
                   case rel => exact ⟨(wrap64 (x6_3 + 1)), (y204), (.slice Ao63 y204.length co63), (by first | rfl | (simp; done) | (simp only [emptyNe_, emptyEq_]; done) | (simp [*]; done)), H', ⟨by have := HK1.out; have := HJ3.out; have := HK3.out; have := HJ10.out; have := HK5.out; have := HJ17.out; omega⟩, ⟨by (with_reducible repeat (first | apply Kd.R_alloc | apply Kd.R_drewN | apply Kd.R_drew)); exact Kd.R_mono (Kd.R_far (p := ⟨gb168, 1, none⟩) (Kd.R_mono HO_3.out (fun k_ hk => (⟨hk, hk.1.2⟩ : _ ∧ k_ ≠ gb168))) (fun _ hk => hk.2) (.slice Ao63 y204.length co63)) (fun _ hk => ⟨hk.1.2, hk.1.1.2⟩)⟩, ⟨by (with_reducible repeat (first | apply Kd.R_alloc | apply Kd.R_drewN | apply Kd.R_drew)); exact Kd.R_mono (Kd.R_far (p := ⟨gb168, 1, none⟩) (Kd.R_types HO206.out BK168.out (by decide)) (fun _ hk => hk.2) (.slice Ao63 y204.length co63)) (fun _ hk => trivial)⟩, ⟨by (with_reducible repeat (first | refine blk_drewN ?_ _ | refine blk_drew ?_ | refine blk_alloc ?_ _)); refine blk_put (cs := #[.bool ((rd_T92 l0 x4_1).f0), u169001]) ?_ 1 _ rfl; (with_reducible repeat (first | refine blk_drewN ?_ _ | refine blk_drew ?_ | refine blk_alloc ?_ _)); exact BK168.out⟩, ⟨by repeat (first | (with_reducible first | exact HB.out | apply below_alloc | apply pw_below_drewN | apply below_drew1 | refine below_set ?_ GE168.out) | exact HB.out)⟩⟩
                  ·rw [if_neg c59] at H
                   exact absurd H (by simp)
            ·replace c15 := Bool.eq_false_iff.mpr c15
             subst c15
             have H1 : (if x3_1.length < 4398046511104 then (logjamlaw26_Own.l0 kj10 l0 (x3_1 ++ [(⟨((rd_T92 l0 x4_1).f0), x169001_3⟩ : S92)]) (wrap64 (x4_1 + 1))) else (none)) = some r := by rw [if_neg (show ¬ (false = true) by decide)] at H; exact H
             clear H
             have H := H1
             clear H1
             by_cases c65 : x3_1.length < 4398046511104
             ·rw [if_pos c65] at H
              have LMc65 := Aside0.mk c65
              clear c65
              obtain ⟨y170, hy170⟩ : ∃ y_ : List (S92), y_ = (x3_1 ++ [(⟨((rd_T92 l0 x4_1).f0), x169001_3⟩ : S92)]) := ⟨_, rfl⟩
              replace H : (logjamlaw26_Own.l0 kj10 l0 y170 (wrap64 (x4_1 + 1))) = some r := by first | (rw [hy170]; with_reducible exact H) | (have H2_ := (Option.bind_some _ _).symm.trans H; rw [hy170]; with_reducible exact H2_) | (have H2_ := (Option.bind_some _ _).symm.trans H; with_reducible exact H2_) | with_reducible exact H | (rw [hy170]; exact H) | exact H
              have Ny170 := Aside0.mk hy170
              clear hy170
              have H' := Aside0.mk H
              clear H
              have hcz66_0 : wc.cell? ⟨gb168, 0, none⟩ = some (.bool ((rd_T92 l0 x4_1).f0)) := (blk_cell BK168.out 0).trans rfl
              have hcz66_1 : wc.cell? ⟨gb168, 1, none⟩ = some (u169001) := (blk_cell BK168.out 1).trans rfl
              have hfz66_0 := blk_frozen BK168.out 0
              have hfz66_1 := blk_frozen BK168.out 1
              obtain ⟨Ao68, co68, eo68⟩ := Kd.R_slice HO_169001.out
              subst eo68
              go_wp2_with (first | ((with_reducible refine gate_builtin (b := .append) (xs := #[.tmp 93, .tmp 95]) rfl ?_); at_builtin; refine Kd.R_append k92 (w0 := w) w.heap.size rfl (.tmp 93) (.tmp 95) 23 92 (.agg #[(.bool false), (.slice none 0 0)]) 32 rfl Tryd.underlying23 info92 rfl (by decide) (by omega) u3 x3_1 (⟨((rd_T92 l0 x4_1).f0), x169001_3⟩ : S92) [.bool ((rd_T92 l0 x4_1).f0), .slice Ao68 x169001_3.length co68] (fun k_ => k_ ≠ gb168) (fun k_ => ((fun k_ => k_ ≠ gb168)) k_ ∧ some k_ ≠ (u3 : Value).ownBlock) rfl rfl ?aP (fun _ hk => hk) ?aF ?aO ?aB ?aS ?aL ?_; (case aP => exact k92_mkM _ _ _ (⟨((rd_T92 l0 x4_1).f0), x169001_3⟩ : S92) (Kd.R_mono (Kd.R_types (Kd.R_apart' (HO_169001.out) (Kd.R_typed HO_3.out) (by decide)) BK168.out (by decide)) (fun k_ hk => ⟨hk.2, hk.1.2⟩))); (case aB => exact (by repeat (first | (with_reducible first | exact HB.out | apply below_alloc | apply pw_below_drewN | apply below_drew1 | refine below_set ?_ GE168.out) | exact HB.out))); (case aF => exact (fun k_ hk => Kd.freshB (g := gb168) (o := .cells #[.bool ((rd_T92 l0 x4_1).f0), .slice Ao68 x169001_3.length co68] 92 (0, 0)) (by (with_reducible repeat (first | refine blk_drewN ?_ _ | refine blk_drew ?_ | refine blk_alloc ?_ _)); exact BK168.out) k_ hk)); (case aO => exact (by (with_reducible repeat (first | apply Kd.R_alloc | apply Kd.R_drewN | apply Kd.R_drew)); exact Kd.R_mono HO_3.out (fun _ hk => hk.2))); (case aS => exact (below_size (by repeat (first | (with_reducible first | exact HB.out | apply below_alloc | apply pw_below_drewN | apply below_drew1 | refine below_set ?_ GE168.out) | exact HB.out)))); (case aL => have := LMc65.out; omega); intro v171 w67 ho hb hg hat; rw [← Ny170.out] at ho; have n0_ := Aside0.mk (blk_grown (g := gb168) (o := .cells #[.bool ((rd_T92 l0 x4_1).f0), .slice Ao68 x169001_3.length co68] 92 (0, 0)) (by (with_reducible repeat (first | refine blk_drewN ?_ _ | refine blk_drew ?_ | refine blk_alloc ?_ _)); exact BK168.out) hg (Kd.R_away HO_3.out (fun _ hk => hk.2))); have n1_ := Aside0.mk (hb); have n2_ := Aside0.mk (ho); clear BK168; clear HB; clear HO_3; clear HO_169001; have BK168 := n0_; have HB := n1_; have HO172 := n2_; clear n0_ n1_ n2_; clear ho hb hg hat))
              go_roundg kj10
              case measure => have := HK1.out; have := HJ3.out; have := HK3.out; have := HJ10.out; omega
              case rel => exact ⟨(y170), (wrap64 (x4_1 + 1)), (by first | rfl | (simp; done) | (simp only [emptyNe_, emptyEq_]; done) | (simp [*]; done)), H', ⟨by have := HK1.out; have := HJ3.out; have := HK3.out; have := HJ10.out; omega⟩, ⟨by (with_reducible repeat (first | apply Kd.R_alloc | apply Kd.R_drewN | apply Kd.R_drew)); exact Kd.R_mono HO172.out (fun _ hk => trivial)⟩, ⟨by repeat (first | (with_reducible first | exact HB.out | apply below_alloc | apply pw_below_drewN | apply below_drew1 | refine below_set ?_ GE168.out) | exact HB.out)⟩⟩
             ·rw [if_neg c65] at H
              exact absurd H (by simp)
       ·rw [if_neg c8] at H
        exact absurd H (by simp)
      ·rw [if_neg c7] at H
       exact absurd H (by simp)
     ·replace c6 := Bool.eq_false_iff.mpr c6
      subst c6
      have H1 : (some x3_1) = some r := by rw [if_neg (show ¬ (false = true) by decide)] at H; exact H
      clear H
      have H := H1
      clear H1
      obtain rfl := Option.some.inj H
      go_wp2
      go_ret
      exact ⟨_, by first | rfl | (simp [errW_none, errW_some] <;> rfl) | (simp [*, errW_none, errW_some] <;> rfl), by (with_reducible repeat (first | apply Kd.R_alloc | apply Kd.R_drewN | apply Kd.R_drew)); exact HO_3.out, by repeat (first | (with_reducible first | exact HB.out | apply below_alloc | apply pw_below_drewN | apply below_drew1) | exact HB.out)⟩
end Go.Proofs.YtadepdeckapgcaaDoor.PRp
end

section
namespace Go.Proofs.YtadepdeckapgcaaDoor.Rc
open Go.RowKit Go.Proofs.YtadepdeckapgcaaDoorW.PrintWords Go.Proofs.YtadepdeckapgcaaDoorW.PrintLast Go.Proofs.YtadepdeckapgcaaDoorW.PrintMore Go.Proofs.YtadepdeckapgcaaDoor.PRp Go.Proofs.YtadepdeckapgcaaDoor.Orc
set_option linter.unusedSimpArgs false
set_option linter.unusedVariables false
def ownM (m : NTerm) : NTerm := ⟨m.f0, m.f1.take 70⟩
def ownW (w : List NTerm) : List NTerm := (w.take 6).map ownM
def ownN (x : NNode) : NNode := ⟨x.f0, (x.f1.take 6).map ownW⟩
def ownL (l : List NNode) : List NNode := (l.take 70).map ownN
theorem getD_take {α : Type} (d : α) (l : List α) (n k : Nat) (h : k < n) : (l.take n).getD k d = l.getD k d := by
  rw [List.getD_eq_getElem?_getD, List.getElem?_take, if_pos h, ← List.getD_eq_getElem?_getD]
theorem take_lt {α : Type} (l : List α) (n j d : Nat) (h : j + (d + 1) = (l.take n).length) : j < n ∧ j < l.length ∧ j < (l.take n).length := by
  have := List.length_take (i := n) (l := l)
  omega
theorem ownM_eq (m : NTerm) (f : List NShare) (h : f = m.f1.take 70) : (⟨m.f0, f⟩ : NTerm) = ownM m := by rw [h]; rfl
theorem ev_own_l2 (l out : List NNode) (i a : Nat) (st : Bool) (dn : List (List NTerm)) (r : List NNode) (hi : i < l.length) (ha : a < (rd_T92 l (i : Int)).f1.length) (hm : (rd_T92 l (i : Int)).f1.length ≤ MX) (hdn : dn.length ≤ 6) (hway : Bw (rd_L7 (rd_T92 l (i : Int)).f1 (a : Int))) :
    ∀ (d j : Nat) (acc : List NTerm), j + d = ((rd_L7 (rd_T92 l (i : Int)).f1 (a : Int)).take 6).length → acc.length ≤ j →
      Ev (fun k => logjamlaw26_Own.l1 k l out i ((a + 1 : Nat) : Int) st (dn ++ [acc ++ (((rd_L7 (rd_T92 l (i : Int)).f1 (a : Int)).take 6).drop j).map ownM])) r →
      Ev (fun k => logjamlaw26_Own.l2 k l out i a acc j st dn) r := by
  have hwa := Lib.hid <| wrap_succ a (rd_T92 l (i : Int)).f1.length ha hm
  generalize hW : rd_L7 (rd_T92 l (i : Int)).f1 (a : Int) = way at *
  have htl : (way.take 6).length = min 6 way.length := List.length_take
  intro d
  induction d with
  | zero =>
    intro j acc hj hac h
    rw [List.drop_of_length_le (by omega), List.map_nil, List.append_nil] at h
    have h2 : Ev (fun k => logjamlaw26_Own.j5 k l out i a acc j false st dn) r := by
      refine Ev.step (f := fun k => logjamlaw26_Own.l1 k l out i ((a + 1 : Nat) : Int) st (dn ++ [acc])) (fun k => ?_) h
      simp only [logjamlaw26_Own.j5]
      rw [if_neg (by simp), if_pos (by omega), hwa.out]
    by_cases hjl : j < way.length
    · refine Ev.step (f := fun k => logjamlaw26_Own.j5 k l out i a acc j false st dn) (fun k => ?_) h2
      simp only [logjamlaw26_Own.l2, hW]
      rw [if_pos (by omega), if_pos (by omega), if_pos (by omega), if_pos (by omega), if_pos (by omega), decide_eq_false (by omega)]
    · refine Ev.step (f := fun k => logjamlaw26_Own.j5 k l out i a acc j false st dn) (fun k => ?_) h2
      simp only [logjamlaw26_Own.l2, hW]
      rw [if_pos (by omega), if_pos (by omega), if_pos (by omega), if_pos (by omega), if_neg (by omega)]
  | succ d ih =>
    intro j acc hj hac h
    obtain ⟨hj6, hjl, hjt⟩ := take_lt way 6 j d hj
    have hwj := Lib.hid <| wrap_succ j way.length hjl hway.1
    rw [drop_cons' z96 (way.take 6) j hjt, getD_take z96 way 6 j hj6] at h
    have hrd : rd_T96 way (j : Int) = way.getD j z96 := rfl
    have hmm : (way.getD j z96).f1.length ≤ MX := hway.2 _ (getD_mem z96 way j hjl)
    have h' : Ev (fun k => logjamlaw26_Own.l1 k l out i ((a + 1 : Nat) : Int) st (dn ++ [(acc ++ [ownM (way.getD j z96)]) ++ ((way.take 6).drop (j + 1)).map ownM])) r := by rw [List.append_assoc]; exact h
    have hj1 : j + 1 + d = (way.take 6).length := by rw [← hj]; omega
    have hacc : acc.length ≤ 6 := by omega
    have ih' := ih (j + 1) (acc ++ [ownM (way.getD j z96)]) hj1 (by rw [List.length_append, List.length_singleton]; omega) h'
    generalize way.getD j z96 = m at *
    refine Ev.step (f := fun k => logjamlaw26_Own.j5 k l out i a acc j true st dn) (fun k => ?_) ?_
    · simp only [logjamlaw26_Own.l2, hW]
      rw [if_pos (by omega), if_pos (by omega), if_pos (by omega), if_pos (by omega), if_pos (by omega), decide_eq_true (by omega)]
    refine Ev.step (f := fun k => logjamlaw26_Own.l2 k l out i a (acc ++ [ownM m]) ((j + 1 : Nat) : Int) st dn) (fun k => ?_) ih'
    simp only [logjamlaw26_Own.j5, hW]
    rw [if_pos trivial, if_pos (by omega), if_pos (by omega), if_pos (by omega), if_pos (by omega), if_pos (by omega), if_pos (by omega), hrd, hwj.out]
    by_cases h70 : (m.f1.length : Int) > 70
    · rw [if_pos h70, if_pos (by omega)]
      simp only [Option.bind_some, List.nil_append, List.length_nil, List.length_take]
      rw [if_pos (by omega), if_pos (by omega), ownM_eq m _ rfl]
    · rw [if_neg h70]
      simp only [Option.bind_some, List.nil_append, List.length_nil]
      rw [if_pos (by omega), if_pos (by omega), ownM_eq m _ (List.take_of_length_le (by omega)).symm]
theorem ev_own_l1 (l out : List NNode) (i : Nat) (st : Bool) (r : List NNode) (hi : i < l.length) (hil : l.length ≤ MX) (hout : out.length ≤ 70) (hws : Bws (rd_T92 l (i : Int)).f1) :
    ∀ (d a : Nat) (dn : List (List NTerm)), a + d = ((rd_T92 l (i : Int)).f1.take 6).length → dn.length ≤ a →
      Ev (fun k => logjamlaw26_Own.l0 k l (out ++ [⟨st, dn ++ (((rd_T92 l (i : Int)).f1.take 6).drop a).map ownW⟩]) ((i + 1 : Nat) : Int)) r →
      Ev (fun k => logjamlaw26_Own.l1 k l out i a st dn) r := by
  have hwi := Lib.hid <| wrap_succ i l.length hi hil
  have htl : ((rd_T92 l (i : Int)).f1.take 6).length = min 6 (rd_T92 l (i : Int)).f1.length := List.length_take
  intro d
  induction d with
  | zero =>
    intro a dn hj hac h
    rw [List.drop_of_length_le (by omega), List.map_nil, List.append_nil] at h
    have h2 : Ev (fun k => logjamlaw26_Own.j3 k l out i a false st dn) r := by
      refine Ev.step (f := fun k => logjamlaw26_Own.l0 k l (out ++ [⟨st, dn⟩]) ((i + 1 : Nat) : Int)) (fun k => ?_) h
      simp only [logjamlaw26_Own.j3]
      rw [if_neg (by simp), if_pos (by omega), hwi.out]
    by_cases hjl : a < (rd_T92 l (i : Int)).f1.length
    · refine Ev.step (f := fun k => logjamlaw26_Own.j3 k l out i a false st dn) (fun k => ?_) h2
      simp only [logjamlaw26_Own.l1]
      rw [if_pos (by omega), if_pos (by omega), if_pos (by omega), decide_eq_false (by omega)]
    · refine Ev.step (f := fun k => logjamlaw26_Own.j3 k l out i a false st dn) (fun k => ?_) h2
      simp only [logjamlaw26_Own.l1]
      rw [if_pos (by omega), if_pos (by omega), if_neg (by omega)]
  | succ d ih =>
    intro a dn hj hac h
    obtain ⟨ha6, hal, hat⟩ := take_lt (rd_T92 l (i : Int)).f1 6 a d hj
    rw [drop_cons' [] ((rd_T92 l (i : Int)).f1.take 6) a hat, getD_take _ _ _ _ ha6] at h
    have hrd : rd_L7 (rd_T92 l (i : Int)).f1 (a : Int) = (rd_T92 l (i : Int)).f1.getD a [] := rfl
    have ih' := ih (a + 1) (dn ++ [ownW (rd_L7 (rd_T92 l (i : Int)).f1 (a : Int))]) (by omega) (by rw [List.length_append, List.length_singleton]; omega) (by rw [hrd, List.append_assoc]; exact h)
    refine Ev.step (f := fun k => logjamlaw26_Own.j3 k l out i a true st dn) (fun k => ?_) ?_
    · simp only [logjamlaw26_Own.l1]
      rw [if_pos (by omega), if_pos (by omega), if_pos (by omega), decide_eq_true (by omega)]
    refine Ev.step (f := fun k => logjamlaw26_Own.l2 k l out i a [] ((0 : Nat) : Int) st dn) (fun k => by simp only [logjamlaw26_Own.j3]; rw [if_pos trivial]; rfl) ?_
    refine ev_own_l2 l out i a st dn r hi hal hws.1 (by omega) (hws.2 _ (getD_mem [] _ a hal)) ((rd_L7 (rd_T92 l (i : Int)).f1 (a : Int)).take 6).length 0 [] (Nat.zero_add _) (Nat.le_refl _) ?_
    exact ih'
theorem ev_own_l0 (l : List NNode) (hb : Bns l) : ∀ (d i : Nat) (out : List NNode), i + d = (l.take 70).length → out.length ≤ i → Ev (fun k => logjamlaw26_Own.l0 k l out i) (out ++ ((l.take 70).drop i).map ownN) := by
  have htl : (l.take 70).length = min 70 l.length := List.length_take
  intro d
  induction d with
  | zero =>
    intro i out hi ho
    rw [List.drop_of_length_le (by omega), List.map_nil, List.append_nil]
    have h2 : Ev (fun k => logjamlaw26_Own.j1 k l out i false) out := Ev.step (f := fun _ => some out) (fun k => by simp only [logjamlaw26_Own.j1]; rw [if_neg (by simp)]) (Ev.now _)
    by_cases hil : i < l.length
    · exact Ev.step (f := fun k => logjamlaw26_Own.j1 k l out i false) (fun k => by simp only [logjamlaw26_Own.l0]; rw [if_pos (by omega), decide_eq_false (by omega)]) h2
    · exact Ev.step (f := fun k => logjamlaw26_Own.j1 k l out i false) (fun k => by simp only [logjamlaw26_Own.l0]; rw [if_neg (by omega)]) h2
  | succ d ih =>
    intro i out hi ho
    obtain ⟨hi7, hil, hit⟩ := take_lt l 70 i d hi
    rw [drop_cons' z92 (l.take 70) i hit, getD_take _ _ _ _ hi7]
    have hrd : rd_T92 l (i : Int) = l.getD i z92 := rfl
    have ih' := ih (i + 1) (out ++ [ownN (rd_T92 l (i : Int))]) (by omega) (by simp; omega)
    have hws : Bws (rd_T92 l (i : Int)).f1 := hb.2 _ (getD_mem z92 l i hil)
    rw [List.map_cons, ← hrd]
    refine Ev.step (f := fun k => logjamlaw26_Own.j1 k l out i true) (fun k => by simp only [logjamlaw26_Own.l0]; rw [if_pos (by omega), decide_eq_true (by omega)]) ?_
    refine Ev.step (f := fun k => logjamlaw26_Own.l1 k l out i ((0 : Nat) : Int) (rd_T92 l (i : Int)).f0 []) (fun k => by simp only [logjamlaw26_Own.j1]; rw [if_pos trivial, if_pos (by omega), if_pos (by omega)]; rfl) ?_
    refine ev_own_l1 l out i _ _ hil hb.1 (by omega) hws ((rd_T92 l (i : Int)).f1.take 6).length 0 [] (Nat.zero_add _) (Nat.le_refl _) ?_
    simpa [ownN] using ih'
theorem ev_own (l : List NNode) (hb : Bns l) : Ev (fun k => logjamlaw26_Own.f k l) (ownL l) :=
  Ev.congr (f := fun k => logjamlaw26_Own.l0 k l [] ((0 : Nat) : Int)) (fun k => rfl) (by simpa [ownL] using ev_own_l0 l hb (l.take 70).length 0 [] (by omega) (Nat.le_refl _))
end Go.Proofs.YtadepdeckapgcaaDoor.Rc
end

section
namespace Go.Proofs.YtadepdeckapgcaaDoor.PRp
open Go.RowKit Go.Proofs.YtadepdeckapgcaaDoor.Orc Go.Proofs.YtadepdeckapgcaaDoorW.PrintWords Go.Proofs.YtadepdeckapgcaaDoorW.PrintLast Go.Proofs.YtadepdeckapgcaaDoorW.PrintMore
attribute [local go_sem] max2_int min2_int max_two min_two max_three min_three max_four min_four
set_option linter.unusedVariables false
set_option linter.unusedSimpArgs false
theorem eqA108 (d : Nat) (w : World) (x0 y0 : Int) (x1 y1 : Int) :
  (Op.equalIn (d + 2) 108 (.agg #[.int .i64 x0, .int .i64 x1]) (.agg #[.int .i64 y0, .int .i64 y1])).run Tryd.prog w = .ok (x0 == y0 && (x1 == y1)) w := by
 refine eqA_of Tryd.underlying108 (by kernel_rfl) ?_
 refine eqf_cons (by rfl) (by go_simp; rfl) (by go_simp; rfl) (by go_simp) ?_
 exact eqf_last (by rfl) (by go_simp; rfl) (by go_simp; rfl) (by go_simp)
end Go.Proofs.YtadepdeckapgcaaDoor.PRp
end
