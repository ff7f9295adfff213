/- LawReportTexts, part 4: what the proof stands on (merged by wip/shake.py out of the session's texts and of what the print wrote for this claim). -/
import Derived.Test.YtadepdeckapgcaaDoorZgC

section
namespace Go.Proofs.YtadepdeckapgcaaDoor.Rp
open Go.RowKit Go.Proofs.YtadepdeckapgcaaDoorW.PrintWords Go.Proofs.YtadepdeckapgcaaDoor.PRp Go.Proofs.YtadepdeckapgcaaDoor.Orc Go.Proofs.YtadepdeckapgcaaDoor
set_option linter.unusedVariables false
set_option linter.unusedSimpArgs false
def mkB (l : List UInt8) : ByteArray := ⟨l.toArray⟩
theorem mkB_data (l : List UInt8) : (mkB l).data.toList = l := by simp [mkB]
theorem mkB_of (s : ByteArray) : mkB s.data.toList = s := by unfold mkB; exact Lib.mk_data s
theorem mkB_list (l : List UInt8) : (mkB l).toList = l := by rw [Lib.toList_data, mkB_data]
theorem mkB_size (l : List UInt8) : (mkB l).size = l.length := by rw [Lib.size_eq, mkB_data]
theorem data_inj {a b : ByteArray} (h : a.data.toList = b.data.toList) : a = b := by rw [← mkB_of a, h, mkB_of]
theorem map_mk (l : List ByteArray) : (l.map (·.data.toList)).map mkB = l := by
  rw [List.map_map]; conv => rhs; rw [← List.map_id l]
  exact List.map_congr_left (fun x _ => mkB_of x)
theorem dat_app (a b : ByteArray) : (a ++ b).data.toList = a.data.toList ++ b.data.toList := by simp
theorem splP_data (a b : ByteArray) : (splP a b).map (·.data.toList) = Lib.split a.data.toList b.data.toList := by
  unfold splP; rw [Lib.splitB_data]; rfl
theorem splP_eq (a b : ByteArray) : splP a b = (Lib.split a.data.toList b.data.toList).map mkB := by rw [← splP_data, map_mk]
theorem joinB_data (l : List ByteArray) (s : ByteArray) : (joinB l s).data.toList = Lib.join (l.map (·.data.toList)) s.data.toList := by unfold joinB; simp
theorem spl_join {sep : ByteArray} {c : UInt8} (S : Sep sep.data.toList c) (ps : List ByteArray) (h0 : ps ≠ []) (h : ∀ p ∈ ps, ∀ b ∈ p.data.toList, b ≠ c) : splP (joinB ps sep) sep = ps := by
  rw [splP_eq, joinB_data, split_join S _ (by simpa using h0), map_mk]
  intro p hp
  obtain ⟨q, hq, rfl⟩ := List.mem_map.1 hp
  exact h q hq
theorem cutP_hit {sep : ByteArray} {c : UInt8} (S : Sep sep.data.toList c) (p r : ByteArray) (h : ∀ b ∈ p.data.toList, b ≠ c) : cutP ((p ++ sep) ++ r) sep = (p, r, true) := by
  unfold cutP
  rw [dat_app, dat_app, List.append_assoc, cut_hit S _ _ h]
theorem cpP_hit (p r : ByteArray) : cpP (p ++ r) p = (r, true) := by
  unfold cpP
  obtain ⟨h1, h2⟩ := prefix_of p.data.toList r.data.toList
  rw [dat_app, h1, h2]
theorem rnum_it (n : Int) (h0 : 0 ≤ n) (h1 : n < 10000000000) : rnumP (itB n) = (n, true) := by
  obtain ⟨hl, _⟩ := itoa_ten n h0 h1
  have ha := atoi_itoa n (by omega) (by omega)
  have e1 : atoiOkB (itB n) = true := by unfold atoiOkB; rw [itB_data, ha]
  have e2 : atoiN (itB n) = n := by unfold atoiN; rw [itB_data, ha]
  unfold rnumP
  rw [e2, if_pos ⟨e1, h0, by rw [Lib.size_eq, itB_data]; exact hl, (itB_data n).symm⟩]
theorem it_dig (n : Int) (h0 : 0 ≤ n) (h1 : n < 10000000000) : ∀ b ∈ (itB n).data.toList, isDig b := by rw [itB_data]; exact (itoa_ten n h0 h1).2
theorem dig_ne {b c : UInt8} (h : isDig b) (hc : c.toNat < 48 ∨ 57 < c.toNat) : b ≠ c := by rintro rfl; unfold isDig at h; omega
def isSh (b : UInt8) : Prop := isDig b ∨ b = 58 ∨ b = 44 ∨ b = 45
def isWy (b : UInt8) : Prop := isSh b ∨ b = 32 ∨ b = 111 ∨ b = 102
theorem isSh_ne {b c : UInt8} (h : isSh b) (hc : c.toNat < 44 ∨ (57 < c.toNat ∧ c.toNat ≠ 58)) : b ≠ c := by
  rcases h with h | rfl | rfl | rfl
  · exact dig_ne h (by omega)
  all_goals (rintro rfl; revert hc; decide)
theorem isWy_ne {b c : UInt8} (h : isWy b) (hc : c.toNat < 32 ∨ c = 43) : b ≠ c := by
  rcases h with h | rfl | rfl | rfl
  · refine isSh_ne h (.inl ?_)
    rcases hc with h | rfl
    · omega
    · decide
  all_goals (rintro rfl; revert hc; decide)
theorem join_mem (P : UInt8 → Prop) (sep : List UInt8) (hs : ∀ b ∈ sep, P b) : ∀ l : List (List UInt8), (∀ x ∈ l, ∀ b ∈ x, P b) → ∀ b ∈ Lib.join l sep, P b
  | [], _, b, hb => by simp [Lib.join_nil] at hb
  | [x], h, b, hb => by rw [Lib.join_one] at hb; exact h x (by simp) b hb
  | x :: y :: r, h, b, hb => by
    rw [join_two] at hb
    simp only [List.mem_append] at hb
    rcases hb with hb | hb | hb
    · exact h x (by simp) b hb
    · exact hs b hb
    · exact join_mem P sep hs (y :: r) (fun z hz => h z (by simp [hz])) b hb
theorem sh_lt {s : S108} (h : ShOk s) : ∀ b ∈ (shB s).data.toList, isDig b ∨ b = 58 := by
  obtain ⟨a, b, c, d⟩ := h
  intro x hx
  unfold shB at hx
  rw [dat_app, dat_app] at hx
  simp only [List.mem_append] at hx
  rcases hx with (hx | hx) | hx
  · exact .inl (it_dig _ a (by omega) x hx)
  · exact .inr (List.mem_singleton.1 hx)
  · exact .inl (it_dig _ (by omega) (by omega) x hx)
theorem shares_lt {l : List S108} (h : ∀ s ∈ l, ShOk s) : ∀ b ∈ (sharesP l).data.toList, isSh b := by
  unfold sharesP
  split
  · intro b hb; exact .inr (.inr (.inr (List.mem_singleton.1 hb)))
  · rw [joinB_data]
    refine join_mem isSh _ (fun b hb => .inr (.inr (.inl (List.mem_singleton.1 hb)))) _ (fun x hx b hb => ?_)
    rw [List.map_map] at hx
    obtain ⟨s, hs, rfl⟩ := List.mem_map.1 hx
    rcases sh_lt (h s hs) b hb with h | h
    · exact .inl h
    · exact .inr (.inl h)
theorem term_lt {m : S96} (h : TmOk m) : ∀ b ∈ (termB m).data.toList, isWy b := by
  obtain ⟨a, b, c, d⟩ := h
  intro x hx
  unfold termB at hx
  rw [dat_app, dat_app] at hx
  simp only [List.mem_append] at hx
  rcases hx with (hx | hx) | hx
  · exact .inl (.inl (it_dig _ (by omega) (by omega) x hx))
  · have hx : x ∈ ([32, 111, 102, 32] : List UInt8) := hx
    simp at hx
    rcases hx with h | h | h | h
    · exact .inr (.inl h)
    · exact .inr (.inr (.inl h))
    · exact .inr (.inr (.inr h))
    · exact .inr (.inl h)
  · exact .inl (shares_lt d x hx)
theorem shGo_map : ∀ (l acc : List S108), (∀ s ∈ l, ShOk s) → shGo (l.map shB) acc = (acc ++ l, true)
  | [], acc, _ => by simp [shGo]
  | s :: l, acc, h => by
    obtain ⟨a, b, c, d⟩ := h s (by simp)
    have e : cutP (shB s) sColon = (itB s.f0, itB s.f1, true) := cutP_hit (Sep.one 58) _ _ (fun x hx => dig_ne (it_dig _ a (by omega) x hx) (.inr (by decide)))
    rw [List.map_cons]
    simp only [shGo]
    rw [e, rnum_it s.f0 a (by omega), rnum_it s.f1 (by omega) (by omega), if_pos ⟨rfl, rfl, rfl⟩, shGo_map l _ (fun x hx => h x (by simp [hx]))]
    simp
theorem from_shares {l : List S108} (h : ∀ s ∈ l, ShOk s) : fromP (sharesP l) = (l, true) := by
  unfold fromP sharesP
  by_cases hl : l.length = 0
  · rw [if_pos hl, if_pos (Lib.toList_data _), List.eq_nil_of_length_eq_zero hl]
  · rw [if_neg hl]
    have hn : l ≠ [] := fun e => hl (by rw [e]; rfl)
    rw [if_neg, spl_join (Sep.one 44) _ (by simpa using hn), shGo_map l [] h]
    · simp
    · intro p hp b hb
      obtain ⟨s, hs, rfl⟩ := List.mem_map.1 hp
      rcases sh_lt (h s hs) b hb with q | rfl
      · exact dig_ne q (.inl (by decide))
      · decide
    · intro e
      rw [Lib.toList_data, joinB_data] at e
      have e := congrArg List.length e
      cases l with
      | nil => exact hl rfl
      | cons s r =>
        rw [List.map_cons, List.map_cons, Lib.join_cons, List.length_append] at e
        have q : 2 ≤ (shB s).data.toList.length := by
          unfold shB
          rw [dat_app, dat_app, List.length_append, List.length_append, itB_data, itB_data]
          have a := List.length_pos_iff.2 (itoa_ne s.f0); have b := List.length_pos_iff.2 (itoa_ne s.f1)
          omega
        change (shB s).data.toList.length + _ = 1 at e; omega
theorem altGo_map : ∀ (l acc : List S96), (∀ s ∈ l, TmOk s) → altGo (l.map termB) acc = (acc ++ l, true)
  | [], acc, _ => by simp [altGo]
  | m :: l, acc, h => by
    obtain ⟨a, b, c, d⟩ := h m (by simp)
    have e : cutP (termB m) sOf = (itB m.f0, sharesP m.f1, true) := cutP_hit (Sep.two 32 111 [102, 32] (by decide)) _ _ (fun x hx => dig_ne (it_dig _ (by omega) (by omega) x hx) (.inr (by decide)))
    rw [List.map_cons]
    simp only [altGo]
    rw [e, rnum_it m.f0 (by omega) (by omega), from_shares d, if_pos ⟨rfl, rfl, rfl⟩, altGo_map l _ (fun x hx => h x (by simp [hx]))]
    simp
def wayQ (w : List S96) : ByteArray := if w.length = 0 then ⟨#[32, 32, 119, 97, 121]⟩ else sWay ++ joinB (w.map termB) sPlus
theorem wayP_eq (w : List S96) : wayP w = wayQ w ++ sNl := by
  unfold wayP wayQ
  split <;> rfl
theorem alt_way {w : List S96} (h : ∀ m ∈ w, TmOk m) : altP (wayQ w) = (w, true) := by
  unfold altP wayQ
  by_cases hl : w.length = 0
  · rw [if_pos hl, if_pos (Lib.toList_data _), List.eq_nil_of_length_eq_zero hl]
  · rw [if_neg hl]
    have hn : w ≠ [] := fun e => hl (by rw [e]; rfl)
    rw [if_neg, cpP_hit, if_pos rfl, spl_join (Sep.two 32 43 [32] (by decide)) _ (by simpa using hn), altGo_map w [] h]
    · simp
    · intro p hp b hb
      obtain ⟨s, hs, rfl⟩ := List.mem_map.1 hp
      exact isWy_ne (term_lt (h s hs) b hb) (.inr rfl)
    · intro e
      have e := congrArg List.length e
      rw [Lib.toList_data, dat_app, List.length_append] at e
      have : sWay.data.toList.length = 6 := rfl
      simp at e; omega
theorem wayQ_lt {w : List S96} (h : ∀ m ∈ w, TmOk m) : ∀ b ∈ (wayQ w).data.toList, b ≠ 10 := by
  unfold wayQ
  split
  · decide
  · intro b hb
    rw [dat_app] at hb
    rcases List.mem_append.1 hb with hb | hb
    · exact (show ∀ b ∈ sWay.data.toList, b ≠ 10 by decide) b hb
    · rw [joinB_data] at hb
      refine join_mem (· ≠ 10) _ (by decide) _ (fun x hx b hb => ?_) b hb
      rw [List.map_map] at hx
      obtain ⟨s, hs, rfl⟩ := List.mem_map.1 hx
      exact isWy_ne (term_lt (h s hs) b hb) (.inl (by decide))
def nlB : List ByteArray → List UInt8
  | [] => []
  | x :: r => x.data.toList ++ 10 :: nlB r
theorem nlB_app : ∀ a b : List ByteArray, nlB (a ++ b) = nlB a ++ nlB b
  | [], b => rfl
  | x :: a, b => by simp [nlB, nlB_app a b]
def bodyQ : List Int → List S92 → List ByteArray
  | t :: d, x :: n => (sThread ++ itB t) :: (x.f1.map wayQ ++ bodyQ d n)
  | _, _ => []
def sEnd : ByteArray := ⟨#[101, 110, 100]⟩
def linesQ (T : Int) (d : List Int) (n : List S92) : List ByteArray := (sReport ++ itB T) :: (bodyQ d n ++ [sEnd])
theorem waysL_eq : ∀ ws : List (List S96), waysL ws = nlB (ws.map wayQ)
  | [] => rfl
  | w :: r => by simp only [waysL, List.map_cons, nlB]; rw [waysL_eq r, wayP_eq, dat_app]; simp
theorem bodyL_eq : ∀ (d : List Int) (n : List S92), bodyL d n = nlB (bodyQ d n)
  | [], n => by unfold bodyL bodyQ; rfl
  | t :: d, [] => by unfold bodyL bodyQ; rfl
  | t :: d, x :: n => by
    simp only [bodyL, bodyQ, nlB]
    rw [nlB_app, ← waysL_eq, bodyL_eq d n, dat_app]
    simp
theorem textL_eq (T : Int) (d : List Int) (n : List S92) : textL T d n = nlB (linesQ T d n) := by
  unfold textL linesQ
  simp only [nlB]
  rw [nlB_app, bodyL_eq, dat_app]
  simp [nlB, sEnd]
theorem join_nl : ∀ ls : List ByteArray, joinB (ls ++ [⟨#[]⟩]) sNl = mkB (nlB ls)
  | [] => rfl
  | x :: r => by
    have ih := join_nl r
    apply data_inj
    have ih : (joinB (r ++ [⟨#[]⟩]) sNl).data.toList = (mkB (nlB r)).data.toList := by rw [ih]
    rw [mkB_data, joinB_data] at ih
    rw [mkB_data, joinB_data]
    cases r with
    | nil => simp [nlB, Lib.join, List.intercalate]
    | cons y r =>
      rw [List.cons_append, List.cons_append, List.map_cons, List.map_cons, join_two]
      rw [List.cons_append, List.map_cons] at ih
      rw [ih]; simp [nlB]
theorem lines_free {T : Int} {d : List Int} {n : List S92} (h : RpOk T d n) : ∀ x ∈ linesQ T d n, ∀ b ∈ x.data.toList, b ≠ 10 := by
  have hb : ∀ (d : List Int) (n : List S92), (∀ t ∈ d, 0 ≤ t ∧ t < 64) → (∀ x ∈ n, NdOk x) → ∀ x ∈ bodyQ d n, ∀ b ∈ x.data.toList, b ≠ 10 := by
    intro d
    induction d with
    | nil => intro n _ _ x hx; unfold bodyQ at hx; simp at hx
    | cons t d ih =>
      intro n hd hn x hx
      cases n with
      | nil => unfold bodyQ at hx; simp at hx
      | cons y n =>
        simp only [bodyQ] at hx
        rcases List.mem_cons.1 hx with rfl | hx
        · intro b hb
          rw [dat_app] at hb
          rcases List.mem_append.1 hb with hb | hb
          · exact (show ∀ b ∈ sThread.data.toList, b ≠ 10 by decide) b hb
          · have := hd t (by simp); exact dig_ne (it_dig t (by omega) (by omega) b hb) (.inl (by decide))
        · rcases List.mem_append.1 hx with hx | hx
          · obtain ⟨w, hw, rfl⟩ := List.mem_map.1 hx
            exact wayQ_lt ((hn y (by simp)).2.2 w hw).2
          · exact ih n (fun z hz => hd z (by simp [hz])) (fun z hz => hn z (by simp [hz])) x hx
  intro x hx
  unfold linesQ at hx
  rcases List.mem_cons.1 hx with rfl | hx
  · intro b hb
    rw [dat_app] at hb
    rcases List.mem_append.1 hb with hb | hb
    · exact (show ∀ b ∈ sReport.data.toList, b ≠ 10 by decide) b hb
    · have := h.t0; have := h.t1; exact dig_ne (it_dig T (by omega) (by omega) b hb) (.inl (by decide))
  · rcases List.mem_append.1 hx with hx | hx
    · exact hb d n h.d h.n x hx
    · obtain rfl := List.mem_singleton.1 hx; decide
theorem spl_text {T : Int} {d : List Int} {n : List S92} (h : RpOk T d n) : splP (mkB (textL T d n)) sNl = linesQ T d n ++ [⟨#[]⟩] := by
  rw [textL_eq, ← join_nl]
  refine spl_join (Sep.one 10) _ (by simp) (fun p hp => ?_)
  rcases List.mem_append.1 hp with hp | hp
  · exact lines_free h p hp
  · obtain rfl := List.mem_singleton.1 hp; decide
theorem putLast_snoc (n : List S92) (x : S92) (w : List S96) : putLast (n ++ [x]) w = n ++ [⟨x.f0, x.f1 ++ [w]⟩] := by
  unfold putLast
  have e : (n ++ [x]).length - 1 = n.length := by simp
  rw [e]
  have g : (n ++ [x]).getD n.length z92 = x := by simp [List.getD]
  rw [g]
  simp [List.set_append]
theorem way_no_thread (w : List S96) : (cpP (wayQ w) sThread).2 = false := by
  unfold cpP
  show Lib.hasPrefix (wayQ w).data.toList [116, 104, 114, 101, 97, 100, 32] = false
  unfold wayQ
  split
  · decide
  · rw [dat_app]
    show Lib.hasPrefix (32 :: _) _ = false
    exact prefix_no _ _ (by decide)
theorem rdGo_ways (T : Int) : ∀ (ws : List (List S96)) (r : List ByteArray) (d : List Int) (n : List S92) (x : S92), (∀ w ∈ ws, WyOk w) →
    rdGo T (ws.map wayQ ++ r) d (n ++ [x]) = rdGo T r d (n ++ [⟨x.f0, x.f1 ++ ws⟩])
  | [], r, d, n, x, _ => by simp
  | w :: ws, r, d, n, x, h => by
    rw [List.map_cons, List.cons_append]
    simp only [rdGo]
    rw [way_no_thread, if_neg (by simp), alt_way (h w (by simp)).2, if_pos ⟨rfl, by simp⟩, putLast_snoc, rdGo_ways T ws r d n _ (fun y hy => h y (by simp [hy]))]
    simp
theorem rdGo_body (T : Int) : ∀ (d2 : List Int) (n2 : List S92) (d : List Int) (n : List S92), d2.length = n2.length → (∀ t ∈ d2, 0 ≤ t ∧ t < 64) → (∀ x ∈ n2, NdOk x) →
    rdGo T (bodyQ d2 n2) d n = (T, d ++ d2, n ++ n2, true)
  | [], n2, d, n, hl, _, _ => by
    obtain rfl := List.eq_nil_of_length_eq_zero hl.symm
    unfold bodyQ; simp [rdGo]
  | t :: d2, [], d, n, hl, _, _ => by simp at hl
  | t :: d2, x :: n2, d, n, hl, hd, hn => by
    have ht := hd t (by simp)
    have hx := hn x (by simp)
    simp only [bodyQ, rdGo]
    rw [cpP_hit, rnum_it t (by omega) (by omega), if_pos rfl, if_pos rfl, rdGo_ways T x.f1 _ _ n _ hx.2.2, rdGo_body T d2 n2 _ _ (by simpa using hl) (fun z hz => hd z (by simp [hz])) (fun z hz => hn z (by simp [hz]))]
    have e : (⟨true, [] ++ x.f1⟩ : S92) = x := by
      have := hx.1
      cases x; simp at this ⊢; exact this
    rw [e]; simp
theorem rd_last3 (h e z : ByteArray) (b : List ByteArray) : rdOf ByteArray.empty (h :: (b ++ [e, z])) (((h :: (b ++ [e, z])).length : Int) - 1) = z ∧ rdOf ByteArray.empty (h :: (b ++ [e, z])) (((h :: (b ++ [e, z])).length : Int) - 2) = e ∧ rdOf ByteArray.empty (h :: (b ++ [e, z])) 0 = h ∧ ((h :: (b ++ [e, z])).take ((h :: (b ++ [e, z])).length - 2)).drop 1 = b := by
  have hl : (h :: (b ++ [e, z])).length = b.length + 3 := by simp
  rw [hl]
  have e1 : ((((b.length + 3 : Nat) : Int)) - 1) = ((b.length + 2 : Nat) : Int) := by omega
  have e2 : ((((b.length + 3 : Nat) : Int)) - 2) = ((b.length + 1 : Nat) : Int) := by omega
  rw [e1, e2]
  refine ⟨?_, ?_, ?_, ?_⟩
  · rw [rd_eq _ _ (by simp)]; simp [List.getElem_append]
  · rw [rd_eq _ _ (by simp)]; simp [List.getElem_append]
  · exact rd_eq (h :: (b ++ [e, z])) 0 (by simp)
  · rw [show b.length + 3 - 2 = b.length + 1 by omega, List.take_succ_cons, List.drop_succ_cons, List.drop_zero, List.take_left' rfl]
theorem rd_text {T : Int} {d : List Int} {n : List S92} (h : RpOk T d n) : rdP (linesQ T d n ++ [⟨#[]⟩]) = (T, d, n, true) := by
  have e : linesQ T d n ++ [⟨#[]⟩] = (sReport ++ itB T) :: (bodyQ d n ++ [sEnd, ⟨#[]⟩]) := by unfold linesQ; simp
  rw [e]
  obtain ⟨a, b, c, f⟩ := rd_last3 (sReport ++ itB T) sEnd ⟨#[]⟩ (bodyQ d n)
  unfold rdP
  rw [a, b, c, f, if_neg, cpP_hit, if_pos rfl, rnum_it T h.t0 (by have := h.t1; omega), if_pos rfl, rdGo_body T d n [] [] h.len h.d h.n]
  · simp
  · rintro (q | q | q)
    · simp at q; omega
    · exact q (Lib.toList_data _)
    · exact q (Lib.toList_data _)
end Go.Proofs.YtadepdeckapgcaaDoor.Rp
end

section
namespace Go.Proofs.YtadepdeckapgcaaDoor.PRp
open Go.RowKit Go.Proofs.YtadepdeckapgcaaDoor.Orc Go.Proofs.YtadepdeckapgcaaDoorW.PrintWords Go.Proofs.YtadepdeckapgcaaDoorW.PrintLast Go.Proofs.YtadepdeckapgcaaDoorW.PrintMore
attribute [local go_sem] max2_int min2_int max_two min_two max_three min_three max_four min_four
set_option linter.unusedVariables false
set_option linter.unusedSimpArgs false
def logjamref02_Digits.f : Nat → Int → Option (ByteArray)
 | 0, _ => none
 | k + 1, a0 => if a0 < 10 then (some (strOfNums (([(wrap64 (48 + a0)) % 256] : List Int)))) else ((logjamref02_Digits.f k (wrap64 (Int.tdiv a0 10))).bind fun t246 => ((some (([(wrap64 (48 + (Int.tmod a0 10))) % 256] : List Int) : List Int)).bind fun y247 => (if t246.size + (strOfNums y247).size ≤ 9223372036854775807 then (some (t246 ++ (strOfNums y247))) else (none))))
def logjamref02_Digits.T3 : Bool × List (List Nat × List Nat) := (true, [([], []), ([0], [0]), ([1], [1]), ([], []), ([3], [3]), ([4], [4]), ([5], [5]), ([6], [6]), ([7], [7]), ([2, 8], [2, 8]), ([9, 2, 0, 1, 2, 3, 4, 5, 6, 7, 8, 9], [9])])
def logjamref02_Digits.B3 : List Nat := [0, 1, 3, 0, 8, 24, 56, 120, 248, 511, 1023]
theorem logjamref02_Digits.tab3 : rtab .any (opsOf Tryd.f125 3) = logjamref02_Digits.T3 := by kernel_rfl
theorem logjamref02_Digits.bits3 : waitsOk logjamref02_Digits.T3.2 logjamref02_Digits.B3 = true := by kernel_rfl
set_option maxHeartbeats 8000000 in
set_option maxRecDepth 100000 in
theorem logjamref02_Digits.calls (k : Nat) : ∀ (a0 : Int) (r : ByteArray) (w : World) (h : logjamref02_Digits.f k a0 = some r),
  Calls Tryd.prog 125 #[.int .i64 a0] w fun e w' => e = .returned (.string r) ∧ Below w.heap.size w w' := by
 induction k using Nat.strongRecOn with
 | _ k ih =>
 intro a0 r w h
 cases k with
 | zero => exact absurd h (by simp [logjamref02_Digits.f])
 | succ k =>
 simp only [logjamref02_Digits.f] at h
 have HB := Aside0.mk (Below.refl w.heap.size w)
 have H : (if a0 < 10 then (some (strOfNums (([(wrap64 (48 + a0)) % 256] : List Int)))) else ((logjamref02_Digits.f k (wrap64 (Int.tdiv a0 10))).bind fun t246 => ((some (([(wrap64 (48 + (Int.tmod a0 10))) % 256] : List Int) : List Int)).bind fun y247 => (if t246.size + (strOfNums y247).size ≤ 9223372036854775807 then (some (t246 ++ (strOfNums y247))) else (none))))) = some r := h
 clear h
 by_cases c2 : a0 < 10
 ·rw [if_pos c2] at H
  have c2b0 : decide (a0 < 10) = true := decide_eq_true c2
  clear c2
  obtain ⟨y243, hy243⟩ : ∃ y_ : List Int, y_ = (([(wrap64 (48 + a0)) % 256] : List Int)) := ⟨_, rfl⟩
  replace H : (some (strOfNums y243)) = some r := by first | (rw [hy243]; with_reducible exact H) | (have H2_ := (Option.bind_some _ _).symm.trans H; rw [hy243]; with_reducible exact H2_) | (have H2_ := (Option.bind_some _ _).symm.trans H; with_reducible exact H2_) | with_reducible exact H | (rw [hy243]; exact H) | exact H
  have Ny243 := Aside0.mk hy243
  clear hy243
  obtain rfl := Option.some.inj H
  go_enter Tryd.func125, Tryd.ntmps125
  go_wp2_with (first | ((with_reducible refine gate_dst (N := 8) rfl ?_); refine Kd.R_lit (Kd.int .u8) _ 5 ?hg (N := 8) ?hd (xs := ([(wrap64 (48 + a0)) % 256] : List Int)) (inner := [.int .u8 ((wrap64 (48 + a0)) % 256)]) (ok := fun _ => True) (okp := fun _ => True) ?hr ?hp (fun _ hk => hk) trivial (Below.refl _ _) (Nat.le_refl _) (by simp) ?_; (case hd => rfl); (case hg => rfl); (case hr => first | (go_simp; done) | (go_simp; rfl)); (case hp => exact (Reps.one (show Kd.M (Kd.int .u8) _ _ _ ((wrap64 (48 + a0)) % 256) [.int .u8 ((wrap64 (48 + a0)) % 256)] from rfl) (Reps.none _ _))); intro v244 w3 ho4 hb hg_ hnew_; clear hg_ hnew_; (first | rw [← Ny243.out] at ho4 | (simp only [Int.reduceToNat] at ho4; rw [← Ny243.out] at ho4)); have n0_ := Aside0.mk (Kd.R_lower ho4 (below_size (by repeat (first | (with_reducible first | exact HB.out | apply below_alloc | apply pw_below_drewN | apply below_drew1) | exact HB.out)))); have n1_ := Aside0.mk (below_step (by repeat (first | (with_reducible first | exact HB.out | apply below_alloc | apply pw_below_drewN | apply below_drew1) | exact HB.out)) hb); clear HB; have HO245 := n0_; have HB := n1_; clear n0_ n1_; clear hb ho4; have hcv5 := own_string (P := Tryd.prog) Tryd.underlying123 Tryd.underlying5 Tryd.underlying9 (Kd.own_of_R HO245.out)))
  go_ret
  exact ⟨by first | rfl | (simp [errW_none, errW_some] <;> rfl) | (simp [*, errW_none, errW_some] <;> rfl), by repeat (first | (with_reducible first | exact HB.out | apply below_alloc | apply pw_below_drewN | apply below_drew1) | exact HB.out)⟩
 ·rw [if_neg c2] at H
  have c2b0 : decide (a0 < 10) = false := decide_eq_false c2
  clear c2
  replace H := Option.bind_eq_some_iff.mp H
  obtain ⟨t246, A60, H⟩ := H
  replace H : ((some (([(wrap64 (48 + (Int.tmod a0 10))) % 256] : List Int) : List Int)).bind fun y247 => (if t246.size + (strOfNums y247).size ≤ 9223372036854775807 then (some (t246 ++ (strOfNums y247))) else (none))) = some r := H
  have A6 := Aside0.mk A60
  clear A60
  obtain ⟨y247, hy247⟩ : ∃ y_ : List Int, y_ = (([(wrap64 (48 + (Int.tmod a0 10))) % 256] : List Int)) := ⟨_, rfl⟩
  replace H : (if t246.size + (strOfNums y247).size ≤ 9223372036854775807 then (some (t246 ++ (strOfNums y247))) else (none)) = some r := by first | (rw [hy247]; with_reducible exact H) | (have H2_ := (Option.bind_some _ _).symm.trans H; rw [hy247]; with_reducible exact H2_) | (have H2_ := (Option.bind_some _ _).symm.trans H; with_reducible exact H2_) | with_reducible exact H | (rw [hy247]; exact H) | exact H
  have Ny247 := Aside0.mk hy247
  clear hy247
  by_cases c7 : t246.size + (strOfNums y247).size ≤ 9223372036854775807
  ·rw [if_pos c7] at H
   have c7b0 := eq_true c7
   have c7b1 : decide (t246.size + (strOfNums y247).size ≤ 9223372036854775807) = true := decide_eq_true c7
   try have c7b2 : (9223372036854775807 < t246.size + (strOfNums y247).size) = False := eq_false (Nat.not_lt.2 c7)
   obtain rfl := Option.some.inj H
   go_enter Tryd.func125, Tryd.ntmps125
   try go_wp2
   have n0_ := Aside0.mk (below_drew1 HB.out)
   clear HB; have HB := n0_; clear n0_
   refine start_ (n := 11) (S := fun w' => True) (ds := []) #[false, false, false, false, false, false, false, false, false, false, false] (by kernel_rfl) rfl rfl trivial (fun hHeld => ?_); refine with_tabW logjamref02_Digits.tab3 logjamref02_Digits.bits3 (fun HT_ HW_ => ?_)
   generalize w.drew = w8 at HB hHeld ⊢
   refine pure_ (i := 0) (N := some 10) (v := ?_) (a' := ?_) #[true, false, false, false, false, false, false, false, false, false, false] rfl rfl (any_of HT_.out (by kernel_rfl)) (fun _ _ _ h => h) (Or.inl ⟨by rfl, ?_⟩) ?_ ?_
   rotate_left
   ·intro w'
    go_simp
    with_reducible rfl
   rotate_left
   ·simp only [Act.put, List.setIfInBounds_toArray, List.set_cons_zero, List.set_cons_succ, i64_w, i32_w]
    rfl
   refine pure_ (i := 1) (N := some 11) (v := ?_) (a' := ?_) #[true, true, false, false, false, false, false, false, false, false, false] rfl rfl (any_of HT_.out (by kernel_rfl)) (fun _ _ _ h => h) (Or.inl ⟨by rfl, ?_⟩) ?_ ?_
   rotate_left
   ·intro w'
    go_simp
    with_reducible rfl
   rotate_left
   ·simp only [Act.put, List.setIfInBounds_toArray, List.set_cons_zero, List.set_cons_succ, i64_w, i32_w]
    rfl
   refine pure_ (i := 3) (N := some 13) (v := ?_) (a' := ?_) #[true, true, false, true, false, false, false, false, false, false, false] rfl rfl (any_of HT_.out (by kernel_rfl)) (fun _ _ _ h => h) (Or.inl ⟨by rfl, ?_⟩) ?_ ?_
   rotate_left
   ·intro w'
    go_simp
    with_reducible rfl
   rotate_left
   ·simp only [Act.put, List.setIfInBounds_toArray, List.set_cons_zero, List.set_cons_succ, i64_w, i32_w]
    rfl
   refine pure_ (i := 4) (N := some 14) (v := ?_) (a' := ?_) #[true, true, false, true, true, false, false, false, false, false, false] rfl rfl (any_of HT_.out (by kernel_rfl)) (fun _ _ _ h => h) (Or.inl ⟨by rfl, ?_⟩) ?_ ?_
   rotate_left
   ·intro w'
    go_simp
    with_reducible rfl
   rotate_left
   ·simp only [Act.put, List.setIfInBounds_toArray, List.set_cons_zero, List.set_cons_succ, i64_w, i32_w]
    rfl
   refine pure_ (i := 5) (N := some 15) (v := ?_) (a' := ?_) #[true, true, false, true, true, true, false, false, false, false, false] rfl rfl (any_of HT_.out (by kernel_rfl)) (fun _ _ _ h => h) (Or.inl ⟨by rfl, ?_⟩) ?_ ?_
   rotate_left
   ·intro w'
    go_simp
    with_reducible rfl
   rotate_left
   ·simp only [Act.put, List.setIfInBounds_toArray, List.set_cons_zero, List.set_cons_succ, i64_w, i32_w]
    rfl
   refine pure_ (i := 6) (N := some 16) (v := ?_) (a' := ?_) #[true, true, false, true, true, true, true, false, false, false, false] rfl rfl (any_of HT_.out (by kernel_rfl)) (fun _ _ _ h => h) (Or.inl ⟨by rfl, ?_⟩) ?_ ?_
   rotate_left
   ·intro w'
    go_simp
    with_reducible rfl
   rotate_left
   ·simp only [Act.put, List.setIfInBounds_toArray, List.set_cons_zero, List.set_cons_succ, i64_w, i32_w]
    rfl
   refine join_ (σ := Value) 2 #[true, true, true, true, true, true, true, true, true, false, false] (fun s_ => [(12, .string t246), (17, s_), (18, .string (strOfNums y247))]) (fun s_ w' => (Kd.R (Kd.int .u8) 5 w' w.heap.size (fun _ => True) s_ y247) ∧ (Below w.heap.size w w')) ?_ ?_
   rotate_left
   ·intro hCont
    refine two_ (i := 2) (j := 7) (Ni := some 12) (Nj := some 17) #[true, true, true, true, true, true, true, false, false, false, false] #[true, true, false, true, true, true, true, true, false, false, false] rfl rfl rfl rfl (two_of HT_.out (by kernel_rfl)) (by decide) (by decide) (fun K hK => ?_) (fun K hK => ?_)
    ·skip
     refine goes_ Tryd.func125 (by kernel_rfl) rfl #[.int .i64 (wrap64 (Int.tdiv a0 10))] (by rfl) rfl rfl (by (try simp only [List.map_toArray, List.map_cons, List.map_nil]); first | done | rfl | (simp only [List.length_drop, List.length_take]; rfl)) ?_
     with_reducible refine (ih k (by omega) (wrap64 (Int.tdiv a0 10)) t246 _ A6.out).mono ?_
     rintro e w9 ⟨rfl, hb⟩
     refine ⟨_, rfl, ?_⟩
     have n0_ := Aside0.mk (below_step (by repeat (first | (with_reducible first | exact HB.out | apply below_alloc | apply pw_below_drewN | apply below_drew1) | exact HB.out)) hb)
     clear HB; have HB := n0_; clear n0_; (try clear hb); (try clear hb2); (try clear hk); (try clear hi)
     refine hK.out _ _ trivial (fun hHeld => ?_)
     clear hK K
     refine norm_ (a' := ?_) ?_ ?_
     rotate_left
     ·show Act.put _ (some 12) _ = _
      simp only [Act.put, List.setIfInBounds_toArray, List.set_cons_zero, List.set_cons_succ, i64_w, i32_w]
      rfl
     refine one_ (i := 7) (N := some 17) #[true, true, true, true, true, true, true, true, false, false, false] rfl rfl (one_of HT_.out (by kernel_rfl)) (by decide) (fun K hK => ?_)
     refine Kd.R_lit_step (Kd.int .u8) _ 5 ?hg (N := 17) ?hd (xs := ([(wrap64 (48 + (Int.tmod a0 10))) % 256] : List Int)) (inner := [.int .u8 ((wrap64 (48 + (Int.tmod a0 10))) % 256)]) (ok := fun _ => True) (okp := fun _ => True) ?hr ?hp (fun _ hk => hk) trivial (Below.refl _ _) (Nat.le_refl _) (by simp) ?_; (case hd => rfl); (case hg => rfl); (case hr => first | (go_simp; done) | (go_simp; rfl)); (case hp => exact (Reps.one (show Kd.M (Kd.int .u8) _ _ _ ((wrap64 (48 + (Int.tmod a0 10))) % 256) [.int .u8 ((wrap64 (48 + (Int.tmod a0 10))) % 256)] from rfl) (Reps.none _ _)))
     intro v248 w10 ho11 hb hg_ hnew_
     clear hg_ hnew_
     (first | rw [← Ny247.out] at ho11 | (simp only [Int.reduceToNat] at ho11; rw [← Ny247.out] at ho11))
     have n0_ := Aside0.mk (Kd.R_lower ho11 (below_size (by repeat (first | (with_reducible first | exact HB.out | apply below_alloc | apply pw_below_drewN | apply below_drew1) | exact HB.out))))
     have n1_ := Aside0.mk (below_step (by repeat (first | (with_reducible first | exact HB.out | apply below_alloc | apply pw_below_drewN | apply below_drew1) | exact HB.out)) hb)
     clear HB; have HO249 := n0_; have HB := n1_; clear n0_ n1_; clear hb ho11
     refine hK.out _ _ trivial (fun hHeld => ?_)
     clear hK K
     refine norm_ (a' := ?_) ?_ ?_
     rotate_left
     ·show Act.put _ (some 17) _ = _
      simp only [Act.put, List.setIfInBounds_toArray, List.set_cons_zero, List.set_cons_succ, i64_w, i32_w]
      rfl
     refine one_ (i := 8) (N := some 18) #[true, true, true, true, true, true, true, true, true, false, false] rfl rfl (one_of HT_.out (by kernel_rfl)) (by decide) (fun K hK => ?_)
     have hcv12 := own_string (P := Tryd.prog) Tryd.underlying123 Tryd.underlying5 Tryd.underlying9 (Kd.own_of_R HO249.out)
     refine value_ (w1 := ?_) (v := ?_) (by rfl) rfl ?_ ?_
     rotate_left 2
     ·go_simp
      constructor
      ·rfl
      ·rfl
     clear hcv12
     refine hK.out _ _ trivial (fun hHeld => ?_)
     clear hK K
     refine norm_ (a' := ?_) ?_ ?_
     rotate_left
     ·show Act.put _ (some 18) _ = _
      simp only [Act.put, List.setIfInBounds_toArray, List.set_cons_zero, List.set_cons_succ, i64_w, i32_w]
      rfl
     exact norm_ (by simp only [putAll, Act.put, List.setIfInBounds_toArray, List.set_cons_zero, List.set_cons_succ]) (hCont (v248) _ ⟨(by (with_reducible repeat (first | apply Kd.R_alloc | apply Kd.R_drewN | apply Kd.R_drew)); exact HO249.out), (by repeat (first | (with_reducible first | exact HB.out | apply below_alloc | apply pw_below_drewN | apply below_drew1) | exact HB.out))⟩)
    ·skip
     refine Kd.R_lit_step (Kd.int .u8) _ 5 ?hg (N := 17) ?hd (xs := ([(wrap64 (48 + (Int.tmod a0 10))) % 256] : List Int)) (inner := [.int .u8 ((wrap64 (48 + (Int.tmod a0 10))) % 256)]) (ok := fun _ => True) (okp := fun _ => True) ?hr ?hp (fun _ hk => hk) trivial (Below.refl _ _) (Nat.le_refl _) (by simp) ?_; (case hd => rfl); (case hg => rfl); (case hr => first | (go_simp; done) | (go_simp; rfl)); (case hp => exact (Reps.one (show Kd.M (Kd.int .u8) _ _ _ ((wrap64 (48 + (Int.tmod a0 10))) % 256) [.int .u8 ((wrap64 (48 + (Int.tmod a0 10))) % 256)] from rfl) (Reps.none _ _)))
     intro v248 w9 ho10 hb hg_ hnew_
     clear hg_ hnew_
     (first | rw [← Ny247.out] at ho10 | (simp only [Int.reduceToNat] at ho10; rw [← Ny247.out] at ho10))
     have n0_ := Aside0.mk (Kd.R_lower ho10 (below_size (by repeat (first | (with_reducible first | exact HB.out | apply below_alloc | apply pw_below_drewN | apply below_drew1) | exact HB.out))))
     have n1_ := Aside0.mk (below_step (by repeat (first | (with_reducible first | exact HB.out | apply below_alloc | apply pw_below_drewN | apply below_drew1) | exact HB.out)) hb)
     clear HB; have HO249 := n0_; have HB := n1_; clear n0_ n1_; clear hb ho10
     refine hK.out _ _ trivial (fun hHeld => ?_)
     clear hK K
     refine norm_ (a' := ?_) ?_ ?_
     rotate_left
     ·show Act.put _ (some 17) _ = _
      simp only [Act.put, List.setIfInBounds_toArray, List.set_cons_zero, List.set_cons_succ, i64_w, i32_w]
      rfl
     refine two_ (i := 2) (j := 8) (Ni := some 12) (Nj := some 18) #[true, true, true, true, true, true, true, true, false, false, false] #[true, true, false, true, true, true, true, true, true, false, false] rfl rfl rfl rfl (two_of HT_.out (by kernel_rfl)) (by decide) (by decide) (fun K hK => ?_) (fun K hK => ?_)
     ·skip
      refine goes_ Tryd.func125 (by kernel_rfl) rfl #[.int .i64 (wrap64 (Int.tdiv a0 10))] (by rfl) rfl rfl (by (try simp only [List.map_toArray, List.map_cons, List.map_nil]); first | done | rfl | (simp only [List.length_drop, List.length_take]; rfl)) ?_
      with_reducible refine (ih k (by omega) (wrap64 (Int.tdiv a0 10)) t246 _ A6.out).mono ?_
      rintro e w11 ⟨rfl, hb⟩
      refine ⟨_, rfl, ?_⟩
      have n0_ := Aside0.mk (Kd.R_below (by (with_reducible repeat (first | apply Kd.R_alloc | apply Kd.R_drewN | apply Kd.R_drew)); exact HO249.out) hb)
      have n1_ := Aside0.mk (below_step (by repeat (first | (with_reducible first | exact HB.out | apply below_alloc | apply pw_below_drewN | apply below_drew1) | exact HB.out)) hb)
      clear HO249; clear HB; have HO249 := n0_; have HB := n1_; clear n0_ n1_; (try clear hb); (try clear hb2); (try clear hk); (try clear hi)
      refine hK.out _ _ trivial (fun hHeld => ?_)
      clear hK K
      refine norm_ (a' := ?_) ?_ ?_
      rotate_left
      ·show Act.put _ (some 12) _ = _
       simp only [Act.put, List.setIfInBounds_toArray, List.set_cons_zero, List.set_cons_succ, i64_w, i32_w]
       rfl
      refine one_ (i := 8) (N := some 18) #[true, true, true, true, true, true, true, true, true, false, false] rfl rfl (one_of HT_.out (by kernel_rfl)) (by decide) (fun K hK => ?_)
      have hcv12 := own_string (P := Tryd.prog) Tryd.underlying123 Tryd.underlying5 Tryd.underlying9 (Kd.own_of_R HO249.out)
      refine value_ (w1 := ?_) (v := ?_) (by rfl) rfl ?_ ?_
      rotate_left 2
      ·go_simp
       constructor
       ·rfl
       ·rfl
      clear hcv12
      refine hK.out _ _ trivial (fun hHeld => ?_)
      clear hK K
      refine norm_ (a' := ?_) ?_ ?_
      rotate_left
      ·show Act.put _ (some 18) _ = _
       simp only [Act.put, List.setIfInBounds_toArray, List.set_cons_zero, List.set_cons_succ, i64_w, i32_w]
       rfl
      exact norm_ (by simp only [putAll, Act.put, List.setIfInBounds_toArray, List.set_cons_zero, List.set_cons_succ]) (hCont (v248) _ ⟨(by (with_reducible repeat (first | apply Kd.R_alloc | apply Kd.R_drewN | apply Kd.R_drew)); exact HO249.out), (by repeat (first | (with_reducible first | exact HB.out | apply below_alloc | apply pw_below_drewN | apply below_drew1) | exact HB.out))⟩)
     ·skip
      have hcv11 := own_string (P := Tryd.prog) Tryd.underlying123 Tryd.underlying5 Tryd.underlying9 (Kd.own_of_R HO249.out)
      refine value_ (w1 := ?_) (v := ?_) (by rfl) rfl ?_ ?_
      rotate_left 2
      ·go_simp
       constructor
       ·rfl
       ·rfl
      clear hcv11
      refine hK.out _ _ trivial (fun hHeld => ?_)
      clear hK K
      refine norm_ (a' := ?_) ?_ ?_
      rotate_left
      ·show Act.put _ (some 18) _ = _
       simp only [Act.put, List.setIfInBounds_toArray, List.set_cons_zero, List.set_cons_succ, i64_w, i32_w]
       rfl
      refine one_ (i := 2) (N := some 12) #[true, true, true, true, true, true, true, true, true, false, false] rfl rfl (one_of HT_.out (by kernel_rfl)) (by decide) (fun K hK => ?_)
      refine goes_ Tryd.func125 (by kernel_rfl) rfl #[.int .i64 (wrap64 (Int.tdiv a0 10))] (by rfl) rfl rfl (by (try simp only [List.map_toArray, List.map_cons, List.map_nil]); first | done | rfl | (simp only [List.length_drop, List.length_take]; rfl)) ?_
      with_reducible refine (ih k (by omega) (wrap64 (Int.tdiv a0 10)) t246 _ A6.out).mono ?_
      rintro e w12 ⟨rfl, hb⟩
      refine ⟨_, rfl, ?_⟩
      have n0_ := Aside0.mk (Kd.R_below (by (with_reducible repeat (first | apply Kd.R_alloc | apply Kd.R_drewN | apply Kd.R_drew)); exact HO249.out) hb)
      have n1_ := Aside0.mk (below_step (by repeat (first | (with_reducible first | exact HB.out | apply below_alloc | apply pw_below_drewN | apply below_drew1) | exact HB.out)) hb)
      clear HO249; clear HB; have HO249 := n0_; have HB := n1_; clear n0_ n1_; (try clear hb); (try clear hb2); (try clear hk); (try clear hi)
      refine hK.out _ _ trivial (fun hHeld => ?_)
      clear hK K
      refine norm_ (a' := ?_) ?_ ?_
      rotate_left
      ·show Act.put _ (some 12) _ = _
       simp only [Act.put, List.setIfInBounds_toArray, List.set_cons_zero, List.set_cons_succ, i64_w, i32_w]
       rfl
      exact norm_ (by simp only [putAll, Act.put, List.setIfInBounds_toArray, List.set_cons_zero, List.set_cons_succ]) (hCont (v248) _ ⟨(by (with_reducible repeat (first | apply Kd.R_alloc | apply Kd.R_drewN | apply Kd.R_drew)); exact HO249.out), (by repeat (first | (with_reducible first | exact HB.out | apply below_alloc | apply pw_below_drewN | apply below_drew1) | exact HB.out))⟩)
   rintro v248 w13 ⟨h0_, h1_⟩
   have n0_ : Aside0 (Kd.R (Kd.int .u8) 5 w13 w.heap.size (fun _ => True) v248 y247) := ⟨h0_⟩
   have n1_ : Aside0 (Below w.heap.size w w13) := ⟨h1_⟩
   clear HB; clear h0_ h1_; have HO249 := n0_; have HB := n1_; clear n0_ n1_
   have hHeld := trivial
   refine norm_ (a' := ?_) ?_ ?_
   rotate_left
   ·simp only [putAll, Act.put, List.setIfInBounds_toArray, List.set_cons_zero, List.set_cons_succ]
    rfl
   refine pure_ (i := 9) (N := some 19) (v := ?_) (a' := ?_) #[true, true, true, true, true, true, true, true, true, true, false] rfl rfl (any_of HT_.out (by kernel_rfl)) (fun _ _ _ h => h) (Or.inl ⟨by rfl, ?_⟩) ?_ ?_
   rotate_left
   ·intro w'
    go_simp
    with_reducible rfl
   rotate_left
   ·simp only [Act.put, List.setIfInBounds_toArray, List.set_cons_zero, List.set_cons_succ, i64_w, i32_w]
    rfl
   refine pure_ (i := 10) (N := some 2) (v := ?_) (a' := ?_) #[true, true, true, true, true, true, true, true, true, true, true] rfl rfl (any_of HT_.out (by kernel_rfl)) (fun _ _ _ h => h) (Or.inl ⟨by rfl, ?_⟩) ?_ ?_
   rotate_left
   ·intro w'
    go_simp
    with_reducible rfl
   rotate_left
   ·simp only [Act.put, List.setIfInBounds_toArray, List.set_cons_zero, List.set_cons_succ, i64_w, i32_w]
    rfl
   refine done_ (done_of HT_.out (by kernel_rfl)) ?_
   try go_wp2
   go_ret
   exact ⟨by first | rfl | (simp [errW_none, errW_some] <;> rfl) | (simp [*, errW_none, errW_some] <;> rfl), by repeat (first | (with_reducible first | exact HB.out | apply below_alloc | apply pw_below_drewN | apply below_drew1) | exact HB.out)⟩
  ·rw [if_neg c7] at H
   exact absurd H (by simp)
def logjamref09_Int.f (k : Nat) (a0 : Int) : Option (ByteArray) := if a0 = (-9223372036854775808) then (some (⟨#[45, 57, 50, 50, 51, 51, 55, 50, 48, 51, 54, 56, 53, 52, 55, 55, 53, 56, 48, 56]⟩ : ByteArray)) else (if a0 < 0 then ((logjamref02_Digits.f k (wrap64 (-a0))).bind fun t250 => (if 1 + t250.size ≤ 9223372036854775807 then (some ((⟨#[45]⟩ : ByteArray) ++ t250)) else (none))) else ((logjamref02_Digits.f k a0).bind fun t251 => (some t251)))
set_option maxHeartbeats 8000000 in
set_option maxRecDepth 100000 in
theorem logjamref09_Int.calls (k : Nat) (a0 : Int) (r : ByteArray) (w : World) (h : logjamref09_Int.f k a0 = some r) :
  Calls Tryd.prog 86 #[.int .i64 a0] w fun e w' => e = .returned (.string r) ∧ Below w.heap.size w w' := by
 have HB := Aside0.mk (Below.refl w.heap.size w)
 have H : (if a0 = (-9223372036854775808) then (some (⟨#[45, 57, 50, 50, 51, 51, 55, 50, 48, 51, 54, 56, 53, 52, 55, 55, 53, 56, 48, 56]⟩ : ByteArray)) else (if a0 < 0 then ((logjamref02_Digits.f k (wrap64 (-a0))).bind fun t250 => (if 1 + t250.size ≤ 9223372036854775807 then (some ((⟨#[45]⟩ : ByteArray) ++ t250)) else (none))) else ((logjamref02_Digits.f k a0).bind fun t251 => (some t251)))) = some r := h
 clear h
 by_cases c2 : a0 = (-9223372036854775808)
 ·rw [if_pos c2] at H
  have c2b0 : (a0 == (-9223372036854775808)) = true := beq_iff_eq.mpr c2
  have c2b1 : (a0 != (-9223372036854775808)) = false := bne_eq_false_iff_eq.mpr c2
  clear c2
  obtain rfl := Option.some.inj H
  go_enter Tryd.func86, Tryd.ntmps86
  go_wp2
  go_ret
  exact ⟨by first | rfl | (simp [errW_none, errW_some] <;> rfl) | (simp [*, errW_none, errW_some] <;> rfl), by repeat (first | (with_reducible first | exact HB.out | apply below_alloc | apply pw_below_drewN | apply below_drew1) | exact HB.out)⟩
 ·rw [if_neg c2] at H
  have c2b0 : (a0 == (-9223372036854775808)) = false := beq_eq_false_iff_ne.mpr c2
  have c2b1 : (a0 != (-9223372036854775808)) = true := bne_iff_ne.mpr c2
  by_cases c3 : a0 < 0
  ·rw [if_pos c3] at H
   have c3b0 : decide (a0 < 0) = true := decide_eq_true c3
   clear c3
   replace H := Option.bind_eq_some_iff.mp H
   obtain ⟨t250, A40, H⟩ := H
   replace H : (if 1 + t250.size ≤ 9223372036854775807 then (some ((⟨#[45]⟩ : ByteArray) ++ t250)) else (none)) = some r := H
   have A4 := Aside0.mk A40
   clear A40
   by_cases c5 : 1 + t250.size ≤ 9223372036854775807
   ·rw [if_pos c5] at H
    have c5b0 := eq_true c5
    have c5b1 : decide (1 + t250.size ≤ 9223372036854775807) = true := decide_eq_true c5
    try have c5b2 : (9223372036854775807 < 1 + t250.size) = False := eq_false (Nat.not_lt.2 c5)
    obtain rfl := Option.some.inj H
    go_enter Tryd.func86, Tryd.ntmps86
    go_wp2_with (first | ((with_reducible refine gate_callee (f := 125) rfl ?_); refine goesL_ (some 9) rfl rfl Tryd.func125 (by kernel_rfl) rfl #[.int .i64 (wrap64 (-a0))] rfl (by (try simp only [List.map_toArray, List.map_cons, List.map_nil]); first | done | rfl | (simp only [List.length_drop, List.length_take]; rfl)) ?_; (with_reducible refine (logjamref02_Digits.calls k (wrap64 (-a0)) t250 _ A4.out).mono ?_); rintro e w6 ⟨rfl, hb⟩; refine ⟨_, rfl, ?_⟩; have n0_ := Aside0.mk (below_step (by repeat (first | (with_reducible first | exact HB.out | apply below_alloc | apply pw_below_drewN | apply below_drew1) | exact HB.out)) hb); clear HB; have HB := n0_; clear n0_; (try clear hb); (try clear hb2); (try clear hk); (try clear hi)))
    go_ret
    exact ⟨by first | rfl | (simp [errW_none, errW_some] <;> rfl) | (simp [*, errW_none, errW_some] <;> rfl), by repeat (first | (with_reducible first | exact HB.out | apply below_alloc | apply pw_below_drewN | apply below_drew1) | exact HB.out)⟩
   ·rw [if_neg c5] at H
    exact absurd H (by simp)
  ·rw [if_neg c3] at H
   have c3b0 : decide (a0 < 0) = false := decide_eq_false c3
   clear c3
   replace H := Option.bind_eq_some_iff.mp H
   obtain ⟨t251, A70, H⟩ := H
   replace H : (some t251) = some r := H
   have A7 := Aside0.mk A70
   clear A70
   obtain rfl := Option.some.inj H
   go_enter Tryd.func86, Tryd.ntmps86
   go_wp2_with (first | ((with_reducible refine gate_callee (f := 125) rfl ?_); refine goesL_ (some 12) rfl rfl Tryd.func125 (by kernel_rfl) rfl #[.int .i64 a0] rfl (by (try simp only [List.map_toArray, List.map_cons, List.map_nil]); first | done | rfl | (simp only [List.length_drop, List.length_take]; rfl)) ?_; (with_reducible refine (logjamref02_Digits.calls k a0 t251 _ A7.out).mono ?_); rintro e w8 ⟨rfl, hb⟩; refine ⟨_, rfl, ?_⟩; have n0_ := Aside0.mk (below_step (by repeat (first | (with_reducible first | exact HB.out | apply below_alloc | apply pw_below_drewN | apply below_drew1) | exact HB.out)) hb); clear HB; have HB := n0_; clear n0_; (try clear hb); (try clear hb2); (try clear hk); (try clear hi)))
   go_ret
   exact ⟨by first | rfl | (simp [errW_none, errW_some] <;> rfl) | (simp [*, errW_none, errW_some] <;> rfl), by repeat (first | (with_reducible first | exact HB.out | apply below_alloc | apply pw_below_drewN | apply below_drew1) | exact HB.out)⟩
end Go.Proofs.YtadepdeckapgcaaDoor.PRp
end

section
namespace Go.Proofs.YtadepdeckapgcaaDoor.PRp
open Go.RowKit Go.Proofs.YtadepdeckapgcaaDoor.Orc Go.Proofs.YtadepdeckapgcaaDoorW.PrintWords Go.Proofs.YtadepdeckapgcaaDoorW.PrintLast Go.Proofs.YtadepdeckapgcaaDoorW.PrintMore
attribute [local go_sem] max2_int min2_int max_two min_two max_three min_three max_four min_four
set_option linter.unusedVariables false
set_option linter.unusedSimpArgs false
def logjamref36_shares.l0 : Nat → List (S108) → ByteArray → Int → Option (ByteArray)
 | 0, _, _, _ => none
 | k + 1, x0, x3, x4 => if x4 < (x0.length : Int) then (if x4 > 0 then (if x3.size + 1 ≤ 9223372036854775807 then (if 0 ≤ x4 then ((logjamref09_Int.f k ((rd_T108 x0 x4).f0)).bind fun t253 => (if x3.size + 1 + t253.size ≤ 9223372036854775807 then (if x3.size + 1 + t253.size + 1 ≤ 9223372036854775807 then ((logjamref09_Int.f k ((rd_T108 x0 x4).f1)).bind fun t255 => (if x3.size + 1 + t253.size + 1 + t255.size ≤ 9223372036854775807 then (logjamref36_shares.l0 k x0 ((((x3 ++ (⟨#[44]⟩ : ByteArray)) ++ t253) ++ (⟨#[58]⟩ : ByteArray)) ++ t255) (wrap64 (x4 + 1))) else (none))) else (none)) else (none))) else (none)) else (none)) else (if 0 ≤ x4 then ((logjamref09_Int.f k ((rd_T108 x0 x4).f0)).bind fun t257 => (if x3.size + t257.size ≤ 9223372036854775807 then (if x3.size + t257.size + 1 ≤ 9223372036854775807 then ((logjamref09_Int.f k ((rd_T108 x0 x4).f1)).bind fun t259 => (if x3.size + t257.size + 1 + t259.size ≤ 9223372036854775807 then (logjamref36_shares.l0 k x0 (((x3 ++ t257) ++ (⟨#[58]⟩ : ByteArray)) ++ t259) (wrap64 (x4 + 1))) else (none))) else (none)) else (none))) else (none))) else (if (x0.length : Int) = 0 then (some (⟨#[45]⟩ : ByteArray)) else (some x3))
def logjamref36_shares.f (k : Nat) (l0 : List (S108)) : Option (ByteArray) := logjamref36_shares.l0 k l0 (⟨#[]⟩ : ByteArray) 0
def logjamref36_shares.T7 : Bool × List (List Nat × List Nat) := (true, [([], []), ([], []), ([], []), ([1, 2], [1, 2]), ([3], [3]), ([4], [4]), ([5], [5]), ([0, 6], [0, 6]), ([7], [7]), ([], []), ([], []), ([9, 10], [9, 10]), ([11], [11]), ([12], [12]), ([13, 6], [13]), ([8, 14], [8, 14]), ([15, 14, 0, 1, 2, 3, 4, 5, 6, 7, 8, 9, 10, 11, 12, 13, 14, 15], [0, 15])])
def logjamref36_shares.B7 : List Nat := [0, 0, 0, 6, 14, 30, 62, 127, 255, 0, 0, 1536, 3584, 7680, 15998, 32767, 65535]
theorem logjamref36_shares.tab7 : rtab .any (opsOf Tryd.f87 7) = logjamref36_shares.T7 := by kernel_rfl
theorem logjamref36_shares.bits7 : waitsOk logjamref36_shares.T7.2 logjamref36_shares.B7 = true := by kernel_rfl
set_option maxHeartbeats 8000000 in
set_option maxRecDepth 100000 in
theorem logjamref36_shares.calls (k : Nat) (A0 : Option Addr) (c0 : Nat) (l0 : List (S108)) (r : ByteArray) (w : World) (hr0 : Kd.C k108 w A0 l0.length l0) (hc0 : l0.length ≤ c0) (h : logjamref36_shares.f k l0 = some r) :
  Calls Tryd.prog 87 #[.slice A0 l0.length c0] w fun e w' => e = .returned (.string r) ∧ Below w.heap.size w w' := by
 have HR0 := Aside0.mk hr0
 have HC0 := Aside0.mk hc0
 clear hr0 hc0
 have HB := Aside0.mk (Below.refl w.heap.size w)
 have H : (logjamref36_shares.l0 k l0 (⟨#[]⟩ : ByteArray) 0) = some r := h
 clear h
 have H' := Aside0.mk H
 clear H
 go_enter Tryd.func87, Tryd.ntmps87
 go_wp2
 go_loopg [3, 4] k (fun kq v3 v4 w' => ∃ (x3_1 : ByteArray) (x4_1 : Int), v3 = .string x3_1 ∧ v4 = .int .i64 x4_1 ∧ Aside0 (logjamref36_shares.l0 kq l0 x3_1 x4_1 = some r) ∧ Aside0 (kq ≤ k) ∧ Aside0 (Below w.heap.size w w'))
 case atStart => exact ⟨((⟨#[]⟩ : ByteArray)), (0), (by first | rfl | (simp; done) | (simp only [emptyNe_, emptyEq_]; done) | (simp [*]; done)), (by first | rfl | (simp; done) | (simp only [emptyNe_, emptyEq_]; done) | (simp [*]; done)), H', ⟨Nat.le_refl _⟩, ⟨by repeat (first | (with_reducible first | exact HB.out | apply below_alloc | apply pw_below_drewN | apply below_drew1) | exact HB.out)⟩⟩
 case round =>
  clear H'
  obtain ⟨x3_1, x4_1, rfl, rfl, HA, HK1, HB⟩ := hrel
  cases gk with
  | zero => exact absurd HA.out (by simp [logjamref36_shares.l0])
  | succ k1 =>
   have H := HA.out
   clear HA
   simp only [logjamref36_shares.l0] at H
   by_cases c2 : x4_1 < (l0.length : Int)
   ·rw [if_pos c2] at H
    have c2b0 : decide (x4_1 < (l0.length : Int)) = true := decide_eq_true c2
    clear c2
    by_cases c3 : x4_1 > 0
    ·rw [if_pos c3] at H
     have c3b0 : decide (0 < x4_1) = true := decide_eq_true c3
     clear c3
     by_cases c4 : x3_1.size + 1 ≤ 9223372036854775807
     ·rw [if_pos c4] at H
      have c4b0 := eq_true c4
      have c4b1 : decide (x3_1.size + 1 ≤ 9223372036854775807) = true := decide_eq_true c4
      try have c4b2 : (9223372036854775807 < x3_1.size + 1) = False := eq_false (Nat.not_lt.2 c4)
      by_cases c5 : 0 ≤ x4_1
      ·rw [if_pos c5] at H
       have c5b0 : decide (0 ≤ x4_1) = true := decide_eq_true c5
       clear c5
       replace H := Option.bind_eq_some_iff.mp H
       obtain ⟨t253, A60, H⟩ := H
       replace H : (if x3_1.size + 1 + t253.size ≤ 9223372036854775807 then (if x3_1.size + 1 + t253.size + 1 ≤ 9223372036854775807 then ((logjamref09_Int.f k1 ((rd_T108 l0 x4_1).f1)).bind fun t255 => (if x3_1.size + 1 + t253.size + 1 + t255.size ≤ 9223372036854775807 then (logjamref36_shares.l0 k1 l0 ((((x3_1 ++ (⟨#[44]⟩ : ByteArray)) ++ t253) ++ (⟨#[58]⟩ : ByteArray)) ++ t255) (wrap64 (x4_1 + 1))) else (none))) else (none)) else (none)) = some r := H
       have A6 := Aside0.mk A60
       clear A60
       by_cases c7 : x3_1.size + 1 + t253.size ≤ 9223372036854775807
       ·rw [if_pos c7] at H
        have c7b0 := eq_true c7
        have c7b1 : decide (x3_1.size + 1 + t253.size ≤ 9223372036854775807) = true := decide_eq_true c7
        try have c7b2 : (9223372036854775807 < x3_1.size + 1 + t253.size) = False := eq_false (Nat.not_lt.2 c7)
        by_cases c8 : x3_1.size + 1 + t253.size + 1 ≤ 9223372036854775807
        ·rw [if_pos c8] at H
         have c8b0 := eq_true c8
         have c8b1 : decide (x3_1.size + 1 + t253.size + 1 ≤ 9223372036854775807) = true := decide_eq_true c8
         try have c8b2 : (9223372036854775807 < x3_1.size + 1 + t253.size + 1) = False := eq_false (Nat.not_lt.2 c8)
         replace H := Option.bind_eq_some_iff.mp H
         obtain ⟨t255, A90, H⟩ := H
         replace H : (if x3_1.size + 1 + t253.size + 1 + t255.size ≤ 9223372036854775807 then (logjamref36_shares.l0 k1 l0 ((((x3_1 ++ (⟨#[44]⟩ : ByteArray)) ++ t253) ++ (⟨#[58]⟩ : ByteArray)) ++ t255) (wrap64 (x4_1 + 1))) else (none)) = some r := H
         have A9 := Aside0.mk A90
         clear A90
         by_cases c10 : x3_1.size + 1 + t253.size + 1 + t255.size ≤ 9223372036854775807
         ·rw [if_pos c10] at H
          have c10b0 := eq_true c10
          have c10b1 : decide (x3_1.size + 1 + t253.size + 1 + t255.size ≤ 9223372036854775807) = true := decide_eq_true c10
          try have c10b2 : (9223372036854775807 < x3_1.size + 1 + t253.size + 1 + t255.size) = False := eq_false (Nat.not_lt.2 c10)
          have H' := Aside0.mk H
          clear H
          try go_wp2
          have n0_ := Aside0.mk (below_drew1 HB.out)
          clear HB; have HB := n0_; clear n0_
          have p252 : 0 ≤ (x4_1 : Int) := of_decide_eq_true (by first | (with_reducible assumption) | assumption)
          have q252 : x4_1 < (l0.length : Int) := of_decide_eq_true (by first | (with_reducible assumption) | assumption)
          obtain ⟨ad252, e252, hx252_0, hx252_1⟩ := at_T108 HR0.out x4_1 p252 q252
          have hw252_1 := hx252_1
          have hw252_0 := hx252_0
          cases e252
          replace hx252_0 := (HB.out.cell (World.block_lt_of_cell? w _ hx252_0)).trans hx252_0
          replace hx252_1 := (HB.out.cell (World.block_lt_of_cell? w _ hx252_1)).trans hx252_1
          replace p252 := eq_true p252
          replace q252 := eq_true q252
          have p254 : 0 ≤ (x4_1 : Int) := of_decide_eq_true (by first | (with_reducible assumption) | assumption)
          have q254 : x4_1 < (l0.length : Int) := of_decide_eq_true (by first | (with_reducible assumption) | assumption)
          obtain ⟨ad254, e254, hx254_0, hx254_1⟩ := at_T108 HR0.out x4_1 p254 q254
          have hw254_1 := hx254_1
          have hw254_0 := hx254_0
          obtain rfl : ad252 = ad254 := (by injection e254)
          replace hx254_0 := (HB.out.cell (World.block_lt_of_cell? w _ hx254_0)).trans hx254_0
          replace hx254_1 := (HB.out.cell (World.block_lt_of_cell? w _ hx254_1)).trans hx254_1
          replace p254 := eq_true p254
          replace q254 := eq_true q254
          refine start_ (n := 17) (S := fun w' => w'.cell? (ad252.add ((x4_1).toNat * 2)) = some (.int .i64 ((rd_T108 l0 x4_1).f0)) ∧ w'.cell? ⟨(ad252.add ((x4_1).toNat * 2)).block, (ad252.add ((x4_1).toNat * 2)).off + 1, none⟩ = some (.int .i64 ((rd_T108 l0 x4_1).f1)) ∧ w'.cell? (ad252.add ((x4_1).toNat * 2)) = some (.int .i64 ((rd_T108 l0 x4_1).f0)) ∧ w'.cell? ⟨(ad252.add ((x4_1).toNat * 2)).block, (ad252.add ((x4_1).toNat * 2)).off + 1, none⟩ = some (.int .i64 ((rd_T108 l0 x4_1).f1))) (ds := []) #[false, false, false, false, false, false, false, false, false, false, false, false, false, false, false, false, false] (by kernel_rfl) rfl rfl ⟨((HB.out.cell (World.block_lt_of_cell? w _ hw252_0)).trans hw252_0), ((HB.out.cell (World.block_lt_of_cell? w _ hw252_1)).trans hw252_1), ((HB.out.cell (World.block_lt_of_cell? w _ hw254_0)).trans hw254_0), ((HB.out.cell (World.block_lt_of_cell? w _ hw254_1)).trans hw254_1)⟩ (fun hHeld => ?_); refine with_tabW logjamref36_shares.tab7 logjamref36_shares.bits7 (fun HT_ HW_ => ?_)
          generalize wr.drew = w11 at HB hx252_0 hx252_1 hx254_0 hx254_1 hHeld ⊢
          refine pure_ (i := 0) (N := some 15) (v := ?_) (a' := ?_) #[true, false, false, false, false, false, false, false, false, false, false, false, false, false, false, false, false] rfl rfl (any_of HT_.out (by kernel_rfl)) (fun _ _ _ h => h) (Or.inl ⟨by rfl, ?_⟩) ?_ ?_
          rotate_left
          ·intro w'
           go_simp
           with_reducible rfl
          rotate_left
          ·simp only [Act.put, List.setIfInBounds_toArray, List.set_cons_zero, List.set_cons_succ, i64_w, i32_w]
           rfl
          refine pure_ (i := 1) (N := some 16) (v := ?_) (a' := ?_) #[true, true, false, false, false, false, false, false, false, false, false, false, false, false, false, false, false] rfl rfl (any_of HT_.out (by kernel_rfl)) (fun _ _ _ h => h) (Or.inl ⟨by rfl, ?_⟩) ?_ ?_
          rotate_left
          ·intro w'
           go_simp
           with_reducible rfl
          rotate_left
          ·simp only [Act.put, List.setIfInBounds_toArray, List.set_cons_zero, List.set_cons_succ, i64_w, i32_w]
           rfl
          refine pure_ (i := 2) (N := some 17) (v := ?_) (a' := ?_) #[true, true, true, false, false, false, false, false, false, false, false, false, false, false, false, false, false] rfl rfl (any_of HT_.out (by kernel_rfl)) (fun _ _ _ h => h) (Or.inl ⟨by rfl, ?_⟩) ?_ ?_
          rotate_left
          ·intro w'
           go_simp
           with_reducible rfl
          rotate_left
          ·simp only [Act.put, List.setIfInBounds_toArray, List.set_cons_zero, List.set_cons_succ, i64_w, i32_w]
           rfl
          refine pure_ (i := 3) (N := some 18) (v := ?_) (a' := ?_) #[true, true, true, true, false, false, false, false, false, false, false, false, false, false, false, false, false] rfl rfl (any_of HT_.out (by kernel_rfl)) (fun _ _ _ h => h) (Or.inl ⟨by rfl, ?_⟩) ?_ ?_
          rotate_left
          ·intro w'
           go_simp
           with_reducible rfl
          rotate_left
          ·simp only [Act.put, List.setIfInBounds_toArray, List.set_cons_zero, List.set_cons_succ, i64_w, i32_w]
           rfl
          refine pure_ (i := 4) (N := some 19) (v := ?_) (a' := ?_) #[true, true, true, true, true, false, false, false, false, false, false, false, false, false, false, false, false] rfl rfl (any_of HT_.out (by kernel_rfl)) (fun _ _ _ h => h) (Or.inl ⟨by rfl, ?_⟩) ?_ ?_
          rotate_left
          ·intro w'
           go_simp
           with_reducible rfl
          rotate_left
          ·simp only [Act.put, List.setIfInBounds_toArray, List.set_cons_zero, List.set_cons_succ, i64_w, i32_w]
           rfl
          refine pure_ (i := 9) (N := some 24) (v := ?_) (a' := ?_) #[true, true, true, true, true, false, false, false, false, true, false, false, false, false, false, false, false] rfl rfl (any_of HT_.out (by kernel_rfl)) (fun _ _ _ h => h) (Or.inl ⟨by rfl, ?_⟩) ?_ ?_
          rotate_left
          ·intro w'
           go_simp
           with_reducible rfl
          rotate_left
          ·simp only [Act.put, List.setIfInBounds_toArray, List.set_cons_zero, List.set_cons_succ, i64_w, i32_w]
           rfl
          refine pure_ (i := 10) (N := some 25) (v := ?_) (a' := ?_) #[true, true, true, true, true, false, false, false, false, true, true, false, false, false, false, false, false] rfl rfl (any_of HT_.out (by kernel_rfl)) (fun _ _ _ h => h) (Or.inl ⟨by rfl, ?_⟩) ?_ ?_
          rotate_left
          ·intro w'
           go_simp
           with_reducible rfl
          rotate_left
          ·simp only [Act.put, List.setIfInBounds_toArray, List.set_cons_zero, List.set_cons_succ, i64_w, i32_w]
           rfl
          refine pure_ (i := 11) (N := some 26) (v := ?_) (a' := ?_) #[true, true, true, true, true, false, false, false, false, true, true, true, false, false, false, false, false] rfl rfl (any_of HT_.out (by kernel_rfl)) (fun _ _ _ h => h) (Or.inl ⟨by rfl, ?_⟩) ?_ ?_
          rotate_left
          ·intro w'
           go_simp
           with_reducible rfl
          rotate_left
          ·simp only [Act.put, List.setIfInBounds_toArray, List.set_cons_zero, List.set_cons_succ, i64_w, i32_w]
           rfl
          refine pure_ (i := 12) (N := some 27) (v := ?_) (a' := ?_) #[true, true, true, true, true, false, false, false, false, true, true, true, true, false, false, false, false] rfl rfl (any_of HT_.out (by kernel_rfl)) (fun _ _ _ h => h) (Or.inl ⟨by rfl, ?_⟩) ?_ ?_
          rotate_left
          ·intro w'
           go_simp
           with_reducible rfl
          rotate_left
          ·simp only [Act.put, List.setIfInBounds_toArray, List.set_cons_zero, List.set_cons_succ, i64_w, i32_w]
           rfl
          refine take_ (i := 5) (N := some 20) (v := ?_) (a' := ?_) #[true, true, true, true, true, true, false, false, false, true, true, true, true, false, false, false, false] rfl rfl (take_ofW HT_.out HW_.out (by kernel_rfl)) (fun _ _ _ h => h) (Or.inl ⟨by rfl, ?_⟩) hHeld ?_ ?_
          rotate_left
          ·rintro w' ⟨s0, s1, s2, s3⟩
           go_simp
           with_reducible rfl
          rotate_left
          ·simp only [Act.put, List.setIfInBounds_toArray, List.set_cons_zero, List.set_cons_succ, i64_w, i32_w]
           rfl
          refine take_ (i := 13) (N := some 28) (v := ?_) (a' := ?_) #[true, true, true, true, true, true, false, false, false, true, true, true, true, true, false, false, false] rfl rfl (take_ofW HT_.out HW_.out (by kernel_rfl)) (fun _ _ _ h => h) (Or.inl ⟨by rfl, ?_⟩) hHeld ?_ ?_
          rotate_left
          ·rintro w' ⟨s0, s1, s2, s3⟩
           go_simp
           with_reducible rfl
          rotate_left
          ·simp only [Act.put, List.setIfInBounds_toArray, List.set_cons_zero, List.set_cons_succ, i64_w, i32_w]
           rfl
          refine one_ (i := 6) (N := some 21) #[true, true, true, true, true, true, true, false, false, true, true, true, true, true, false, false, false] rfl rfl (one_of HT_.out (by kernel_rfl)) (by decide) (fun K hK => ?_)
          refine goes_ Tryd.func86 (by kernel_rfl) rfl #[.int .i64 ((rd_T108 l0 x4_1).f0)] (by rfl) rfl rfl (by (try simp only [List.map_toArray, List.map_cons, List.map_nil]); first | done | rfl | (simp only [List.length_drop, List.length_take]; rfl)) ?_
          with_reducible refine (logjamref09_Int.calls k1 ((rd_T108 l0 x4_1).f0) t253 _ A6.out).mono ?_
          rintro e w12 ⟨rfl, hb⟩
          refine ⟨_, rfl, ?_⟩
          have n0_ := Aside0.mk (below_step (by repeat (first | (with_reducible first | exact HB.out | apply below_alloc | apply pw_below_drewN | apply below_drew1) | exact HB.out)) hb)
          clear HB; have HB := n0_; clear n0_; (try clear hb); (try clear hb2); (try clear hk); (try clear hi)
          refine hK.out _ _ ⟨((HB.out.cell (World.block_lt_of_cell? w _ hw252_0)).trans hw252_0), ((HB.out.cell (World.block_lt_of_cell? w _ hw252_1)).trans hw252_1), ((HB.out.cell (World.block_lt_of_cell? w _ hw254_0)).trans hw254_0), ((HB.out.cell (World.block_lt_of_cell? w _ hw254_1)).trans hw254_1)⟩ (fun hHeld => ?_)
          clear hK K
          refine norm_ (a' := ?_) ?_ ?_
          rotate_left
          ·show Act.put _ (some 21) _ = _
           simp only [Act.put, List.setIfInBounds_toArray, List.set_cons_zero, List.set_cons_succ, i64_w, i32_w]
           rfl
          refine pure_ (i := 7) (N := some 22) (v := ?_) (a' := ?_) #[true, true, true, true, true, true, true, true, false, true, true, true, true, true, false, false, false] rfl rfl (any_of HT_.out (by kernel_rfl)) (fun _ _ _ h => h) (Or.inl ⟨by rfl, ?_⟩) ?_ ?_
          rotate_left
          ·intro w'
           go_simp
           with_reducible rfl
          rotate_left
          ·simp only [Act.put, List.setIfInBounds_toArray, List.set_cons_zero, List.set_cons_succ, i64_w, i32_w]
           rfl
          refine pure_ (i := 8) (N := some 23) (v := ?_) (a' := ?_) #[true, true, true, true, true, true, true, true, true, true, true, true, true, true, false, false, false] rfl rfl (any_of HT_.out (by kernel_rfl)) (fun _ _ _ h => h) (Or.inl ⟨by rfl, ?_⟩) ?_ ?_
          rotate_left
          ·intro w'
           go_simp
           with_reducible rfl
          rotate_left
          ·simp only [Act.put, List.setIfInBounds_toArray, List.set_cons_zero, List.set_cons_succ, i64_w, i32_w]
           rfl
          refine one_ (i := 14) (N := some 29) #[true, true, true, true, true, true, true, true, true, true, true, true, true, true, true, false, false] rfl rfl (one_of HT_.out (by kernel_rfl)) (by decide) (fun K hK => ?_)
          refine goes_ Tryd.func86 (by kernel_rfl) rfl #[.int .i64 ((rd_T108 l0 x4_1).f1)] (by rfl) rfl rfl (by (try simp only [List.map_toArray, List.map_cons, List.map_nil]); first | done | rfl | (simp only [List.length_drop, List.length_take]; rfl)) ?_
          with_reducible refine (logjamref09_Int.calls k1 ((rd_T108 l0 x4_1).f1) t255 _ A9.out).mono ?_
          rintro e w13 ⟨rfl, hb⟩
          refine ⟨_, rfl, ?_⟩
          have n0_ := Aside0.mk (below_step (by repeat (first | (with_reducible first | exact HB.out | apply below_alloc | apply pw_below_drewN | apply below_drew1) | exact HB.out)) hb)
          clear HB; have HB := n0_; clear n0_; (try clear hb); (try clear hb2); (try clear hk); (try clear hi)
          refine hK.out _ _ ⟨((HB.out.cell (World.block_lt_of_cell? w _ hw252_0)).trans hw252_0), ((HB.out.cell (World.block_lt_of_cell? w _ hw252_1)).trans hw252_1), ((HB.out.cell (World.block_lt_of_cell? w _ hw254_0)).trans hw254_0), ((HB.out.cell (World.block_lt_of_cell? w _ hw254_1)).trans hw254_1)⟩ (fun hHeld => ?_)
          clear hK K
          refine norm_ (a' := ?_) ?_ ?_
          rotate_left
          ·show Act.put _ (some 29) _ = _
           simp only [Act.put, List.setIfInBounds_toArray, List.set_cons_zero, List.set_cons_succ, i64_w, i32_w]
           rfl
          refine pure_ (i := 15) (N := some 30) (v := ?_) (a' := ?_) #[true, true, true, true, true, true, true, true, true, true, true, true, true, true, true, true, false] rfl rfl (any_of HT_.out (by kernel_rfl)) (fun _ _ _ h => h) (Or.inl ⟨by rfl, ?_⟩) ?_ ?_
          rotate_left
          ·intro w'
           go_simp
           with_reducible rfl
          rotate_left
          ·simp only [Act.put, List.setIfInBounds_toArray, List.set_cons_zero, List.set_cons_succ, i64_w, i32_w]
           rfl
          refine pure_ (i := 16) (N := some 3) (v := ?_) (a' := ?_) #[true, true, true, true, true, true, true, true, true, true, true, true, true, true, true, true, true] rfl rfl (any_of HT_.out (by kernel_rfl)) (fun _ _ _ h => h) (Or.inl ⟨by rfl, ?_⟩) ?_ ?_
          rotate_left
          ·intro w'
           go_simp
           with_reducible rfl
          rotate_left
          ·simp only [Act.put, List.setIfInBounds_toArray, List.set_cons_zero, List.set_cons_succ, i64_w, i32_w]
           rfl
          refine done_ (done_of HT_.out (by kernel_rfl)) ?_
          try go_wp2
          go_roundg k1
          case measure => have := HK1.out; omega
          case rel => exact ⟨((((x3_1 ++ (⟨#[44]⟩ : ByteArray)) ++ t253) ++ (⟨#[58]⟩ : ByteArray)) ++ t255), (wrap64 (x4_1 + 1)), (by first | rfl | (simp; done) | (simp only [emptyNe_, emptyEq_]; done) | (simp [*]; done)), (by first | rfl | (simp; done) | (simp only [emptyNe_, emptyEq_]; done) | (simp [*]; done)), H', ⟨by have := HK1.out; omega⟩, ⟨by repeat (first | (with_reducible first | exact HB.out | apply below_alloc | apply pw_below_drewN | apply below_drew1) | exact HB.out)⟩⟩
         ·rw [if_neg c10] at H
          exact absurd H (by simp)
        ·rw [if_neg c8] at H
         exact absurd H (by simp)
       ·rw [if_neg c7] at H
        exact absurd H (by simp)
      ·rw [if_neg c5] at H
       exact absurd H (by simp)
     ·rw [if_neg c4] at H
      exact absurd H (by simp)
    ·rw [if_neg c3] at H
     have c3b0 : decide (0 < x4_1) = false := decide_eq_false c3
     clear c3
     by_cases c14 : 0 ≤ x4_1
     ·rw [if_pos c14] at H
      have c14b0 : decide (0 ≤ x4_1) = true := decide_eq_true c14
      clear c14
      replace H := Option.bind_eq_some_iff.mp H
      obtain ⟨t257, A150, H⟩ := H
      replace H : (if x3_1.size + t257.size ≤ 9223372036854775807 then (if x3_1.size + t257.size + 1 ≤ 9223372036854775807 then ((logjamref09_Int.f k1 ((rd_T108 l0 x4_1).f1)).bind fun t259 => (if x3_1.size + t257.size + 1 + t259.size ≤ 9223372036854775807 then (logjamref36_shares.l0 k1 l0 (((x3_1 ++ t257) ++ (⟨#[58]⟩ : ByteArray)) ++ t259) (wrap64 (x4_1 + 1))) else (none))) else (none)) else (none)) = some r := H
      have A15 := Aside0.mk A150
      clear A150
      by_cases c16 : x3_1.size + t257.size ≤ 9223372036854775807
      ·rw [if_pos c16] at H
       have c16b0 := eq_true c16
       have c16b1 : decide (x3_1.size + t257.size ≤ 9223372036854775807) = true := decide_eq_true c16
       try have c16b2 : (9223372036854775807 < x3_1.size + t257.size) = False := eq_false (Nat.not_lt.2 c16)
       by_cases c17 : x3_1.size + t257.size + 1 ≤ 9223372036854775807
       ·rw [if_pos c17] at H
        have c17b0 := eq_true c17
        have c17b1 : decide (x3_1.size + t257.size + 1 ≤ 9223372036854775807) = true := decide_eq_true c17
        try have c17b2 : (9223372036854775807 < x3_1.size + t257.size + 1) = False := eq_false (Nat.not_lt.2 c17)
        replace H := Option.bind_eq_some_iff.mp H
        obtain ⟨t259, A180, H⟩ := H
        replace H : (if x3_1.size + t257.size + 1 + t259.size ≤ 9223372036854775807 then (logjamref36_shares.l0 k1 l0 (((x3_1 ++ t257) ++ (⟨#[58]⟩ : ByteArray)) ++ t259) (wrap64 (x4_1 + 1))) else (none)) = some r := H
        have A18 := Aside0.mk A180
        clear A180
        by_cases c19 : x3_1.size + t257.size + 1 + t259.size ≤ 9223372036854775807
        ·rw [if_pos c19] at H
         have c19b0 := eq_true c19
         have c19b1 : decide (x3_1.size + t257.size + 1 + t259.size ≤ 9223372036854775807) = true := decide_eq_true c19
         try have c19b2 : (9223372036854775807 < x3_1.size + t257.size + 1 + t259.size) = False := eq_false (Nat.not_lt.2 c19)
         have H' := Aside0.mk H
         clear H
         try go_wp2
         have n0_ := Aside0.mk (below_drew1 HB.out)
         clear HB; have HB := n0_; clear n0_
         have p256 : 0 ≤ (x4_1 : Int) := of_decide_eq_true (by first | (with_reducible assumption) | assumption)
         have q256 : x4_1 < (l0.length : Int) := of_decide_eq_true (by first | (with_reducible assumption) | assumption)
         obtain ⟨ad256, e256, hx256_0, hx256_1⟩ := at_T108 HR0.out x4_1 p256 q256
         have hw256_1 := hx256_1
         have hw256_0 := hx256_0
         cases e256
         replace hx256_0 := (HB.out.cell (World.block_lt_of_cell? w _ hx256_0)).trans hx256_0
         replace hx256_1 := (HB.out.cell (World.block_lt_of_cell? w _ hx256_1)).trans hx256_1
         replace p256 := eq_true p256
         replace q256 := eq_true q256
         have p258 : 0 ≤ (x4_1 : Int) := of_decide_eq_true (by first | (with_reducible assumption) | assumption)
         have q258 : x4_1 < (l0.length : Int) := of_decide_eq_true (by first | (with_reducible assumption) | assumption)
         obtain ⟨ad258, e258, hx258_0, hx258_1⟩ := at_T108 HR0.out x4_1 p258 q258
         have hw258_1 := hx258_1
         have hw258_0 := hx258_0
         obtain rfl : ad256 = ad258 := (by injection e258)
         replace hx258_0 := (HB.out.cell (World.block_lt_of_cell? w _ hx258_0)).trans hx258_0
         replace hx258_1 := (HB.out.cell (World.block_lt_of_cell? w _ hx258_1)).trans hx258_1
         replace p258 := eq_true p258
         replace q258 := eq_true q258
         refine start_ (n := 17) (S := fun w' => w'.cell? (ad256.add ((x4_1).toNat * 2)) = some (.int .i64 ((rd_T108 l0 x4_1).f0)) ∧ w'.cell? ⟨(ad256.add ((x4_1).toNat * 2)).block, (ad256.add ((x4_1).toNat * 2)).off + 1, none⟩ = some (.int .i64 ((rd_T108 l0 x4_1).f1)) ∧ w'.cell? (ad256.add ((x4_1).toNat * 2)) = some (.int .i64 ((rd_T108 l0 x4_1).f0)) ∧ w'.cell? ⟨(ad256.add ((x4_1).toNat * 2)).block, (ad256.add ((x4_1).toNat * 2)).off + 1, none⟩ = some (.int .i64 ((rd_T108 l0 x4_1).f1))) (ds := []) #[false, false, false, false, false, false, false, false, false, false, false, false, false, false, false, false, false] (by kernel_rfl) rfl rfl ⟨((HB.out.cell (World.block_lt_of_cell? w _ hw256_0)).trans hw256_0), ((HB.out.cell (World.block_lt_of_cell? w _ hw256_1)).trans hw256_1), ((HB.out.cell (World.block_lt_of_cell? w _ hw258_0)).trans hw258_0), ((HB.out.cell (World.block_lt_of_cell? w _ hw258_1)).trans hw258_1)⟩ (fun hHeld => ?_); refine with_tabW logjamref36_shares.tab7 logjamref36_shares.bits7 (fun HT_ HW_ => ?_)
         generalize wr.drew = w20 at HB hx256_0 hx256_1 hx258_0 hx258_1 hHeld ⊢
         refine pure_ (i := 0) (N := some 15) (v := ?_) (a' := ?_) #[true, false, false, false, false, false, false, false, false, false, false, false, false, false, false, false, false] rfl rfl (any_of HT_.out (by kernel_rfl)) (fun _ _ _ h => h) (Or.inl ⟨by rfl, ?_⟩) ?_ ?_
         rotate_left
         ·intro w'
          go_simp
          with_reducible rfl
         rotate_left
         ·simp only [Act.put, List.setIfInBounds_toArray, List.set_cons_zero, List.set_cons_succ, i64_w, i32_w]
          rfl
         refine pure_ (i := 1) (N := some 16) (v := ?_) (a' := ?_) #[true, true, false, false, false, false, false, false, false, false, false, false, false, false, false, false, false] rfl rfl (any_of HT_.out (by kernel_rfl)) (fun _ _ _ h => h) (Or.inl ⟨by rfl, ?_⟩) ?_ ?_
         rotate_left
         ·intro w'
          go_simp
          with_reducible rfl
         rotate_left
         ·simp only [Act.put, List.setIfInBounds_toArray, List.set_cons_zero, List.set_cons_succ, i64_w, i32_w]
          rfl
         refine pure_ (i := 2) (N := some 17) (v := ?_) (a' := ?_) #[true, true, true, false, false, false, false, false, false, false, false, false, false, false, false, false, false] rfl rfl (any_of HT_.out (by kernel_rfl)) (fun _ _ _ h => h) (Or.inl ⟨by rfl, ?_⟩) ?_ ?_
         rotate_left
         ·intro w'
          go_simp
          with_reducible rfl
         rotate_left
         ·simp only [Act.put, List.setIfInBounds_toArray, List.set_cons_zero, List.set_cons_succ, i64_w, i32_w]
          rfl
         refine pure_ (i := 3) (N := some 18) (v := ?_) (a' := ?_) #[true, true, true, true, false, false, false, false, false, false, false, false, false, false, false, false, false] rfl rfl (any_of HT_.out (by kernel_rfl)) (fun _ _ _ h => h) (Or.inl ⟨by rfl, ?_⟩) ?_ ?_
         rotate_left
         ·intro w'
          go_simp
          with_reducible rfl
         rotate_left
         ·simp only [Act.put, List.setIfInBounds_toArray, List.set_cons_zero, List.set_cons_succ, i64_w, i32_w]
          rfl
         refine pure_ (i := 4) (N := some 19) (v := ?_) (a' := ?_) #[true, true, true, true, true, false, false, false, false, false, false, false, false, false, false, false, false] rfl rfl (any_of HT_.out (by kernel_rfl)) (fun _ _ _ h => h) (Or.inl ⟨by rfl, ?_⟩) ?_ ?_
         rotate_left
         ·intro w'
          go_simp
          with_reducible rfl
         rotate_left
         ·simp only [Act.put, List.setIfInBounds_toArray, List.set_cons_zero, List.set_cons_succ, i64_w, i32_w]
          rfl
         refine pure_ (i := 9) (N := some 24) (v := ?_) (a' := ?_) #[true, true, true, true, true, false, false, false, false, true, false, false, false, false, false, false, false] rfl rfl (any_of HT_.out (by kernel_rfl)) (fun _ _ _ h => h) (Or.inl ⟨by rfl, ?_⟩) ?_ ?_
         rotate_left
         ·intro w'
          go_simp
          with_reducible rfl
         rotate_left
         ·simp only [Act.put, List.setIfInBounds_toArray, List.set_cons_zero, List.set_cons_succ, i64_w, i32_w]
          rfl
         refine pure_ (i := 10) (N := some 25) (v := ?_) (a' := ?_) #[true, true, true, true, true, false, false, false, false, true, true, false, false, false, false, false, false] rfl rfl (any_of HT_.out (by kernel_rfl)) (fun _ _ _ h => h) (Or.inl ⟨by rfl, ?_⟩) ?_ ?_
         rotate_left
         ·intro w'
          go_simp
          with_reducible rfl
         rotate_left
         ·simp only [Act.put, List.setIfInBounds_toArray, List.set_cons_zero, List.set_cons_succ, i64_w, i32_w]
          rfl
         refine pure_ (i := 11) (N := some 26) (v := ?_) (a' := ?_) #[true, true, true, true, true, false, false, false, false, true, true, true, false, false, false, false, false] rfl rfl (any_of HT_.out (by kernel_rfl)) (fun _ _ _ h => h) (Or.inl ⟨by rfl, ?_⟩) ?_ ?_
         rotate_left
         ·intro w'
          go_simp
          with_reducible rfl
         rotate_left
         ·simp only [Act.put, List.setIfInBounds_toArray, List.set_cons_zero, List.set_cons_succ, i64_w, i32_w]
          rfl
         refine pure_ (i := 12) (N := some 27) (v := ?_) (a' := ?_) #[true, true, true, true, true, false, false, false, false, true, true, true, true, false, false, false, false] rfl rfl (any_of HT_.out (by kernel_rfl)) (fun _ _ _ h => h) (Or.inl ⟨by rfl, ?_⟩) ?_ ?_
         rotate_left
         ·intro w'
          go_simp
          with_reducible rfl
         rotate_left
         ·simp only [Act.put, List.setIfInBounds_toArray, List.set_cons_zero, List.set_cons_succ, i64_w, i32_w]
          rfl
         refine take_ (i := 5) (N := some 20) (v := ?_) (a' := ?_) #[true, true, true, true, true, true, false, false, false, true, true, true, true, false, false, false, false] rfl rfl (take_ofW HT_.out HW_.out (by kernel_rfl)) (fun _ _ _ h => h) (Or.inl ⟨by rfl, ?_⟩) hHeld ?_ ?_
         rotate_left
         ·rintro w' ⟨s0, s1, s2, s3⟩
          go_simp
          with_reducible rfl
         rotate_left
         ·simp only [Act.put, List.setIfInBounds_toArray, List.set_cons_zero, List.set_cons_succ, i64_w, i32_w]
          rfl
         refine take_ (i := 13) (N := some 28) (v := ?_) (a' := ?_) #[true, true, true, true, true, true, false, false, false, true, true, true, true, true, false, false, false] rfl rfl (take_ofW HT_.out HW_.out (by kernel_rfl)) (fun _ _ _ h => h) (Or.inl ⟨by rfl, ?_⟩) hHeld ?_ ?_
         rotate_left
         ·rintro w' ⟨s0, s1, s2, s3⟩
          go_simp
          with_reducible rfl
         rotate_left
         ·simp only [Act.put, List.setIfInBounds_toArray, List.set_cons_zero, List.set_cons_succ, i64_w, i32_w]
          rfl
         refine one_ (i := 6) (N := some 21) #[true, true, true, true, true, true, true, false, false, true, true, true, true, true, false, false, false] rfl rfl (one_of HT_.out (by kernel_rfl)) (by decide) (fun K hK => ?_)
         refine goes_ Tryd.func86 (by kernel_rfl) rfl #[.int .i64 ((rd_T108 l0 x4_1).f0)] (by rfl) rfl rfl (by (try simp only [List.map_toArray, List.map_cons, List.map_nil]); first | done | rfl | (simp only [List.length_drop, List.length_take]; rfl)) ?_
         with_reducible refine (logjamref09_Int.calls k1 ((rd_T108 l0 x4_1).f0) t257 _ A15.out).mono ?_
         rintro e w21 ⟨rfl, hb⟩
         refine ⟨_, rfl, ?_⟩
         have n0_ := Aside0.mk (below_step (by repeat (first | (with_reducible first | exact HB.out | apply below_alloc | apply pw_below_drewN | apply below_drew1) | exact HB.out)) hb)
         clear HB; have HB := n0_; clear n0_; (try clear hb); (try clear hb2); (try clear hk); (try clear hi)
         refine hK.out _ _ ⟨((HB.out.cell (World.block_lt_of_cell? w _ hw256_0)).trans hw256_0), ((HB.out.cell (World.block_lt_of_cell? w _ hw256_1)).trans hw256_1), ((HB.out.cell (World.block_lt_of_cell? w _ hw258_0)).trans hw258_0), ((HB.out.cell (World.block_lt_of_cell? w _ hw258_1)).trans hw258_1)⟩ (fun hHeld => ?_)
         clear hK K
         refine norm_ (a' := ?_) ?_ ?_
         rotate_left
         ·show Act.put _ (some 21) _ = _
          simp only [Act.put, List.setIfInBounds_toArray, List.set_cons_zero, List.set_cons_succ, i64_w, i32_w]
          rfl
         refine pure_ (i := 7) (N := some 22) (v := ?_) (a' := ?_) #[true, true, true, true, true, true, true, true, false, true, true, true, true, true, false, false, false] rfl rfl (any_of HT_.out (by kernel_rfl)) (fun _ _ _ h => h) (Or.inl ⟨by rfl, ?_⟩) ?_ ?_
         rotate_left
         ·intro w'
          go_simp
          with_reducible rfl
         rotate_left
         ·simp only [Act.put, List.setIfInBounds_toArray, List.set_cons_zero, List.set_cons_succ, i64_w, i32_w]
          rfl
         refine pure_ (i := 8) (N := some 23) (v := ?_) (a' := ?_) #[true, true, true, true, true, true, true, true, true, true, true, true, true, true, false, false, false] rfl rfl (any_of HT_.out (by kernel_rfl)) (fun _ _ _ h => h) (Or.inl ⟨by rfl, ?_⟩) ?_ ?_
         rotate_left
         ·intro w'
          go_simp
          with_reducible rfl
         rotate_left
         ·simp only [Act.put, List.setIfInBounds_toArray, List.set_cons_zero, List.set_cons_succ, i64_w, i32_w]
          rfl
         refine one_ (i := 14) (N := some 29) #[true, true, true, true, true, true, true, true, true, true, true, true, true, true, true, false, false] rfl rfl (one_of HT_.out (by kernel_rfl)) (by decide) (fun K hK => ?_)
         refine goes_ Tryd.func86 (by kernel_rfl) rfl #[.int .i64 ((rd_T108 l0 x4_1).f1)] (by rfl) rfl rfl (by (try simp only [List.map_toArray, List.map_cons, List.map_nil]); first | done | rfl | (simp only [List.length_drop, List.length_take]; rfl)) ?_
         with_reducible refine (logjamref09_Int.calls k1 ((rd_T108 l0 x4_1).f1) t259 _ A18.out).mono ?_
         rintro e w22 ⟨rfl, hb⟩
         refine ⟨_, rfl, ?_⟩
         have n0_ := Aside0.mk (below_step (by repeat (first | (with_reducible first | exact HB.out | apply below_alloc | apply pw_below_drewN | apply below_drew1) | exact HB.out)) hb)
         clear HB; have HB := n0_; clear n0_; (try clear hb); (try clear hb2); (try clear hk); (try clear hi)
         refine hK.out _ _ ⟨((HB.out.cell (World.block_lt_of_cell? w _ hw256_0)).trans hw256_0), ((HB.out.cell (World.block_lt_of_cell? w _ hw256_1)).trans hw256_1), ((HB.out.cell (World.block_lt_of_cell? w _ hw258_0)).trans hw258_0), ((HB.out.cell (World.block_lt_of_cell? w _ hw258_1)).trans hw258_1)⟩ (fun hHeld => ?_)
         clear hK K
         refine norm_ (a' := ?_) ?_ ?_
         rotate_left
         ·show Act.put _ (some 29) _ = _
          simp only [Act.put, List.setIfInBounds_toArray, List.set_cons_zero, List.set_cons_succ, i64_w, i32_w]
          rfl
         refine pure_ (i := 15) (N := some 30) (v := ?_) (a' := ?_) #[true, true, true, true, true, true, true, true, true, true, true, true, true, true, true, true, false] rfl rfl (any_of HT_.out (by kernel_rfl)) (fun _ _ _ h => h) (Or.inl ⟨by rfl, ?_⟩) ?_ ?_
         rotate_left
         ·intro w'
          go_simp
          with_reducible rfl
         rotate_left
         ·simp only [Act.put, List.setIfInBounds_toArray, List.set_cons_zero, List.set_cons_succ, i64_w, i32_w]
          rfl
         refine pure_ (i := 16) (N := some 3) (v := ?_) (a' := ?_) #[true, true, true, true, true, true, true, true, true, true, true, true, true, true, true, true, true] rfl rfl (any_of HT_.out (by kernel_rfl)) (fun _ _ _ h => h) (Or.inl ⟨by rfl, ?_⟩) ?_ ?_
         rotate_left
         ·intro w'
          go_simp
          with_reducible rfl
         rotate_left
         ·simp only [Act.put, List.setIfInBounds_toArray, List.set_cons_zero, List.set_cons_succ, i64_w, i32_w]
          rfl
         refine done_ (done_of HT_.out (by kernel_rfl)) ?_
         try go_wp2
         go_roundg k1
         case measure => have := HK1.out; omega
         case rel => exact ⟨(((x3_1 ++ t257) ++ (⟨#[58]⟩ : ByteArray)) ++ t259), (wrap64 (x4_1 + 1)), (by first | rfl | (simp; done) | (simp only [emptyNe_, emptyEq_]; done) | (simp [*]; done)), (by first | rfl | (simp; done) | (simp only [emptyNe_, emptyEq_]; done) | (simp [*]; done)), H', ⟨by have := HK1.out; omega⟩, ⟨by repeat (first | (with_reducible first | exact HB.out | apply below_alloc | apply pw_below_drewN | apply below_drew1) | exact HB.out)⟩⟩
        ·rw [if_neg c19] at H
         exact absurd H (by simp)
       ·rw [if_neg c17] at H
        exact absurd H (by simp)
      ·rw [if_neg c16] at H
       exact absurd H (by simp)
     ·rw [if_neg c14] at H
      exact absurd H (by simp)
   ·rw [if_neg c2] at H
    have c2b0 : decide (x4_1 < (l0.length : Int)) = false := decide_eq_false c2
    clear c2
    by_cases c23 : (l0.length : Int) = 0
    ·rw [if_pos c23] at H
     have c23b0 : ((l0.length : Int) == 0) = true := beq_iff_eq.mpr c23
     have c23b1 : ((l0.length : Int) != 0) = false := bne_eq_false_iff_eq.mpr c23
     clear c23
     obtain rfl := Option.some.inj H
     go_wp2
     go_ret
     exact ⟨by first | rfl | (simp [errW_none, errW_some] <;> rfl) | (simp [*, errW_none, errW_some] <;> rfl), by repeat (first | (with_reducible first | exact HB.out | apply below_alloc | apply pw_below_drewN | apply below_drew1) | exact HB.out)⟩
    ·rw [if_neg c23] at H
     have c23b0 : ((l0.length : Int) == 0) = false := beq_eq_false_iff_ne.mpr c23
     have c23b1 : ((l0.length : Int) != 0) = true := bne_iff_ne.mpr c23
     have c23b2 : ¬ (l0 = []) := fun h_ => c23 (by rw [h_]; rfl)
     obtain rfl := Option.some.inj H
     go_wp2
     go_ret
     exact ⟨by first | rfl | (simp [errW_none, errW_some] <;> rfl) | (simp [*, errW_none, errW_some] <;> rfl), by repeat (first | (with_reducible first | exact HB.out | apply below_alloc | apply pw_below_drewN | apply below_drew1) | exact HB.out)⟩
end Go.Proofs.YtadepdeckapgcaaDoor.PRp
end

section
namespace Go.Proofs.YtadepdeckapgcaaDoor.PRp
open Go.RowKit Go.Proofs.YtadepdeckapgcaaDoor.Orc Go.Proofs.YtadepdeckapgcaaDoorW.PrintWords Go.Proofs.YtadepdeckapgcaaDoorW.PrintLast Go.Proofs.YtadepdeckapgcaaDoorW.PrintMore
attribute [local go_sem] max2_int min2_int max_two min_two max_three min_three max_four min_four
set_option linter.unusedVariables false
set_option linter.unusedSimpArgs false
mutual
def logjamref36_Text.l0 : Nat → ByteArray → Int → Int → List Int → List (S92) → Option (ByteArray)
 | 0, _, _, _, _, _ => none
 | k + 1, x3, x4, x261000, x261001, x261002 => if x4 < (x261001.length : Int) then (if x3.size + 7 ≤ 9223372036854775807 then (if 0 ≤ x4 then ((logjamref09_Int.f k (rd x261001 x4)).bind fun t263 => (if x3.size + 7 + t263.size ≤ 9223372036854775807 then (if x3.size + 7 + t263.size + 1 ≤ 9223372036854775807 then (logjamref36_Text.l1 k (((x3 ++ (⟨#[116, 104, 114, 101, 97, 100, 32]⟩ : ByteArray)) ++ t263) ++ (⟨#[10]⟩ : ByteArray)) x4 0 x261000 x261001 x261002) else (none)) else (none))) else (none)) else (none)) else (if x3.size + 4 ≤ 9223372036854775807 then (some (x3 ++ (⟨#[101, 110, 100, 10]⟩ : ByteArray))) else (none))
def logjamref36_Text.l1 : Nat → ByteArray → Int → Int → Int → List Int → List (S92) → Option (ByteArray)
 | 0, _, _, _, _, _, _ => none
 | k + 1, x3, x4, x5, x261000, x261001, x261002 => if 0 ≤ x4 then (if x4 < (x261002.length : Int) then (if x5 < (((rd_T92 x261002 x4).f1).length : Int) then (if 0 ≤ x5 then (if x3.size + 5 ≤ 9223372036854775807 then (logjamref36_Text.l2 k (x3 ++ (⟨#[32, 32, 119, 97, 121]⟩ : ByteArray)) x4 x5 (rd_L7 ((rd_T92 x261002 x4).f1) x5) 0 x261000 x261001 x261002) else (none)) else (none)) else (logjamref36_Text.l0 k x3 (wrap64 (x4 + 1)) x261000 x261001 x261002)) else (none)) else (none)
def logjamref36_Text.l2 : Nat → ByteArray → Int → Int → List (S96) → Int → Int → List Int → List (S92) → Option (ByteArray)
 | 0, _, _, _, _, _, _, _, _ => none
 | k + 1, x3, x4, x5, x6, x7, x261000, x261001, x261002 => if x7 < (x6.length : Int) then (if x7 > 0 then (if x3.size + 2 ≤ 9223372036854775807 then (if x3.size + 2 + 1 ≤ 9223372036854775807 then (if 0 ≤ x7 then ((logjamref09_Int.f k ((rd_T96 x6 x7).f0)).bind fun t268 => (if x3.size + 2 + 1 + t268.size ≤ 9223372036854775807 then (if x3.size + 2 + 1 + t268.size + 4 ≤ 9223372036854775807 then ((logjamref36_shares.f k ((rd_T96 x6 x7).f1)).bind fun t270 => (if x3.size + 2 + 1 + t268.size + 4 + t270.size ≤ 9223372036854775807 then (logjamref36_Text.l2 k (((((x3 ++ (⟨#[32, 43]⟩ : ByteArray)) ++ (⟨#[32]⟩ : ByteArray)) ++ t268) ++ (⟨#[32, 111, 102, 32]⟩ : ByteArray)) ++ t270) x4 x5 x6 (wrap64 (x7 + 1)) x261000 x261001 x261002) else (none))) else (none)) else (none))) else (none)) else (none)) else (none)) else (if x3.size + 1 ≤ 9223372036854775807 then (if 0 ≤ x7 then ((logjamref09_Int.f k ((rd_T96 x6 x7).f0)).bind fun t272 => (if x3.size + 1 + t272.size ≤ 9223372036854775807 then (if x3.size + 1 + t272.size + 4 ≤ 9223372036854775807 then ((logjamref36_shares.f k ((rd_T96 x6 x7).f1)).bind fun t274 => (if x3.size + 1 + t272.size + 4 + t274.size ≤ 9223372036854775807 then (logjamref36_Text.l2 k ((((x3 ++ (⟨#[32]⟩ : ByteArray)) ++ t272) ++ (⟨#[32, 111, 102, 32]⟩ : ByteArray)) ++ t274) x4 x5 x6 (wrap64 (x7 + 1)) x261000 x261001 x261002) else (none))) else (none)) else (none))) else (none)) else (none))) else (if x3.size + 1 ≤ 9223372036854775807 then (logjamref36_Text.l1 k (x3 ++ (⟨#[10]⟩ : ByteArray)) x4 (wrap64 (x5 + 1)) x261000 x261001 x261002) else (none))
end
def logjamref36_Text.f (k : Nat) (a0_0 : Int) (l0_1 : List Int) (l0_2 : List (S92)) : Option (ByteArray) := (logjamref09_Int.f k a0_0).bind fun t261 => (if 7 + t261.size ≤ 9223372036854775807 then (if 7 + t261.size + 1 ≤ 9223372036854775807 then (logjamref36_Text.l0 k (((⟨#[114, 101, 112, 111, 114, 116, 32]⟩ : ByteArray) ++ t261) ++ (⟨#[10]⟩ : ByteArray)) 0 a0_0 l0_1 l0_2) else (none)) else (none))
def logjamref36_Text.T16 : Bool × List (List Nat × List Nat) := (true, [([], []), ([0], [0]), ([], []), ([], []), ([2, 3], [2, 3]), ([4], [4]), ([5], [5]), ([6], [6]), ([1, 7], [1, 7]), ([8], [8]), ([], []), ([], []), ([10, 11], [10, 11]), ([12], [12]), ([13], [13]), ([14, 7], [14]), ([9, 15], [9, 15]), ([16, 15, 0, 1, 2, 3, 4, 5, 6, 7, 8, 9, 10, 11, 12, 13, 14, 15, 16], [0, 16])])
def logjamref36_Text.B16 : List Nat := [0, 1, 0, 0, 12, 28, 60, 124, 255, 511, 0, 0, 3072, 7168, 15360, 31996, 65535, 131071]
theorem logjamref36_Text.tab16 : rtab .any (opsOf Tryd.f41 16) = logjamref36_Text.T16 := by kernel_rfl
theorem logjamref36_Text.bits16 : waitsOk logjamref36_Text.T16.2 logjamref36_Text.B16 = true := by kernel_rfl
set_option maxHeartbeats 8000000 in
set_option maxRecDepth 100000 in
theorem logjamref36_Text.calls (k : Nat) (a0_0 : Int) (A0_1 : Option Addr) (c0_1 : Nat) (l0_1 : List Int) (A0_2 : Option Addr) (c0_2 : Nat) (l0_2 : List (S92)) (r : ByteArray) (w : World) (hr0_1 : Kd.C (Kd.int .i64) w A0_1 l0_1.length l0_1) (hc0_1 : l0_1.length ≤ c0_1) (hr0_2 : Kd.C k92 w A0_2 l0_2.length l0_2) (hc0_2 : l0_2.length ≤ c0_2) (h : logjamref36_Text.f k a0_0 l0_1 l0_2 = some r) :
  Calls Tryd.prog 41 #[.agg #[.int .i64 a0_0, .slice A0_1 l0_1.length c0_1, .slice A0_2 l0_2.length c0_2]] w fun e w' => e = .returned (.string r) ∧ Below w.heap.size w w' := by
 have hu25 := Tryd.underlying25
 have HR0_1 := Aside0.mk hr0_1
 have HC0_1 := Aside0.mk hc0_1
 clear hr0_1 hc0_1
 have HR0_2 := Aside0.mk hr0_2
 have HC0_2 := Aside0.mk hc0_2
 clear hr0_2 hc0_2
 have HB := Aside0.mk (Below.refl w.heap.size w)
 have H : ((logjamref09_Int.f k a0_0).bind fun t261 => (if 7 + t261.size ≤ 9223372036854775807 then (if 7 + t261.size + 1 ≤ 9223372036854775807 then (logjamref36_Text.l0 k (((⟨#[114, 101, 112, 111, 114, 116, 32]⟩ : ByteArray) ++ t261) ++ (⟨#[10]⟩ : ByteArray)) 0 a0_0 l0_1 l0_2) else (none)) else (none))) = some r := h
 clear h
 replace H := Option.bind_eq_some_iff.mp H
 obtain ⟨t261, A20, H⟩ := H
 replace H : (if 7 + t261.size ≤ 9223372036854775807 then (if 7 + t261.size + 1 ≤ 9223372036854775807 then (logjamref36_Text.l0 k (((⟨#[114, 101, 112, 111, 114, 116, 32]⟩ : ByteArray) ++ t261) ++ (⟨#[10]⟩ : ByteArray)) 0 a0_0 l0_1 l0_2) else (none)) else (none)) = some r := H
 have A2 := Aside0.mk A20
 clear A20
 by_cases c3 : 7 + t261.size ≤ 9223372036854775807
 ·rw [if_pos c3] at H
  have c3b0 := eq_true c3
  have c3b1 : decide (7 + t261.size ≤ 9223372036854775807) = true := decide_eq_true c3
  try have c3b2 : (9223372036854775807 < 7 + t261.size) = False := eq_false (Nat.not_lt.2 c3)
  by_cases c4 : 7 + t261.size + 1 ≤ 9223372036854775807
  ·rw [if_pos c4] at H
   have c4b0 := eq_true c4
   have c4b1 : decide (7 + t261.size + 1 ≤ 9223372036854775807) = true := decide_eq_true c4
   try have c4b2 : (9223372036854775807 < 7 + t261.size + 1) = False := eq_false (Nat.not_lt.2 c4)
   have H' := Aside0.mk H
   clear H
   go_enter Tryd.func41, Tryd.ntmps41
   go_wp2_with (first | ((with_reducible refine gate_dst (N := 1) rfl ?_); refine box_event ?hg (N := 1) ?hd (cs := #[.int .i64 a0_0, .slice A0_1 l0_1.length c0_1, .slice A0_2 l0_2.length c0_2]) (t := 25) ?hr ?_; (case hd => rfl); (case hg => rfl); (case hr => first | (go_simp; done) | (go_simp; rfl)); intro gb260 hg w5 hbox hb; have n0_ := Aside0.mk (below_step (by repeat (first | (with_reducible first | exact HB.out | apply below_alloc | apply pw_below_drewN | apply below_drew1) | exact HB.out)) hb); have n1_ := Aside0.mk (hbox); have n2_ := Aside0.mk ((by rw [hg]; exact (below_size (by repeat (first | (with_reducible first | exact HB.out | apply below_alloc | apply pw_below_drewN | apply below_drew1) | exact HB.out))) : w.heap.size ≤ gb260)); have n3_ := Aside0.mk ((by rw [hg]; exact (below_size (by repeat (first | (with_reducible first | exact HB.out | apply below_alloc | apply pw_below_drewN | apply below_drew1) | exact HB.out))) : w.heap.size ≤ gb260)); clear HB; have HB := n0_; have BK260 := n1_; have GW260 := n2_; have GE260 := n3_; clear n0_ n1_ n2_ n3_; clear hb hbox hg; have hcz6_0 : w5.cell? ⟨gb260, 0, none⟩ = some (.int .i64 a0_0) := (blk_cell BK260.out 0).trans rfl; have hcz6_1 : w5.cell? ⟨gb260, 1, none⟩ = some (.slice A0_1 l0_1.length c0_1) := (blk_cell BK260.out 1).trans rfl; have hcz6_2 : w5.cell? ⟨gb260, 2, none⟩ = some (.slice A0_2 l0_2.length c0_2) := (blk_cell BK260.out 2).trans rfl; have hfz6_0 := blk_frozen BK260.out 0; have hfz6_1 := blk_frozen BK260.out 1; have hfz6_2 := blk_frozen BK260.out 2) | ((with_reducible refine gate_callee (f := 86) rfl ?_); refine goesL_ (some 10) rfl rfl Tryd.func86 (by kernel_rfl) rfl #[.int .i64 a0_0] rfl (by (try simp only [List.map_toArray, List.map_cons, List.map_nil]); first | done | rfl | (simp only [List.length_drop, List.length_take]; rfl)) ?_; (with_reducible refine (logjamref09_Int.calls k a0_0 t261 _ A2.out).mono ?_); rintro e w7 ⟨rfl, hb⟩; refine ⟨_, rfl, ?_⟩; have n0_ := Aside0.mk (blk_below (g := gb260) (o := .cells #[.int .i64 a0_0, .slice A0_1 l0_1.length c0_1, .slice A0_2 l0_2.length c0_2] 25 (0, 0)) (by (with_reducible repeat (first | refine blk_drewN ?_ _ | refine blk_drew ?_ | refine blk_alloc ?_ _)); exact BK260.out) hb); have n1_ := Aside0.mk (below_step (by repeat (first | (with_reducible first | exact HB.out | apply below_alloc | apply pw_below_drewN | apply below_drew1 | refine below_set ?_ GE260.out) | exact HB.out)) hb); clear BK260; clear HB; have BK260 := n0_; have HB := n1_; clear n0_ n1_; (try clear hb); (try clear hb2); (try clear hk); (try clear hi)))
   go_loopg [3, 4] k (fun kq v3 v4 w' => ∃ (x3_1 : ByteArray) (x4_1 : Int), v3 = .string x3_1 ∧ v4 = .int .i64 x4_1 ∧ Aside0 (logjamref36_Text.l0 kq x3_1 x4_1 a0_0 l0_1 l0_2 = some r) ∧ Aside0 (kq ≤ k) ∧ Aside0 (w'.heap[gb260]? = some (.cells #[.int .i64 a0_0, (.slice A0_1 l0_1.length c0_1), (.slice A0_2 l0_2.length c0_2)] 25 (0, 0))) ∧ Aside0 (Below w.heap.size w w'))
   case atStart => exact ⟨(((⟨#[114, 101, 112, 111, 114, 116, 32]⟩ : ByteArray) ++ t261) ++ (⟨#[10]⟩ : ByteArray)), (0), (by first | rfl | (simp; done) | (simp only [emptyNe_, emptyEq_]; done) | (simp [*]; done)), (by first | rfl | (simp; done) | (simp only [emptyNe_, emptyEq_]; done) | (simp [*]; done)), H', ⟨Nat.le_refl _⟩, ⟨by (with_reducible repeat (first | refine blk_drewN ?_ _ | refine blk_drew ?_ | refine blk_alloc ?_ _)); exact BK260.out⟩, ⟨by repeat (first | (with_reducible first | exact HB.out | apply below_alloc | apply pw_below_drewN | apply below_drew1 | refine below_set ?_ GE260.out) | exact HB.out)⟩⟩
   case round =>
    clear H'; try clear p2; try clear c3; try clear c3b0; try clear c3b1; try clear c3b2; try clear c4; try clear c4b0; try clear c4b1; try clear c4b2; try clear hcz6_0; try clear hcz6_1; try clear hcz6_2; try clear hfz6_0; try clear hfz6_1; try clear hfz6_2
    obtain ⟨x3_1, x4_1, rfl, rfl, HA, HK1, BK260, HB⟩ := hrel
    cases gk with
    | zero => exact absurd HA.out (by simp [logjamref36_Text.l0])
    | succ k1 =>
     have H := HA.out
     clear HA
     simp only [logjamref36_Text.l0] at H
     by_cases c8 : x4_1 < (l0_1.length : Int)
     ·rw [if_pos c8] at H
      have c8b0 : decide (x4_1 < (l0_1.length : Int)) = true := decide_eq_true c8
      clear c8
      by_cases c9 : x3_1.size + 7 ≤ 9223372036854775807
      ·rw [if_pos c9] at H
       have c9b0 := eq_true c9
       have c9b1 : decide (x3_1.size + 7 ≤ 9223372036854775807) = true := decide_eq_true c9
       try have c9b2 : (9223372036854775807 < x3_1.size + 7) = False := eq_false (Nat.not_lt.2 c9)
       by_cases c10 : 0 ≤ x4_1
       ·rw [if_pos c10] at H
        have c10b0 : decide (0 ≤ x4_1) = true := decide_eq_true c10
        clear c10
        replace H := Option.bind_eq_some_iff.mp H
        obtain ⟨t263, A110, H⟩ := H
        replace H : (if x3_1.size + 7 + t263.size ≤ 9223372036854775807 then (if x3_1.size + 7 + t263.size + 1 ≤ 9223372036854775807 then (logjamref36_Text.l1 k1 (((x3_1 ++ (⟨#[116, 104, 114, 101, 97, 100, 32]⟩ : ByteArray)) ++ t263) ++ (⟨#[10]⟩ : ByteArray)) x4_1 0 a0_0 l0_1 l0_2) else (none)) else (none)) = some r := H
        have A11 := Aside0.mk A110
        clear A110
        by_cases c12 : x3_1.size + 7 + t263.size ≤ 9223372036854775807
        ·rw [if_pos c12] at H
         have c12b0 := eq_true c12
         have c12b1 : decide (x3_1.size + 7 + t263.size ≤ 9223372036854775807) = true := decide_eq_true c12
         try have c12b2 : (9223372036854775807 < x3_1.size + 7 + t263.size) = False := eq_false (Nat.not_lt.2 c12)
         by_cases c13 : x3_1.size + 7 + t263.size + 1 ≤ 9223372036854775807
         ·rw [if_pos c13] at H
          have c13b0 := eq_true c13
          have c13b1 : decide (x3_1.size + 7 + t263.size + 1 ≤ 9223372036854775807) = true := decide_eq_true c13
          try have c13b2 : (9223372036854775807 < x3_1.size + 7 + t263.size + 1) = False := eq_false (Nat.not_lt.2 c13)
          have H' := Aside0.mk H
          clear H
          have hcz14_0 : wr.cell? ⟨gb260, 0, none⟩ = some (.int .i64 a0_0) := (blk_cell BK260.out 0).trans rfl
          have hcz14_1 : wr.cell? ⟨gb260, 1, none⟩ = some (.slice A0_1 l0_1.length c0_1) := (blk_cell BK260.out 1).trans rfl
          have hcz14_2 : wr.cell? ⟨gb260, 2, none⟩ = some (.slice A0_2 l0_2.length c0_2) := (blk_cell BK260.out 2).trans rfl
          have hfz14_0 := blk_frozen BK260.out 0
          have hfz14_1 := blk_frozen BK260.out 1
          have hfz14_2 := blk_frozen BK260.out 2
          have p262 : 0 ≤ (x4_1 : Int) := of_decide_eq_true (by first | (with_reducible assumption) | assumption)
          have q262 : x4_1 < (l0_1.length : Int) := of_decide_eq_true (by first | (with_reducible assumption) | assumption)
          obtain ⟨ad262, e262, hx262_0⟩ := Kd.at_int HR0_1.out x4_1 p262 q262
          cases e262
          replace hx262_0 := (HB.out.cell (World.block_lt_of_cell? w _ hx262_0)).trans hx262_0
          replace p262 := eq_true p262
          replace q262 := eq_true q262
          go_wp2_with (first | ((with_reducible refine gate_callee (f := 86) rfl ?_); refine goesL_ (some 27) rfl rfl Tryd.func86 (by kernel_rfl) rfl #[.int .i64 (rd l0_1 x4_1)] rfl (by (try simp only [List.map_toArray, List.map_cons, List.map_nil]); first | done | rfl | (simp only [List.length_drop, List.length_take]; rfl)) ?_; (with_reducible refine (logjamref09_Int.calls k1 (rd l0_1 x4_1) t263 _ A11.out).mono ?_); rintro e w15 ⟨rfl, hb⟩; refine ⟨_, rfl, ?_⟩; have n0_ := Aside0.mk (blk_below (g := gb260) (o := .cells #[.int .i64 a0_0, .slice (some ad262) l0_1.length c0_1, .slice A0_2 l0_2.length c0_2] 25 (0, 0)) (by (with_reducible repeat (first | refine blk_drewN ?_ _ | refine blk_drew ?_ | refine blk_alloc ?_ _)); exact BK260.out) hb); have n1_ := Aside0.mk (below_step (by repeat (first | (with_reducible first | exact HB.out | apply below_alloc | apply pw_below_drewN | apply below_drew1 | refine below_set ?_ GE260.out) | exact HB.out)) hb); clear BK260; clear HB; have BK260 := n0_; have HB := n1_; clear n0_ n1_; (try clear hb); (try clear hb2); (try clear hk); (try clear hi)))
          go_loopg [3, 5] k1 (fun kq v3 v5 w' => ∃ (x3_2 : ByteArray) (x5_2 : Int), v3 = .string x3_2 ∧ v5 = .int .i64 x5_2 ∧ Aside0 (logjamref36_Text.l1 kq x3_2 x4_1 x5_2 a0_0 l0_1 l0_2 = some r) ∧ Aside0 (kq ≤ k1) ∧ Aside0 (w'.heap[gb260]? = some (.cells #[.int .i64 a0_0, (.slice (some ad262) l0_1.length c0_1), (.slice A0_2 l0_2.length c0_2)] 25 (0, 0))) ∧ Aside0 (Below w.heap.size w w'))
          case atStart => exact ⟨(((x3_1 ++ (⟨#[116, 104, 114, 101, 97, 100, 32]⟩ : ByteArray)) ++ t263) ++ (⟨#[10]⟩ : ByteArray)), (0), (by first | rfl | (simp; done) | (simp only [emptyNe_, emptyEq_]; done) | (simp [*]; done)), (by first | rfl | (simp; done) | (simp only [emptyNe_, emptyEq_]; done) | (simp [*]; done)), H', ⟨Nat.le_refl _⟩, ⟨by (with_reducible repeat (first | refine blk_drewN ?_ _ | refine blk_drew ?_ | refine blk_alloc ?_ _)); exact BK260.out⟩, ⟨by repeat (first | (with_reducible first | exact HB.out | apply below_alloc | apply pw_below_drewN | apply below_drew1 | refine below_set ?_ GE260.out) | exact HB.out)⟩⟩
          case round =>
           clear H'; try clear c1; try clear p2; try clear q2; try clear hx2; try clear c3; try clear c3b0; try clear c3b1; try clear c3b2; try clear c4; try clear c4b0; try clear c4b1; try clear c4b2; try clear c8; try clear c8b0; try clear c9; try clear c9b0; try clear c9b1; try clear c9b2; try clear c10; try clear c10b0; try clear c12; try clear c12b0; try clear c12b1; try clear c12b2; try clear c13; try clear c13b0; try clear c13b1; try clear c13b2; try clear hcz14_0; try clear hcz14_1; try clear hcz14_2; try clear hcz6_0; try clear hcz6_1; try clear hcz6_2; try clear hfz14_0; try clear hfz14_1; try clear hfz14_2; try clear hfz6_0; try clear hfz6_1; try clear hfz6_2; try clear hx262_0; try clear p2; try clear p262; try clear q262
           obtain ⟨x3_2, x5_2, rfl, rfl, HA, HK2, BK260, HB⟩ := hrel
           cases gk with
           | zero => exact absurd HA.out (by simp [logjamref36_Text.l1])
           | succ k2 =>
            have H := HA.out
            clear HA
            simp only [logjamref36_Text.l1] at H
            by_cases c16 : 0 ≤ x4_1
            ·rw [if_pos c16] at H
             have c16b0 : decide (0 ≤ x4_1) = true := decide_eq_true c16
             clear c16
             by_cases c17 : x4_1 < (l0_2.length : Int)
             ·rw [if_pos c17] at H
              have c17b0 : decide (x4_1 < (l0_2.length : Int)) = true := decide_eq_true c17
              clear c17
              by_cases c18 : x5_2 < (((rd_T92 l0_2 x4_1).f1).length : Int)
              ·rw [if_pos c18] at H
               have c18b0 : decide (x5_2 < (((rd_T92 l0_2 x4_1).f1).length : Int)) = true := decide_eq_true c18
               clear c18
               by_cases c19 : 0 ≤ x5_2
               ·rw [if_pos c19] at H
                have c19b0 : decide (0 ≤ x5_2) = true := decide_eq_true c19
                clear c19
                by_cases c20 : x3_2.size + 5 ≤ 9223372036854775807
                ·rw [if_pos c20] at H
                 have c20b0 := eq_true c20
                 have c20b1 : decide (x3_2.size + 5 ≤ 9223372036854775807) = true := decide_eq_true c20
                 try have c20b2 : (9223372036854775807 < x3_2.size + 5) = False := eq_false (Nat.not_lt.2 c20)
                 have H' := Aside0.mk H
                 clear H
                 have hcz21_0 : wr.cell? ⟨gb260, 0, none⟩ = some (.int .i64 a0_0) := (blk_cell BK260.out 0).trans rfl
                 have hcz21_1 : wr.cell? ⟨gb260, 1, none⟩ = some (.slice (some ad262) l0_1.length c0_1) := (blk_cell BK260.out 1).trans rfl
                 have hcz21_2 : wr.cell? ⟨gb260, 2, none⟩ = some (.slice A0_2 l0_2.length c0_2) := (blk_cell BK260.out 2).trans rfl
                 have hfz21_0 := blk_frozen BK260.out 0
                 have hfz21_1 := blk_frozen BK260.out 1
                 have hfz21_2 := blk_frozen BK260.out 2
                 have p264 : 0 ≤ (x4_1 : Int) := of_decide_eq_true (by first | (with_reducible assumption) | assumption)
                 have q264 : x4_1 < (l0_2.length : Int) := of_decide_eq_true (by first | (with_reducible assumption) | assumption)
                 obtain ⟨ad264, A264_1, c264_1, e264, hx264_0, hx264_1, hl264_1, hi264_1⟩ := at_T92 HR0_2.out x4_1 p264 q264
                 cases e264
                 replace hx264_0 := (HB.out.cell (World.block_lt_of_cell? w _ hx264_0)).trans hx264_0
                 replace hx264_1 := (HB.out.cell (World.block_lt_of_cell? w _ hx264_1)).trans hx264_1
                 have HR264_1 := Aside0.mk hi264_1
                 have HC264_1 := Aside0.mk hl264_1
                 clear hi264_1 hl264_1
                 replace p264 := eq_true p264
                 replace q264 := eq_true q264
                 have p265 : 0 ≤ (x4_1 : Int) := of_decide_eq_true (by first | (with_reducible assumption) | assumption)
                 have q265 : x4_1 < (l0_2.length : Int) := of_decide_eq_true (by first | (with_reducible assumption) | assumption)
                 obtain ⟨ad265, A265_1, c265_1, e265, hx265_0, hx265_1, hl265_1, hi265_1⟩ := at_T92 HR0_2.out x4_1 p265 q265
                 obtain rfl : ad264 = ad265 := (by injection e265)
                 replace hx265_0 := (HB.out.cell (World.block_lt_of_cell? w _ hx265_0)).trans hx265_0
                 replace hx265_1 := (HB.out.cell (World.block_lt_of_cell? w _ hx265_1)).trans hx265_1
                 have HR265_1 := Aside0.mk hi265_1
                 have HC265_1 := Aside0.mk hl265_1
                 clear hi265_1 hl265_1
                 replace p265 := eq_true p265
                 replace q265 := eq_true q265
                 have ea_ := Option.some.inj (hx264_1.symm.trans hx265_1)
                 injection ea_ with ea_ en_ ec_
                 subst ea_
                 subst ec_
                 clear en_
                 have p266 : 0 ≤ (x5_2 : Int) := of_decide_eq_true (by first | (with_reducible assumption) | assumption)
                 have q266 : x5_2 < (((rd_T92 l0_2 x4_1).f1).length : Int) := of_decide_eq_true (by first | (with_reducible assumption) | assumption)
                 obtain ⟨ad266, A266_0, c266_0, e266, hx266_0, hl266_0, hi266_0⟩ := at_L7 HR265_1.out x5_2 p266 q266
                 cases e266
                 replace hx266_0 := (HB.out.cell (World.block_lt_of_cell? w _ hx266_0)).trans hx266_0
                 have HR266_0 := Aside0.mk hi266_0
                 have HC266_0 := Aside0.mk hl266_0
                 clear hi266_0 hl266_0
                 replace p266 := eq_true p266
                 replace q266 := eq_true q266
                 go_wp2
                 go_loopg [3, 7] k2 (fun kq v3 v7 w' => ∃ (x3_3 : ByteArray) (x7_3 : Int), v3 = .string x3_3 ∧ v7 = .int .i64 x7_3 ∧ Aside0 (logjamref36_Text.l2 kq x3_3 x4_1 x5_2 (rd_L7 ((rd_T92 l0_2 x4_1).f1) x5_2) x7_3 a0_0 l0_1 l0_2 = some r) ∧ Aside0 (kq ≤ k2) ∧ Aside0 (w'.heap[gb260]? = some (.cells #[.int .i64 a0_0, (.slice (some ad262) l0_1.length c0_1), (.slice (some ad264) l0_2.length c0_2)] 25 (0, 0))) ∧ Aside0 (Below w.heap.size w w'))
                 case atStart => exact ⟨(x3_2 ++ (⟨#[32, 32, 119, 97, 121]⟩ : ByteArray)), (0), (by first | rfl | (simp; done) | (simp only [emptyNe_, emptyEq_]; done) | (simp [*]; done)), (by first | rfl | (simp; done) | (simp only [emptyNe_, emptyEq_]; done) | (simp [*]; done)), H', ⟨Nat.le_refl _⟩, ⟨by (with_reducible repeat (first | refine blk_drewN ?_ _ | refine blk_drew ?_ | refine blk_alloc ?_ _)); exact BK260.out⟩, ⟨by repeat (first | (with_reducible first | exact HB.out | apply below_alloc | apply pw_below_drewN | apply below_drew1 | refine below_set ?_ GE260.out) | exact HB.out)⟩⟩
                 case round =>
                  clear H'; try clear c1; try clear c2; try clear p2; try clear q2; try clear hx2; try clear c3; try clear c3b0; try clear c3b1; try clear c3b2; try clear c4; try clear c4b0; try clear c4b1; try clear c4b2; try clear c8; try clear c8b0; try clear c9; try clear c9b0; try clear c9b1; try clear c9b2; try clear c10; try clear c10b0; try clear c12; try clear c12b0; try clear c12b1; try clear c12b2; try clear c13; try clear c13b0; try clear c13b1; try clear c13b2; try clear c16; try clear c16b0; try clear c17; try clear c17b0; try clear c18; try clear c18b0; try clear c19; try clear c19b0; try clear c20; try clear c20b0; try clear c20b1; try clear c20b2; try clear hcz14_0; try clear hcz14_1; try clear hcz14_2; try clear hcz21_0; try clear hcz21_1; try clear hcz21_2; try clear hcz6_0; try clear hcz6_1; try clear hcz6_2; try clear hfz14_0; try clear hfz14_1; try clear hfz14_2; try clear hfz21_0; try clear hfz21_1; try clear hfz21_2; try clear hfz6_0; try clear hfz6_1; try clear hfz6_2; try clear hx262_0; try clear hx264_0; try clear hx264_1; try clear hx265_0; try clear hx265_1; try clear hx266_0; try clear p2; try clear p262; try clear p264; try clear p265; try clear p266; try clear q2; try clear q262; try clear q264; try clear q265; try clear q266
                  obtain ⟨x3_3, x7_3, rfl, rfl, HA, HK3, BK260, HB⟩ := hrel
                  cases gk with
                  | zero => exact absurd HA.out (by simp [logjamref36_Text.l2])
                  | succ k3 =>
                   have H := HA.out
                   clear HA
                   simp only [logjamref36_Text.l2] at H
                   by_cases c22 : x7_3 < ((rd_L7 ((rd_T92 l0_2 x4_1).f1) x5_2).length : Int)
                   ·rw [if_pos c22] at H
                    have c22b0 : decide (x7_3 < ((rd_L7 ((rd_T92 l0_2 x4_1).f1) x5_2).length : Int)) = true := decide_eq_true c22
                    clear c22
                    by_cases c23 : x7_3 > 0
                    ·rw [if_pos c23] at H
                     have c23b0 : decide (0 < x7_3) = true := decide_eq_true c23
                     clear c23
                     by_cases c24 : x3_3.size + 2 ≤ 9223372036854775807
                     ·rw [if_pos c24] at H
                      have c24b0 := eq_true c24
                      have c24b1 : decide (x3_3.size + 2 ≤ 9223372036854775807) = true := decide_eq_true c24
                      try have c24b2 : (9223372036854775807 < x3_3.size + 2) = False := eq_false (Nat.not_lt.2 c24)
                      by_cases c25 : x3_3.size + 2 + 1 ≤ 9223372036854775807
                      ·rw [if_pos c25] at H
                       have c25b0 := eq_true c25
                       have c25b1 : decide (x3_3.size + 2 + 1 ≤ 9223372036854775807) = true := decide_eq_true c25
                       try have c25b2 : (9223372036854775807 < x3_3.size + 2 + 1) = False := eq_false (Nat.not_lt.2 c25)
                       by_cases c26 : 0 ≤ x7_3
                       ·rw [if_pos c26] at H
                        have c26b0 : decide (0 ≤ x7_3) = true := decide_eq_true c26
                        clear c26
                        replace H := Option.bind_eq_some_iff.mp H
                        obtain ⟨t268, A270, H⟩ := H
                        replace H : (if x3_3.size + 2 + 1 + t268.size ≤ 9223372036854775807 then (if x3_3.size + 2 + 1 + t268.size + 4 ≤ 9223372036854775807 then ((logjamref36_shares.f k3 ((rd_T96 (rd_L7 ((rd_T92 l0_2 x4_1).f1) x5_2) x7_3).f1)).bind fun t270 => (if x3_3.size + 2 + 1 + t268.size + 4 + t270.size ≤ 9223372036854775807 then (logjamref36_Text.l2 k3 (((((x3_3 ++ (⟨#[32, 43]⟩ : ByteArray)) ++ (⟨#[32]⟩ : ByteArray)) ++ t268) ++ (⟨#[32, 111, 102, 32]⟩ : ByteArray)) ++ t270) x4_1 x5_2 (rd_L7 ((rd_T92 l0_2 x4_1).f1) x5_2) (wrap64 (x7_3 + 1)) a0_0 l0_1 l0_2) else (none))) else (none)) else (none)) = some r := H
                        have A27 := Aside0.mk A270
                        clear A270
                        by_cases c28 : x3_3.size + 2 + 1 + t268.size ≤ 9223372036854775807
                        ·rw [if_pos c28] at H
                         have c28b0 := eq_true c28
                         have c28b1 : decide (x3_3.size + 2 + 1 + t268.size ≤ 9223372036854775807) = true := decide_eq_true c28
                         try have c28b2 : (9223372036854775807 < x3_3.size + 2 + 1 + t268.size) = False := eq_false (Nat.not_lt.2 c28)
                         by_cases c29 : x3_3.size + 2 + 1 + t268.size + 4 ≤ 9223372036854775807
                         ·rw [if_pos c29] at H
                          have c29b0 := eq_true c29
                          have c29b1 : decide (x3_3.size + 2 + 1 + t268.size + 4 ≤ 9223372036854775807) = true := decide_eq_true c29
                          try have c29b2 : (9223372036854775807 < x3_3.size + 2 + 1 + t268.size + 4) = False := eq_false (Nat.not_lt.2 c29)
                          replace H := Option.bind_eq_some_iff.mp H
                          obtain ⟨t270, A300, H⟩ := H
                          replace H : (if x3_3.size + 2 + 1 + t268.size + 4 + t270.size ≤ 9223372036854775807 then (logjamref36_Text.l2 k3 (((((x3_3 ++ (⟨#[32, 43]⟩ : ByteArray)) ++ (⟨#[32]⟩ : ByteArray)) ++ t268) ++ (⟨#[32, 111, 102, 32]⟩ : ByteArray)) ++ t270) x4_1 x5_2 (rd_L7 ((rd_T92 l0_2 x4_1).f1) x5_2) (wrap64 (x7_3 + 1)) a0_0 l0_1 l0_2) else (none)) = some r := H
                          have A30 := Aside0.mk A300
                          clear A300
                          by_cases c31 : x3_3.size + 2 + 1 + t268.size + 4 + t270.size ≤ 9223372036854775807
                          ·rw [if_pos c31] at H
                           have c31b0 := eq_true c31
                           have c31b1 : decide (x3_3.size + 2 + 1 + t268.size + 4 + t270.size ≤ 9223372036854775807) = true := decide_eq_true c31
                           try have c31b2 : (9223372036854775807 < x3_3.size + 2 + 1 + t268.size + 4 + t270.size) = False := eq_false (Nat.not_lt.2 c31)
                           have H' := Aside0.mk H
                           clear H
                           try go_wp2
                           have n0_ := Aside0.mk (blk_drew BK260.out)
                           have n1_ := Aside0.mk (below_drew1 HB.out)
                           clear BK260; clear HB; have BK260 := n0_; have HB := n1_; clear n0_ n1_
                           have p267 : 0 ≤ (x7_3 : Int) := of_decide_eq_true (by first | (with_reducible assumption) | assumption)
                           have q267 : x7_3 < ((rd_L7 ((rd_T92 l0_2 x4_1).f1) x5_2).length : Int) := of_decide_eq_true (by first | (with_reducible assumption) | assumption)
                           obtain ⟨ad267, A267_1, c267_1, e267, hx267_0, hx267_1, hl267_1, hi267_1⟩ := at_T96 HR266_0.out x7_3 p267 q267
                           have hw267_1 := hx267_1
                           have hw267_0 := hx267_0
                           cases e267
                           replace hx267_0 := (HB.out.cell (World.block_lt_of_cell? w _ hx267_0)).trans hx267_0
                           replace hx267_1 := (HB.out.cell (World.block_lt_of_cell? w _ hx267_1)).trans hx267_1
                           have HR267_1 := Aside0.mk hi267_1
                           have HC267_1 := Aside0.mk hl267_1
                           clear hi267_1 hl267_1
                           replace p267 := eq_true p267
                           replace q267 := eq_true q267
                           have p269 : 0 ≤ (x7_3 : Int) := of_decide_eq_true (by first | (with_reducible assumption) | assumption)
                           have q269 : x7_3 < ((rd_L7 ((rd_T92 l0_2 x4_1).f1) x5_2).length : Int) := of_decide_eq_true (by first | (with_reducible assumption) | assumption)
                           obtain ⟨ad269, A269_1, c269_1, e269, hx269_0, hx269_1, hl269_1, hi269_1⟩ := at_T96 HR266_0.out x7_3 p269 q269
                           have hw269_1 := hx269_1
                           have hw269_0 := hx269_0
                           obtain rfl : ad267 = ad269 := (by injection e269)
                           replace hx269_0 := (HB.out.cell (World.block_lt_of_cell? w _ hx269_0)).trans hx269_0
                           replace hx269_1 := (HB.out.cell (World.block_lt_of_cell? w _ hx269_1)).trans hx269_1
                           have HR269_1 := Aside0.mk hi269_1
                           have HC269_1 := Aside0.mk hl269_1
                           clear hi269_1 hl269_1
                           replace p269 := eq_true p269
                           replace q269 := eq_true q269
                           have ea_ := Option.some.inj (hx267_1.symm.trans hx269_1)
                           injection ea_ with ea_ en_ ec_
                           subst ea_
                           subst ec_
                           clear en_
                           refine start_ (n := 18) (S := fun w' => w'.cell? (ad267.add ((x7_3).toNat * 2)) = some (.int .i64 ((rd_T96 (rd_L7 ((rd_T92 l0_2 x4_1).f1) x5_2) x7_3).f0)) ∧ w'.cell? ⟨(ad267.add ((x7_3).toNat * 2)).block, (ad267.add ((x7_3).toNat * 2)).off + 1, none⟩ = some (.slice A267_1 ((rd_T96 (rd_L7 ((rd_T92 l0_2 x4_1).f1) x5_2) x7_3).f1).length c267_1) ∧ w'.cell? (ad267.add ((x7_3).toNat * 2)) = some (.int .i64 ((rd_T96 (rd_L7 ((rd_T92 l0_2 x4_1).f1) x5_2) x7_3).f0)) ∧ w'.cell? ⟨(ad267.add ((x7_3).toNat * 2)).block, (ad267.add ((x7_3).toNat * 2)).off + 1, none⟩ = some (.slice A267_1 ((rd_T96 (rd_L7 ((rd_T92 l0_2 x4_1).f1) x5_2) x7_3).f1).length c267_1)) (ds := []) #[false, false, false, false, false, false, false, false, false, false, false, false, false, false, false, false, false, false] (by kernel_rfl) rfl rfl ⟨((HB.out.cell (World.block_lt_of_cell? w _ hw267_0)).trans hw267_0), ((HB.out.cell (World.block_lt_of_cell? w _ hw267_1)).trans hw267_1), ((HB.out.cell (World.block_lt_of_cell? w _ hw269_0)).trans hw269_0), ((HB.out.cell (World.block_lt_of_cell? w _ hw269_1)).trans hw269_1)⟩ (fun hHeld => ?_); refine with_tabW logjamref36_Text.tab16 logjamref36_Text.bits16 (fun HT_ HW_ => ?_)
                           generalize wr.drew = w32 at BK260 HB HR267_1 HR269_1 hx267_0 hx267_1 hx269_0 hx269_1 hHeld ⊢
                           refine pure_ (i := 0) (N := some 62) (v := ?_) (a' := ?_) #[true, false, false, false, false, false, false, false, false, false, false, false, false, false, false, false, false, false] rfl rfl (any_of HT_.out (by kernel_rfl)) (fun _ _ _ h => h) (Or.inl ⟨by rfl, ?_⟩) ?_ ?_
                           rotate_left
                           ·intro w'
                            go_simp
                            with_reducible rfl
                           rotate_left
                           ·simp only [Act.put, List.setIfInBounds_toArray, List.set_cons_zero, List.set_cons_succ, i64_w, i32_w]
                            rfl
                           refine pure_ (i := 1) (N := some 63) (v := ?_) (a' := ?_) #[true, true, false, false, false, false, false, false, false, false, false, false, false, false, false, false, false, false] rfl rfl (any_of HT_.out (by kernel_rfl)) (fun _ _ _ h => h) (Or.inl ⟨by rfl, ?_⟩) ?_ ?_
                           rotate_left
                           ·intro w'
                            go_simp
                            with_reducible rfl
                           rotate_left
                           ·simp only [Act.put, List.setIfInBounds_toArray, List.set_cons_zero, List.set_cons_succ, i64_w, i32_w]
                            rfl
                           refine pure_ (i := 2) (N := some 64) (v := ?_) (a' := ?_) #[true, true, true, false, false, false, false, false, false, false, false, false, false, false, false, false, false, false] rfl rfl (any_of HT_.out (by kernel_rfl)) (fun _ _ _ h => h) (Or.inl ⟨by rfl, ?_⟩) ?_ ?_
                           rotate_left
                           ·intro w'
                            go_simp
                            with_reducible rfl
                           rotate_left
                           ·simp only [Act.put, List.setIfInBounds_toArray, List.set_cons_zero, List.set_cons_succ, i64_w, i32_w]
                            rfl
                           refine pure_ (i := 3) (N := some 65) (v := ?_) (a' := ?_) #[true, true, true, true, false, false, false, false, false, false, false, false, false, false, false, false, false, false] rfl rfl (any_of HT_.out (by kernel_rfl)) (fun _ _ _ h => h) (Or.inl ⟨by rfl, ?_⟩) ?_ ?_
                           rotate_left
                           ·intro w'
                            go_simp
                            with_reducible rfl
                           rotate_left
                           ·simp only [Act.put, List.setIfInBounds_toArray, List.set_cons_zero, List.set_cons_succ, i64_w, i32_w]
                            rfl
                           refine pure_ (i := 4) (N := some 66) (v := ?_) (a' := ?_) #[true, true, true, true, true, false, false, false, false, false, false, false, false, false, false, false, false, false] rfl rfl (any_of HT_.out (by kernel_rfl)) (fun _ _ _ h => h) (Or.inl ⟨by rfl, ?_⟩) ?_ ?_
                           rotate_left
                           ·intro w'
                            go_simp
                            with_reducible rfl
                           rotate_left
                           ·simp only [Act.put, List.setIfInBounds_toArray, List.set_cons_zero, List.set_cons_succ, i64_w, i32_w]
                            rfl
                           refine pure_ (i := 5) (N := some 67) (v := ?_) (a' := ?_) #[true, true, true, true, true, true, false, false, false, false, false, false, false, false, false, false, false, false] rfl rfl (any_of HT_.out (by kernel_rfl)) (fun _ _ _ h => h) (Or.inl ⟨by rfl, ?_⟩) ?_ ?_
                           rotate_left
                           ·intro w'
                            go_simp
                            with_reducible rfl
                           rotate_left
                           ·simp only [Act.put, List.setIfInBounds_toArray, List.set_cons_zero, List.set_cons_succ, i64_w, i32_w]
                            rfl
                           refine pure_ (i := 10) (N := some 72) (v := ?_) (a' := ?_) #[true, true, true, true, true, true, false, false, false, false, true, false, false, false, false, false, false, false] rfl rfl (any_of HT_.out (by kernel_rfl)) (fun _ _ _ h => h) (Or.inl ⟨by rfl, ?_⟩) ?_ ?_
                           rotate_left
                           ·intro w'
                            go_simp
                            with_reducible rfl
                           rotate_left
                           ·simp only [Act.put, List.setIfInBounds_toArray, List.set_cons_zero, List.set_cons_succ, i64_w, i32_w]
                            rfl
                           refine pure_ (i := 11) (N := some 73) (v := ?_) (a' := ?_) #[true, true, true, true, true, true, false, false, false, false, true, true, false, false, false, false, false, false] rfl rfl (any_of HT_.out (by kernel_rfl)) (fun _ _ _ h => h) (Or.inl ⟨by rfl, ?_⟩) ?_ ?_
                           rotate_left
                           ·intro w'
                            go_simp
                            with_reducible rfl
                           rotate_left
                           ·simp only [Act.put, List.setIfInBounds_toArray, List.set_cons_zero, List.set_cons_succ, i64_w, i32_w]
                            rfl
                           refine pure_ (i := 12) (N := some 74) (v := ?_) (a' := ?_) #[true, true, true, true, true, true, false, false, false, false, true, true, true, false, false, false, false, false] rfl rfl (any_of HT_.out (by kernel_rfl)) (fun _ _ _ h => h) (Or.inl ⟨by rfl, ?_⟩) ?_ ?_
                           rotate_left
                           ·intro w'
                            go_simp
                            with_reducible rfl
                           rotate_left
                           ·simp only [Act.put, List.setIfInBounds_toArray, List.set_cons_zero, List.set_cons_succ, i64_w, i32_w]
                            rfl
                           refine pure_ (i := 13) (N := some 75) (v := ?_) (a' := ?_) #[true, true, true, true, true, true, false, false, false, false, true, true, true, true, false, false, false, false] rfl rfl (any_of HT_.out (by kernel_rfl)) (fun _ _ _ h => h) (Or.inl ⟨by rfl, ?_⟩) ?_ ?_
                           rotate_left
                           ·intro w'
                            go_simp
                            with_reducible rfl
                           rotate_left
                           ·simp only [Act.put, List.setIfInBounds_toArray, List.set_cons_zero, List.set_cons_succ, i64_w, i32_w]
                            rfl
                           refine take_ (i := 6) (N := some 68) (v := ?_) (a' := ?_) #[true, true, true, true, true, true, true, false, false, false, true, true, true, true, false, false, false, false] rfl rfl (take_ofW HT_.out HW_.out (by kernel_rfl)) (fun _ _ _ h => h) (Or.inl ⟨by rfl, ?_⟩) hHeld ?_ ?_
                           rotate_left
                           ·rintro w' ⟨s0, s1, s2, s3⟩
                            go_simp
                            with_reducible rfl
                           rotate_left
                           ·simp only [Act.put, List.setIfInBounds_toArray, List.set_cons_zero, List.set_cons_succ, i64_w, i32_w]
                            rfl
                           refine take_ (i := 14) (N := some 76) (v := ?_) (a' := ?_) #[true, true, true, true, true, true, true, false, false, false, true, true, true, true, true, false, false, false] rfl rfl (take_ofW HT_.out HW_.out (by kernel_rfl)) (fun _ _ _ h => h) (Or.inl ⟨by rfl, ?_⟩) hHeld ?_ ?_
                           rotate_left
                           ·rintro w' ⟨s0, s1, s2, s3⟩
                            go_simp
                            with_reducible rfl
                           rotate_left
                           ·simp only [Act.put, List.setIfInBounds_toArray, List.set_cons_zero, List.set_cons_succ, i64_w, i32_w]
                            rfl
                           refine one_ (i := 7) (N := some 69) #[true, true, true, true, true, true, true, true, false, false, true, true, true, true, true, false, false, false] rfl rfl (one_of HT_.out (by kernel_rfl)) (by decide) (fun K hK => ?_)
                           refine goes_ Tryd.func86 (by kernel_rfl) rfl #[.int .i64 ((rd_T96 (rd_L7 ((rd_T92 l0_2 x4_1).f1) x5_2) x7_3).f0)] (by rfl) rfl rfl (by (try simp only [List.map_toArray, List.map_cons, List.map_nil]); first | done | rfl | (simp only [List.length_drop, List.length_take]; rfl)) ?_
                           with_reducible refine (logjamref09_Int.calls k3 ((rd_T96 (rd_L7 ((rd_T92 l0_2 x4_1).f1) x5_2) x7_3).f0) t268 _ A27.out).mono ?_
                           rintro e w33 ⟨rfl, hb⟩
                           refine ⟨_, rfl, ?_⟩
                           have n0_ := Aside0.mk (blk_below (g := gb260) (o := .cells #[.int .i64 a0_0, .slice (some ad262) l0_1.length c0_1, .slice (some ad264) l0_2.length c0_2] 25 (0, 0)) (by (with_reducible repeat (first | refine blk_drewN ?_ _ | refine blk_drew ?_ | refine blk_alloc ?_ _)); exact BK260.out) hb)
                           have n1_ := Aside0.mk (below_step (by repeat (first | (with_reducible first | exact HB.out | apply below_alloc | apply pw_below_drewN | apply below_drew1 | refine below_set ?_ GE260.out) | exact HB.out)) hb)
                           clear BK260; clear HB; have BK260 := n0_; have HB := n1_; clear n0_ n1_; (try clear hb); (try clear hb2); (try clear hk); (try clear hi)
                           refine hK.out _ _ ⟨((HB.out.cell (World.block_lt_of_cell? w _ hw267_0)).trans hw267_0), ((HB.out.cell (World.block_lt_of_cell? w _ hw267_1)).trans hw267_1), ((HB.out.cell (World.block_lt_of_cell? w _ hw269_0)).trans hw269_0), ((HB.out.cell (World.block_lt_of_cell? w _ hw269_1)).trans hw269_1)⟩ (fun hHeld => ?_)
                           clear hK K
                           refine norm_ (a' := ?_) ?_ ?_
                           rotate_left
                           ·show Act.put _ (some 69) _ = _
                            simp only [Act.put, List.setIfInBounds_toArray, List.set_cons_zero, List.set_cons_succ, i64_w, i32_w]
                            rfl
                           refine pure_ (i := 8) (N := some 70) (v := ?_) (a' := ?_) #[true, true, true, true, true, true, true, true, true, false, true, true, true, true, true, false, false, false] rfl rfl (any_of HT_.out (by kernel_rfl)) (fun _ _ _ h => h) (Or.inl ⟨by rfl, ?_⟩) ?_ ?_
                           rotate_left
                           ·intro w'
                            go_simp
                            with_reducible rfl
                           rotate_left
                           ·simp only [Act.put, List.setIfInBounds_toArray, List.set_cons_zero, List.set_cons_succ, i64_w, i32_w]
                            rfl
                           refine pure_ (i := 9) (N := some 71) (v := ?_) (a' := ?_) #[true, true, true, true, true, true, true, true, true, true, true, true, true, true, true, false, false, false] rfl rfl (any_of HT_.out (by kernel_rfl)) (fun _ _ _ h => h) (Or.inl ⟨by rfl, ?_⟩) ?_ ?_
                           rotate_left
                           ·intro w'
                            go_simp
                            with_reducible rfl
                           rotate_left
                           ·simp only [Act.put, List.setIfInBounds_toArray, List.set_cons_zero, List.set_cons_succ, i64_w, i32_w]
                            rfl
                           refine one_ (i := 15) (N := some 77) #[true, true, true, true, true, true, true, true, true, true, true, true, true, true, true, true, false, false] rfl rfl (one_of HT_.out (by kernel_rfl)) (by decide) (fun K hK => ?_)
                           refine goes_ Tryd.func87 (by kernel_rfl) rfl #[.slice A267_1 ((rd_T96 (rd_L7 ((rd_T92 l0_2 x4_1).f1) x5_2) x7_3).f1).length c267_1] (by rfl) rfl rfl (by (try simp only [List.map_toArray, List.map_cons, List.map_nil]); first | done | rfl | (simp only [List.length_drop, List.length_take]; rfl)) ?_
                           with_reducible refine (logjamref36_shares.calls k3 _ _ ((rd_T96 (rd_L7 ((rd_T92 l0_2 x4_1).f1) x5_2) x7_3).f1) t270 _ ?side1 ?side2 A30.out).mono ?_
                           (case side1 => repeat (first | exact (Kd.C_below HR269_1.out HB.out) | (with_reducible refine Kd.C_alloc ?_ _) | (with_reducible refine Kd.C_drewN ?_ _) | (with_reducible refine Kd.C_drew ?_)))
                           (case side2 => exact HC269_1.out)
                           rintro e w34 ⟨rfl, hb⟩
                           refine ⟨_, rfl, ?_⟩
                           have n0_ := Aside0.mk (blk_below (g := gb260) (o := .cells #[.int .i64 a0_0, .slice (some ad262) l0_1.length c0_1, .slice (some ad264) l0_2.length c0_2] 25 (0, 0)) (by (with_reducible repeat (first | refine blk_drewN ?_ _ | refine blk_drew ?_ | refine blk_alloc ?_ _)); exact BK260.out) hb)
                           have n1_ := Aside0.mk (below_step (by repeat (first | (with_reducible first | exact HB.out | apply below_alloc | apply pw_below_drewN | apply below_drew1 | refine below_set ?_ GE260.out) | exact HB.out)) hb)
                           clear BK260; clear HB; have BK260 := n0_; have HB := n1_; clear n0_ n1_; (try clear hb); (try clear hb2); (try clear hk); (try clear hi)
                           refine hK.out _ _ ⟨((HB.out.cell (World.block_lt_of_cell? w _ hw267_0)).trans hw267_0), ((HB.out.cell (World.block_lt_of_cell? w _ hw267_1)).trans hw267_1), ((HB.out.cell (World.block_lt_of_cell? w _ hw269_0)).trans hw269_0), ((HB.out.cell (World.block_lt_of_cell? w _ hw269_1)).trans hw269_1)⟩ (fun hHeld => ?_)
                           clear hK K
                           refine norm_ (a' := ?_) ?_ ?_
                           rotate_left
                           ·show Act.put _ (some 77) _ = _
                            simp only [Act.put, List.setIfInBounds_toArray, List.set_cons_zero, List.set_cons_succ, i64_w, i32_w]
                            rfl
                           refine pure_ (i := 16) (N := some 78) (v := ?_) (a' := ?_) #[true, true, true, true, true, true, true, true, true, true, true, true, true, true, true, true, true, false] rfl rfl (any_of HT_.out (by kernel_rfl)) (fun _ _ _ h => h) (Or.inl ⟨by rfl, ?_⟩) ?_ ?_
                           rotate_left
                           ·intro w'
                            go_simp
                            with_reducible rfl
                           rotate_left
                           ·simp only [Act.put, List.setIfInBounds_toArray, List.set_cons_zero, List.set_cons_succ, i64_w, i32_w]
                            rfl
                           refine pure_ (i := 17) (N := some 3) (v := ?_) (a' := ?_) #[true, true, true, true, true, true, true, true, true, true, true, true, true, true, true, true, true, true] rfl rfl (any_of HT_.out (by kernel_rfl)) (fun _ _ _ h => h) (Or.inl ⟨by rfl, ?_⟩) ?_ ?_
                           rotate_left
                           ·intro w'
                            go_simp
                            with_reducible rfl
                           rotate_left
                           ·simp only [Act.put, List.setIfInBounds_toArray, List.set_cons_zero, List.set_cons_succ, i64_w, i32_w]
                            rfl
                           refine done_ (done_of HT_.out (by kernel_rfl)) ?_
                           try go_wp2
                           go_roundg k3
                           case measure => have := HK1.out; have := HK2.out; have := HK3.out; omega
                           case rel => exact ⟨(((((x3_3 ++ (⟨#[32, 43]⟩ : ByteArray)) ++ (⟨#[32]⟩ : ByteArray)) ++ t268) ++ (⟨#[32, 111, 102, 32]⟩ : ByteArray)) ++ t270), (wrap64 (x7_3 + 1)), (by first | rfl | (simp; done) | (simp only [emptyNe_, emptyEq_]; done) | (simp [*]; done)), (by first | rfl | (simp; done) | (simp only [emptyNe_, emptyEq_]; done) | (simp [*]; done)), H', ⟨by have := HK1.out; have := HK2.out; have := HK3.out; omega⟩, ⟨by (with_reducible repeat (first | refine blk_drewN ?_ _ | refine blk_drew ?_ | refine blk_alloc ?_ _)); exact BK260.out⟩, ⟨by repeat (first | (with_reducible first | exact HB.out | apply below_alloc | apply pw_below_drewN | apply below_drew1 | refine below_set ?_ GE260.out) | exact HB.out)⟩⟩
                          ·rw [if_neg c31] at H
                           exact absurd H (by simp)
                         ·rw [if_neg c29] at H
                          exact absurd H (by simp)
                        ·rw [if_neg c28] at H
                         exact absurd H (by simp)
                       ·rw [if_neg c26] at H
                        exact absurd H (by simp)
                      ·rw [if_neg c25] at H
                       exact absurd H (by simp)
                     ·rw [if_neg c24] at H
                      exact absurd H (by simp)
                    ·rw [if_neg c23] at H
                     have c23b0 : decide (0 < x7_3) = false := decide_eq_false c23
                     clear c23
                     by_cases c35 : x3_3.size + 1 ≤ 9223372036854775807
                     ·rw [if_pos c35] at H
                      have c35b0 := eq_true c35
                      have c35b1 : decide (x3_3.size + 1 ≤ 9223372036854775807) = true := decide_eq_true c35
                      try have c35b2 : (9223372036854775807 < x3_3.size + 1) = False := eq_false (Nat.not_lt.2 c35)
                      by_cases c36 : 0 ≤ x7_3
                      ·rw [if_pos c36] at H
                       have c36b0 : decide (0 ≤ x7_3) = true := decide_eq_true c36
                       clear c36
                       replace H := Option.bind_eq_some_iff.mp H
                       obtain ⟨t272, A370, H⟩ := H
                       replace H : (if x3_3.size + 1 + t272.size ≤ 9223372036854775807 then (if x3_3.size + 1 + t272.size + 4 ≤ 9223372036854775807 then ((logjamref36_shares.f k3 ((rd_T96 (rd_L7 ((rd_T92 l0_2 x4_1).f1) x5_2) x7_3).f1)).bind fun t274 => (if x3_3.size + 1 + t272.size + 4 + t274.size ≤ 9223372036854775807 then (logjamref36_Text.l2 k3 ((((x3_3 ++ (⟨#[32]⟩ : ByteArray)) ++ t272) ++ (⟨#[32, 111, 102, 32]⟩ : ByteArray)) ++ t274) x4_1 x5_2 (rd_L7 ((rd_T92 l0_2 x4_1).f1) x5_2) (wrap64 (x7_3 + 1)) a0_0 l0_1 l0_2) else (none))) else (none)) else (none)) = some r := H
                       have A37 := Aside0.mk A370
                       clear A370
                       by_cases c38 : x3_3.size + 1 + t272.size ≤ 9223372036854775807
                       ·rw [if_pos c38] at H
                        have c38b0 := eq_true c38
                        have c38b1 : decide (x3_3.size + 1 + t272.size ≤ 9223372036854775807) = true := decide_eq_true c38
                        try have c38b2 : (9223372036854775807 < x3_3.size + 1 + t272.size) = False := eq_false (Nat.not_lt.2 c38)
                        by_cases c39 : x3_3.size + 1 + t272.size + 4 ≤ 9223372036854775807
                        ·rw [if_pos c39] at H
                         have c39b0 := eq_true c39
                         have c39b1 : decide (x3_3.size + 1 + t272.size + 4 ≤ 9223372036854775807) = true := decide_eq_true c39
                         try have c39b2 : (9223372036854775807 < x3_3.size + 1 + t272.size + 4) = False := eq_false (Nat.not_lt.2 c39)
                         replace H := Option.bind_eq_some_iff.mp H
                         obtain ⟨t274, A400, H⟩ := H
                         replace H : (if x3_3.size + 1 + t272.size + 4 + t274.size ≤ 9223372036854775807 then (logjamref36_Text.l2 k3 ((((x3_3 ++ (⟨#[32]⟩ : ByteArray)) ++ t272) ++ (⟨#[32, 111, 102, 32]⟩ : ByteArray)) ++ t274) x4_1 x5_2 (rd_L7 ((rd_T92 l0_2 x4_1).f1) x5_2) (wrap64 (x7_3 + 1)) a0_0 l0_1 l0_2) else (none)) = some r := H
                         have A40 := Aside0.mk A400
                         clear A400
                         by_cases c41 : x3_3.size + 1 + t272.size + 4 + t274.size ≤ 9223372036854775807
                         ·rw [if_pos c41] at H
                          have c41b0 := eq_true c41
                          have c41b1 : decide (x3_3.size + 1 + t272.size + 4 + t274.size ≤ 9223372036854775807) = true := decide_eq_true c41
                          try have c41b2 : (9223372036854775807 < x3_3.size + 1 + t272.size + 4 + t274.size) = False := eq_false (Nat.not_lt.2 c41)
                          have H' := Aside0.mk H
                          clear H
                          try go_wp2
                          have n0_ := Aside0.mk (blk_drew BK260.out)
                          have n1_ := Aside0.mk (below_drew1 HB.out)
                          clear BK260; clear HB; have BK260 := n0_; have HB := n1_; clear n0_ n1_
                          have p271 : 0 ≤ (x7_3 : Int) := of_decide_eq_true (by first | (with_reducible assumption) | assumption)
                          have q271 : x7_3 < ((rd_L7 ((rd_T92 l0_2 x4_1).f1) x5_2).length : Int) := of_decide_eq_true (by first | (with_reducible assumption) | assumption)
                          obtain ⟨ad271, A271_1, c271_1, e271, hx271_0, hx271_1, hl271_1, hi271_1⟩ := at_T96 HR266_0.out x7_3 p271 q271
                          have hw271_1 := hx271_1
                          have hw271_0 := hx271_0
                          cases e271
                          replace hx271_0 := (HB.out.cell (World.block_lt_of_cell? w _ hx271_0)).trans hx271_0
                          replace hx271_1 := (HB.out.cell (World.block_lt_of_cell? w _ hx271_1)).trans hx271_1
                          have HR271_1 := Aside0.mk hi271_1
                          have HC271_1 := Aside0.mk hl271_1
                          clear hi271_1 hl271_1
                          replace p271 := eq_true p271
                          replace q271 := eq_true q271
                          have p273 : 0 ≤ (x7_3 : Int) := of_decide_eq_true (by first | (with_reducible assumption) | assumption)
                          have q273 : x7_3 < ((rd_L7 ((rd_T92 l0_2 x4_1).f1) x5_2).length : Int) := of_decide_eq_true (by first | (with_reducible assumption) | assumption)
                          obtain ⟨ad273, A273_1, c273_1, e273, hx273_0, hx273_1, hl273_1, hi273_1⟩ := at_T96 HR266_0.out x7_3 p273 q273
                          have hw273_1 := hx273_1
                          have hw273_0 := hx273_0
                          obtain rfl : ad271 = ad273 := (by injection e273)
                          replace hx273_0 := (HB.out.cell (World.block_lt_of_cell? w _ hx273_0)).trans hx273_0
                          replace hx273_1 := (HB.out.cell (World.block_lt_of_cell? w _ hx273_1)).trans hx273_1
                          have HR273_1 := Aside0.mk hi273_1
                          have HC273_1 := Aside0.mk hl273_1
                          clear hi273_1 hl273_1
                          replace p273 := eq_true p273
                          replace q273 := eq_true q273
                          have ea_ := Option.some.inj (hx271_1.symm.trans hx273_1)
                          injection ea_ with ea_ en_ ec_
                          subst ea_
                          subst ec_
                          clear en_
                          refine start_ (n := 18) (S := fun w' => w'.cell? (ad271.add ((x7_3).toNat * 2)) = some (.int .i64 ((rd_T96 (rd_L7 ((rd_T92 l0_2 x4_1).f1) x5_2) x7_3).f0)) ∧ w'.cell? ⟨(ad271.add ((x7_3).toNat * 2)).block, (ad271.add ((x7_3).toNat * 2)).off + 1, none⟩ = some (.slice A271_1 ((rd_T96 (rd_L7 ((rd_T92 l0_2 x4_1).f1) x5_2) x7_3).f1).length c271_1) ∧ w'.cell? (ad271.add ((x7_3).toNat * 2)) = some (.int .i64 ((rd_T96 (rd_L7 ((rd_T92 l0_2 x4_1).f1) x5_2) x7_3).f0)) ∧ w'.cell? ⟨(ad271.add ((x7_3).toNat * 2)).block, (ad271.add ((x7_3).toNat * 2)).off + 1, none⟩ = some (.slice A271_1 ((rd_T96 (rd_L7 ((rd_T92 l0_2 x4_1).f1) x5_2) x7_3).f1).length c271_1)) (ds := []) #[false, false, false, false, false, false, false, false, false, false, false, false, false, false, false, false, false, false] (by kernel_rfl) rfl rfl ⟨((HB.out.cell (World.block_lt_of_cell? w _ hw271_0)).trans hw271_0), ((HB.out.cell (World.block_lt_of_cell? w _ hw271_1)).trans hw271_1), ((HB.out.cell (World.block_lt_of_cell? w _ hw273_0)).trans hw273_0), ((HB.out.cell (World.block_lt_of_cell? w _ hw273_1)).trans hw273_1)⟩ (fun hHeld => ?_); refine with_tabW logjamref36_Text.tab16 logjamref36_Text.bits16 (fun HT_ HW_ => ?_)
                          generalize wr.drew = w42 at BK260 HB HR271_1 HR273_1 hx271_0 hx271_1 hx273_0 hx273_1 hHeld ⊢
                          refine pure_ (i := 0) (N := some 62) (v := ?_) (a' := ?_) #[true, false, false, false, false, false, false, false, false, false, false, false, false, false, false, false, false, false] rfl rfl (any_of HT_.out (by kernel_rfl)) (fun _ _ _ h => h) (Or.inl ⟨by rfl, ?_⟩) ?_ ?_
                          rotate_left
                          ·intro w'
                           go_simp
                           with_reducible rfl
                          rotate_left
                          ·simp only [Act.put, List.setIfInBounds_toArray, List.set_cons_zero, List.set_cons_succ, i64_w, i32_w]
                           rfl
                          refine pure_ (i := 1) (N := some 63) (v := ?_) (a' := ?_) #[true, true, false, false, false, false, false, false, false, false, false, false, false, false, false, false, false, false] rfl rfl (any_of HT_.out (by kernel_rfl)) (fun _ _ _ h => h) (Or.inl ⟨by rfl, ?_⟩) ?_ ?_
                          rotate_left
                          ·intro w'
                           go_simp
                           with_reducible rfl
                          rotate_left
                          ·simp only [Act.put, List.setIfInBounds_toArray, List.set_cons_zero, List.set_cons_succ, i64_w, i32_w]
                           rfl
                          refine pure_ (i := 2) (N := some 64) (v := ?_) (a' := ?_) #[true, true, true, false, false, false, false, false, false, false, false, false, false, false, false, false, false, false] rfl rfl (any_of HT_.out (by kernel_rfl)) (fun _ _ _ h => h) (Or.inl ⟨by rfl, ?_⟩) ?_ ?_
                          rotate_left
                          ·intro w'
                           go_simp
                           with_reducible rfl
                          rotate_left
                          ·simp only [Act.put, List.setIfInBounds_toArray, List.set_cons_zero, List.set_cons_succ, i64_w, i32_w]
                           rfl
                          refine pure_ (i := 3) (N := some 65) (v := ?_) (a' := ?_) #[true, true, true, true, false, false, false, false, false, false, false, false, false, false, false, false, false, false] rfl rfl (any_of HT_.out (by kernel_rfl)) (fun _ _ _ h => h) (Or.inl ⟨by rfl, ?_⟩) ?_ ?_
                          rotate_left
                          ·intro w'
                           go_simp
                           with_reducible rfl
                          rotate_left
                          ·simp only [Act.put, List.setIfInBounds_toArray, List.set_cons_zero, List.set_cons_succ, i64_w, i32_w]
                           rfl
                          refine pure_ (i := 4) (N := some 66) (v := ?_) (a' := ?_) #[true, true, true, true, true, false, false, false, false, false, false, false, false, false, false, false, false, false] rfl rfl (any_of HT_.out (by kernel_rfl)) (fun _ _ _ h => h) (Or.inl ⟨by rfl, ?_⟩) ?_ ?_
                          rotate_left
                          ·intro w'
                           go_simp
                           with_reducible rfl
                          rotate_left
                          ·simp only [Act.put, List.setIfInBounds_toArray, List.set_cons_zero, List.set_cons_succ, i64_w, i32_w]
                           rfl
                          refine pure_ (i := 5) (N := some 67) (v := ?_) (a' := ?_) #[true, true, true, true, true, true, false, false, false, false, false, false, false, false, false, false, false, false] rfl rfl (any_of HT_.out (by kernel_rfl)) (fun _ _ _ h => h) (Or.inl ⟨by rfl, ?_⟩) ?_ ?_
                          rotate_left
                          ·intro w'
                           go_simp
                           with_reducible rfl
                          rotate_left
                          ·simp only [Act.put, List.setIfInBounds_toArray, List.set_cons_zero, List.set_cons_succ, i64_w, i32_w]
                           rfl
                          refine pure_ (i := 10) (N := some 72) (v := ?_) (a' := ?_) #[true, true, true, true, true, true, false, false, false, false, true, false, false, false, false, false, false, false] rfl rfl (any_of HT_.out (by kernel_rfl)) (fun _ _ _ h => h) (Or.inl ⟨by rfl, ?_⟩) ?_ ?_
                          rotate_left
                          ·intro w'
                           go_simp
                           with_reducible rfl
                          rotate_left
                          ·simp only [Act.put, List.setIfInBounds_toArray, List.set_cons_zero, List.set_cons_succ, i64_w, i32_w]
                           rfl
                          refine pure_ (i := 11) (N := some 73) (v := ?_) (a' := ?_) #[true, true, true, true, true, true, false, false, false, false, true, true, false, false, false, false, false, false] rfl rfl (any_of HT_.out (by kernel_rfl)) (fun _ _ _ h => h) (Or.inl ⟨by rfl, ?_⟩) ?_ ?_
                          rotate_left
                          ·intro w'
                           go_simp
                           with_reducible rfl
                          rotate_left
                          ·simp only [Act.put, List.setIfInBounds_toArray, List.set_cons_zero, List.set_cons_succ, i64_w, i32_w]
                           rfl
                          refine pure_ (i := 12) (N := some 74) (v := ?_) (a' := ?_) #[true, true, true, true, true, true, false, false, false, false, true, true, true, false, false, false, false, false] rfl rfl (any_of HT_.out (by kernel_rfl)) (fun _ _ _ h => h) (Or.inl ⟨by rfl, ?_⟩) ?_ ?_
                          rotate_left
                          ·intro w'
                           go_simp
                           with_reducible rfl
                          rotate_left
                          ·simp only [Act.put, List.setIfInBounds_toArray, List.set_cons_zero, List.set_cons_succ, i64_w, i32_w]
                           rfl
                          refine pure_ (i := 13) (N := some 75) (v := ?_) (a' := ?_) #[true, true, true, true, true, true, false, false, false, false, true, true, true, true, false, false, false, false] rfl rfl (any_of HT_.out (by kernel_rfl)) (fun _ _ _ h => h) (Or.inl ⟨by rfl, ?_⟩) ?_ ?_
                          rotate_left
                          ·intro w'
                           go_simp
                           with_reducible rfl
                          rotate_left
                          ·simp only [Act.put, List.setIfInBounds_toArray, List.set_cons_zero, List.set_cons_succ, i64_w, i32_w]
                           rfl
                          refine take_ (i := 6) (N := some 68) (v := ?_) (a' := ?_) #[true, true, true, true, true, true, true, false, false, false, true, true, true, true, false, false, false, false] rfl rfl (take_ofW HT_.out HW_.out (by kernel_rfl)) (fun _ _ _ h => h) (Or.inl ⟨by rfl, ?_⟩) hHeld ?_ ?_
                          rotate_left
                          ·rintro w' ⟨s0, s1, s2, s3⟩
                           go_simp
                           with_reducible rfl
                          rotate_left
                          ·simp only [Act.put, List.setIfInBounds_toArray, List.set_cons_zero, List.set_cons_succ, i64_w, i32_w]
                           rfl
                          refine take_ (i := 14) (N := some 76) (v := ?_) (a' := ?_) #[true, true, true, true, true, true, true, false, false, false, true, true, true, true, true, false, false, false] rfl rfl (take_ofW HT_.out HW_.out (by kernel_rfl)) (fun _ _ _ h => h) (Or.inl ⟨by rfl, ?_⟩) hHeld ?_ ?_
                          rotate_left
                          ·rintro w' ⟨s0, s1, s2, s3⟩
                           go_simp
                           with_reducible rfl
                          rotate_left
                          ·simp only [Act.put, List.setIfInBounds_toArray, List.set_cons_zero, List.set_cons_succ, i64_w, i32_w]
                           rfl
                          refine one_ (i := 7) (N := some 69) #[true, true, true, true, true, true, true, true, false, false, true, true, true, true, true, false, false, false] rfl rfl (one_of HT_.out (by kernel_rfl)) (by decide) (fun K hK => ?_)
                          refine goes_ Tryd.func86 (by kernel_rfl) rfl #[.int .i64 ((rd_T96 (rd_L7 ((rd_T92 l0_2 x4_1).f1) x5_2) x7_3).f0)] (by rfl) rfl rfl (by (try simp only [List.map_toArray, List.map_cons, List.map_nil]); first | done | rfl | (simp only [List.length_drop, List.length_take]; rfl)) ?_
                          with_reducible refine (logjamref09_Int.calls k3 ((rd_T96 (rd_L7 ((rd_T92 l0_2 x4_1).f1) x5_2) x7_3).f0) t272 _ A37.out).mono ?_
                          rintro e w43 ⟨rfl, hb⟩
                          refine ⟨_, rfl, ?_⟩
                          have n0_ := Aside0.mk (blk_below (g := gb260) (o := .cells #[.int .i64 a0_0, .slice (some ad262) l0_1.length c0_1, .slice (some ad264) l0_2.length c0_2] 25 (0, 0)) (by (with_reducible repeat (first | refine blk_drewN ?_ _ | refine blk_drew ?_ | refine blk_alloc ?_ _)); exact BK260.out) hb)
                          have n1_ := Aside0.mk (below_step (by repeat (first | (with_reducible first | exact HB.out | apply below_alloc | apply pw_below_drewN | apply below_drew1 | refine below_set ?_ GE260.out) | exact HB.out)) hb)
                          clear BK260; clear HB; have BK260 := n0_; have HB := n1_; clear n0_ n1_; (try clear hb); (try clear hb2); (try clear hk); (try clear hi)
                          refine hK.out _ _ ⟨((HB.out.cell (World.block_lt_of_cell? w _ hw271_0)).trans hw271_0), ((HB.out.cell (World.block_lt_of_cell? w _ hw271_1)).trans hw271_1), ((HB.out.cell (World.block_lt_of_cell? w _ hw273_0)).trans hw273_0), ((HB.out.cell (World.block_lt_of_cell? w _ hw273_1)).trans hw273_1)⟩ (fun hHeld => ?_)
                          clear hK K
                          refine norm_ (a' := ?_) ?_ ?_
                          rotate_left
                          ·show Act.put _ (some 69) _ = _
                           simp only [Act.put, List.setIfInBounds_toArray, List.set_cons_zero, List.set_cons_succ, i64_w, i32_w]
                           rfl
                          refine pure_ (i := 8) (N := some 70) (v := ?_) (a' := ?_) #[true, true, true, true, true, true, true, true, true, false, true, true, true, true, true, false, false, false] rfl rfl (any_of HT_.out (by kernel_rfl)) (fun _ _ _ h => h) (Or.inl ⟨by rfl, ?_⟩) ?_ ?_
                          rotate_left
                          ·intro w'
                           go_simp
                           with_reducible rfl
                          rotate_left
                          ·simp only [Act.put, List.setIfInBounds_toArray, List.set_cons_zero, List.set_cons_succ, i64_w, i32_w]
                           rfl
                          refine pure_ (i := 9) (N := some 71) (v := ?_) (a' := ?_) #[true, true, true, true, true, true, true, true, true, true, true, true, true, true, true, false, false, false] rfl rfl (any_of HT_.out (by kernel_rfl)) (fun _ _ _ h => h) (Or.inl ⟨by rfl, ?_⟩) ?_ ?_
                          rotate_left
                          ·intro w'
                           go_simp
                           with_reducible rfl
                          rotate_left
                          ·simp only [Act.put, List.setIfInBounds_toArray, List.set_cons_zero, List.set_cons_succ, i64_w, i32_w]
                           rfl
                          refine one_ (i := 15) (N := some 77) #[true, true, true, true, true, true, true, true, true, true, true, true, true, true, true, true, false, false] rfl rfl (one_of HT_.out (by kernel_rfl)) (by decide) (fun K hK => ?_)
                          refine goes_ Tryd.func87 (by kernel_rfl) rfl #[.slice A271_1 ((rd_T96 (rd_L7 ((rd_T92 l0_2 x4_1).f1) x5_2) x7_3).f1).length c271_1] (by rfl) rfl rfl (by (try simp only [List.map_toArray, List.map_cons, List.map_nil]); first | done | rfl | (simp only [List.length_drop, List.length_take]; rfl)) ?_
                          with_reducible refine (logjamref36_shares.calls k3 _ _ ((rd_T96 (rd_L7 ((rd_T92 l0_2 x4_1).f1) x5_2) x7_3).f1) t274 _ ?side1 ?side2 A40.out).mono ?_
                          (case side1 => repeat (first | exact (Kd.C_below HR273_1.out HB.out) | (with_reducible refine Kd.C_alloc ?_ _) | (with_reducible refine Kd.C_drewN ?_ _) | (with_reducible refine Kd.C_drew ?_)))
                          (case side2 => exact HC273_1.out)
                          rintro e w44 ⟨rfl, hb⟩
                          refine ⟨_, rfl, ?_⟩
                          have n0_ := Aside0.mk (blk_below (g := gb260) (o := .cells #[.int .i64 a0_0, .slice (some ad262) l0_1.length c0_1, .slice (some ad264) l0_2.length c0_2] 25 (0, 0)) (by (with_reducible repeat (first | refine blk_drewN ?_ _ | refine blk_drew ?_ | refine blk_alloc ?_ _)); exact BK260.out) hb)
                          have n1_ := Aside0.mk (below_step (by repeat (first | (with_reducible first | exact HB.out | apply below_alloc | apply pw_below_drewN | apply below_drew1 | refine below_set ?_ GE260.out) | exact HB.out)) hb)
                          clear BK260; clear HB; have BK260 := n0_; have HB := n1_; clear n0_ n1_; (try clear hb); (try clear hb2); (try clear hk); (try clear hi)
                          refine hK.out _ _ ⟨((HB.out.cell (World.block_lt_of_cell? w _ hw271_0)).trans hw271_0), ((HB.out.cell (World.block_lt_of_cell? w _ hw271_1)).trans hw271_1), ((HB.out.cell (World.block_lt_of_cell? w _ hw273_0)).trans hw273_0), ((HB.out.cell (World.block_lt_of_cell? w _ hw273_1)).trans hw273_1)⟩ (fun hHeld => ?_)
                          clear hK K
                          refine norm_ (a' := ?_) ?_ ?_
                          rotate_left
                          ·show Act.put _ (some 77) _ = _
                           simp only [Act.put, List.setIfInBounds_toArray, List.set_cons_zero, List.set_cons_succ, i64_w, i32_w]
                           rfl
                          refine pure_ (i := 16) (N := some 78) (v := ?_) (a' := ?_) #[true, true, true, true, true, true, true, true, true, true, true, true, true, true, true, true, true, false] rfl rfl (any_of HT_.out (by kernel_rfl)) (fun _ _ _ h => h) (Or.inl ⟨by rfl, ?_⟩) ?_ ?_
                          rotate_left
                          ·intro w'
                           go_simp
                           with_reducible rfl
                          rotate_left
                          ·simp only [Act.put, List.setIfInBounds_toArray, List.set_cons_zero, List.set_cons_succ, i64_w, i32_w]
                           rfl
                          refine pure_ (i := 17) (N := some 3) (v := ?_) (a' := ?_) #[true, true, true, true, true, true, true, true, true, true, true, true, true, true, true, true, true, true] rfl rfl (any_of HT_.out (by kernel_rfl)) (fun _ _ _ h => h) (Or.inl ⟨by rfl, ?_⟩) ?_ ?_
                          rotate_left
                          ·intro w'
                           go_simp
                           with_reducible rfl
                          rotate_left
                          ·simp only [Act.put, List.setIfInBounds_toArray, List.set_cons_zero, List.set_cons_succ, i64_w, i32_w]
                           rfl
                          refine done_ (done_of HT_.out (by kernel_rfl)) ?_
                          try go_wp2
                          go_roundg k3
                          case measure => have := HK1.out; have := HK2.out; have := HK3.out; omega
                          case rel => exact ⟨((((x3_3 ++ (⟨#[32]⟩ : ByteArray)) ++ t272) ++ (⟨#[32, 111, 102, 32]⟩ : ByteArray)) ++ t274), (wrap64 (x7_3 + 1)), (by first | rfl | (simp; done) | (simp only [emptyNe_, emptyEq_]; done) | (simp [*]; done)), (by first | rfl | (simp; done) | (simp only [emptyNe_, emptyEq_]; done) | (simp [*]; done)), H', ⟨by have := HK1.out; have := HK2.out; have := HK3.out; omega⟩, ⟨by (with_reducible repeat (first | refine blk_drewN ?_ _ | refine blk_drew ?_ | refine blk_alloc ?_ _)); exact BK260.out⟩, ⟨by repeat (first | (with_reducible first | exact HB.out | apply below_alloc | apply pw_below_drewN | apply below_drew1 | refine below_set ?_ GE260.out) | exact HB.out)⟩⟩
                         ·rw [if_neg c41] at H
                          exact absurd H (by simp)
                        ·rw [if_neg c39] at H
                         exact absurd H (by simp)
                       ·rw [if_neg c38] at H
                        exact absurd H (by simp)
                      ·rw [if_neg c36] at H
                       exact absurd H (by simp)
                     ·rw [if_neg c35] at H
                      exact absurd H (by simp)
                   ·rw [if_neg c22] at H
                    have c22b0 : decide (x7_3 < ((rd_L7 ((rd_T92 l0_2 x4_1).f1) x5_2).length : Int)) = false := decide_eq_false c22
                    clear c22
                    by_cases c45 : x3_3.size + 1 ≤ 9223372036854775807
                    ·rw [if_pos c45] at H
                     have c45b0 := eq_true c45
                     have c45b1 : decide (x3_3.size + 1 ≤ 9223372036854775807) = true := decide_eq_true c45
                     try have c45b2 : (9223372036854775807 < x3_3.size + 1) = False := eq_false (Nat.not_lt.2 c45)
                     have H' := Aside0.mk H
                     clear H
                     go_wp2
                     go_roundg k3
                     case measure => have := HK1.out; have := HK2.out; have := HK3.out; omega
                     case rel => exact ⟨(x3_3 ++ (⟨#[10]⟩ : ByteArray)), (wrap64 (x5_2 + 1)), (by first | rfl | (simp; done) | (simp only [emptyNe_, emptyEq_]; done) | (simp [*]; done)), (by first | rfl | (simp; done) | (simp only [emptyNe_, emptyEq_]; done) | (simp [*]; done)), H', ⟨by have := HK1.out; have := HK2.out; have := HK3.out; omega⟩, ⟨by (with_reducible repeat (first | refine blk_drewN ?_ _ | refine blk_drew ?_ | refine blk_alloc ?_ _)); exact BK260.out⟩, ⟨by repeat (first | (with_reducible first | exact HB.out | apply below_alloc | apply pw_below_drewN | apply below_drew1 | refine below_set ?_ GE260.out) | exact HB.out)⟩⟩
                    ·rw [if_neg c45] at H
                     exact absurd H (by simp)
                ·rw [if_neg c20] at H
                 exact absurd H (by simp)
               ·rw [if_neg c19] at H
                exact absurd H (by simp)
              ·rw [if_neg c18] at H
               have c18b0 : decide (x5_2 < (((rd_T92 l0_2 x4_1).f1).length : Int)) = false := decide_eq_false c18
               clear c18
               have H' := Aside0.mk H
               clear H
               have hcz46_0 : wr.cell? ⟨gb260, 0, none⟩ = some (.int .i64 a0_0) := (blk_cell BK260.out 0).trans rfl
               have hcz46_1 : wr.cell? ⟨gb260, 1, none⟩ = some (.slice (some ad262) l0_1.length c0_1) := (blk_cell BK260.out 1).trans rfl
               have hcz46_2 : wr.cell? ⟨gb260, 2, none⟩ = some (.slice A0_2 l0_2.length c0_2) := (blk_cell BK260.out 2).trans rfl
               have hfz46_0 := blk_frozen BK260.out 0
               have hfz46_1 := blk_frozen BK260.out 1
               have hfz46_2 := blk_frozen BK260.out 2
               have p264 : 0 ≤ (x4_1 : Int) := of_decide_eq_true (by first | (with_reducible assumption) | assumption)
               have q264 : x4_1 < (l0_2.length : Int) := of_decide_eq_true (by first | (with_reducible assumption) | assumption)
               obtain ⟨ad264, A264_1, c264_1, e264, hx264_0, hx264_1, hl264_1, hi264_1⟩ := at_T92 HR0_2.out x4_1 p264 q264
               cases e264
               replace hx264_0 := (HB.out.cell (World.block_lt_of_cell? w _ hx264_0)).trans hx264_0
               replace hx264_1 := (HB.out.cell (World.block_lt_of_cell? w _ hx264_1)).trans hx264_1
               have HR264_1 := Aside0.mk hi264_1
               have HC264_1 := Aside0.mk hl264_1
               clear hi264_1 hl264_1
               replace p264 := eq_true p264
               replace q264 := eq_true q264
               go_wp2
               go_roundg k2
               case measure => have := HK1.out; have := HK2.out; omega
               case rel => exact ⟨(x3_2), (wrap64 (x4_1 + 1)), (by first | rfl | (simp; done) | (simp only [emptyNe_, emptyEq_]; done) | (simp [*]; done)), (by first | rfl | (simp; done) | (simp only [emptyNe_, emptyEq_]; done) | (simp [*]; done)), H', ⟨by have := HK1.out; have := HK2.out; omega⟩, ⟨by (with_reducible repeat (first | refine blk_drewN ?_ _ | refine blk_drew ?_ | refine blk_alloc ?_ _)); exact BK260.out⟩, ⟨by repeat (first | (with_reducible first | exact HB.out | apply below_alloc | apply pw_below_drewN | apply below_drew1 | refine below_set ?_ GE260.out) | exact HB.out)⟩⟩
             ·rw [if_neg c17] at H
              exact absurd H (by simp)
            ·rw [if_neg c16] at H
             exact absurd H (by simp)
         ·rw [if_neg c13] at H
          exact absurd H (by simp)
        ·rw [if_neg c12] at H
         exact absurd H (by simp)
       ·rw [if_neg c10] at H
        exact absurd H (by simp)
      ·rw [if_neg c9] at H
       exact absurd H (by simp)
     ·rw [if_neg c8] at H
      have c8b0 : decide (x4_1 < (l0_1.length : Int)) = false := decide_eq_false c8
      clear c8
      by_cases c47 : x3_1.size + 4 ≤ 9223372036854775807
      ·rw [if_pos c47] at H
       have c47b0 := eq_true c47
       have c47b1 : decide (x3_1.size + 4 ≤ 9223372036854775807) = true := decide_eq_true c47
       try have c47b2 : (9223372036854775807 < x3_1.size + 4) = False := eq_false (Nat.not_lt.2 c47)
       obtain rfl := Option.some.inj H
       have hcz48_0 : wr.cell? ⟨gb260, 0, none⟩ = some (.int .i64 a0_0) := (blk_cell BK260.out 0).trans rfl
       have hcz48_1 : wr.cell? ⟨gb260, 1, none⟩ = some (.slice A0_1 l0_1.length c0_1) := (blk_cell BK260.out 1).trans rfl
       have hcz48_2 : wr.cell? ⟨gb260, 2, none⟩ = some (.slice A0_2 l0_2.length c0_2) := (blk_cell BK260.out 2).trans rfl
       have hfz48_0 := blk_frozen BK260.out 0
       have hfz48_1 := blk_frozen BK260.out 1
       have hfz48_2 := blk_frozen BK260.out 2
       go_wp2
       go_ret
       exact ⟨by first | rfl | (simp [errW_none, errW_some] <;> rfl) | (simp [*, errW_none, errW_some] <;> rfl), by repeat (first | (with_reducible first | exact HB.out | apply below_alloc | apply pw_below_drewN | apply below_drew1 | refine below_set ?_ GE260.out) | exact HB.out)⟩
      ·rw [if_neg c47] at H
       exact absurd H (by simp)
  ·rw [if_neg c4] at H
   exact absurd H (by simp)
 ·rw [if_neg c3] at H
  exact absurd H (by simp)
end Go.Proofs.YtadepdeckapgcaaDoor.PRp
end

section
namespace Go.Proofs.YtadepdeckapgcaaDoor.Rp
open Go.RowKit Go.Proofs.YtadepdeckapgcaaDoorW.PrintWords Go.Proofs.YtadepdeckapgcaaDoor.PRp Go.Proofs.YtadepdeckapgcaaDoor.Orc Go.Proofs.YtadepdeckapgcaaDoor
set_option linter.unusedVariables false
set_option linter.unusedSimpArgs false
theorem digit_of (u : Nat) (h : u < 10) : strOfNums [(wrap64 (48 + (u : Int))) % 256] = ⟨#[UInt8.ofNat (48 + u)]⟩ := by
  have e : (wrap64 (48 + (u : Int))) % 256 = ((48 + u : Nat) : Int) := by unfold wrap64; omega
  rw [e]; unfold strOfNums; simp only [List.map_cons, List.map_nil, Int.toNat_natCast]
theorem digits_ev (u : Nat) : u ≤ 9223372036854775807 → Ev (fun k => logjamref02_Digits.f k (u : Int)) ⟨(Lib.decDigits u).toArray⟩ := by
  induction u using Nat.strongRecOn with
  | _ u ih =>
    intro hu
    by_cases h : u < 10
    · refine Ev.step1 (fun k => ?_)
      simp only [logjamref02_Digits.f]
      rw [if_pos (by omega), digit_of u h, Lib.decDigits_one h]
    · have e1 : wrap64 (Int.tdiv (u : Int) 10) = ((u / 10 : Nat) : Int) := by
        rw [Int.tdiv_eq_ediv_of_nonneg (by omega)]; unfold wrap64; omega
      have e2 : Int.tmod (u : Int) 10 = ((u % 10 : Nat) : Int) := by rw [Int.tmod_eq_emod_of_nonneg (by omega)]; omega
      have hd := Lib.itoa_length_le ((u / 10 : Nat) : Int) (by omega) (by omega)
      rw [Lib.itoa_nonneg] at hd
      refine Ev.step (f := fun k => (logjamref02_Digits.f k ((u / 10 : Nat) : Int)).bind fun t151 => (some (([(wrap64 (48 + ((u % 10 : Nat) : Int))) % 256] : List Int) : List Int)).bind fun y152 => (if t151.size + (strOfNums y152).size ≤ 9223372036854775807 then (some (t151 ++ (strOfNums y152))) else (none))) (fun k => ?_) (Ev.bind (ih (u / 10) (by omega) (by omega)) (Ev.const fun k => ?_))
      · simp only [logjamref02_Digits.f]
        rw [if_neg (by omega), e1, e2]
      · have hs : (⟨(Lib.decDigits (u / 10)).toArray⟩ : ByteArray).size = (Lib.decDigits (u / 10)).length := by rw [Lib.size_eq]
        simp only [Option.bind_some]
        rw [digit_of (u % 10) (by omega), if_pos (by rw [hs]; show _ + 1 ≤ _; omega), decDigits_big h]
        exact congrArg some (ByteArray.ext (by simp))
theorem int_ev (n : Int) (h : in64 n) : Ev (fun k => logjamref09_Int.f k n) (itB n) := by
  unfold in64 at h
  by_cases h1 : n = -9223372036854775808
  · subst h1
    exact Ev.const fun k => by unfold logjamref09_Int.f; rw [if_pos rfl]; decide +kernel
  by_cases h2 : n < 0
  · have e : wrap64 (-n) = ((n.natAbs : Nat) : Int) := by unfold wrap64; omega
    have hd := Lib.itoa_length_le n h.1 h.2
    refine Ev.congr (f := fun k => (logjamref02_Digits.f k ((n.natAbs : Nat) : Int)).bind fun t155 => (if 1 + t155.size ≤ 9223372036854775807 then (some ((⟨#[45]⟩ : ByteArray) ++ t155)) else (none))) (fun k => by unfold logjamref09_Int.f; rw [if_neg h1, if_pos h2, e]) (Ev.bind (digits_ev n.natAbs (by omega)) (Ev.const fun k => ?_))
    have hs : (⟨(Lib.decDigits n.natAbs).toArray⟩ : ByteArray).size = (Lib.decDigits n.natAbs).length := by rw [Lib.size_eq]
    have hl : (Lib.itoa n).length = (Lib.decDigits n.natAbs).length + 1 := by unfold Lib.itoa; rw [if_pos h2]; simp
    rw [if_pos (by rw [hs]; omega)]
    congr 1
    apply ByteArray.ext
    unfold itB Lib.itoa
    rw [if_pos h2]
    simp
  · have e : n = ((n.toNat : Nat) : Int) := by omega
    refine Ev.congr (f := fun k => (logjamref02_Digits.f k ((n.toNat : Nat) : Int)).bind fun t156 => (some t156)) (fun k => by unfold logjamref09_Int.f; rw [if_neg h1, if_neg h2, ← e]) (Ev.bind (digits_ev n.toNat (by omega)) (Ev.const fun k => ?_))
    unfold itB Lib.itoa
    rw [if_neg h2]
theorem join_snoc (sep x : List UInt8) : ∀ ps : List (List UInt8), ps ≠ [] → Lib.join (ps ++ [x]) sep = Lib.join ps sep ++ (sep ++ x)
  | [], h => absurd rfl h
  | [p], _ => by rw [List.singleton_append, join_two, Lib.join_one, Lib.join_one]
  | p :: q :: r, _ => by rw [List.cons_append, List.cons_append, join_two, join_two, ← List.cons_append, join_snoc sep x (q :: r) (by simp)]; simp
theorem joinB_snoc (sep x : ByteArray) (ps : List ByteArray) (h : ps ≠ []) : joinB (ps ++ [x]) sep = (joinB ps sep ++ sep) ++ x := by
  apply data_inj
  rw [joinB_data, dat_app, dat_app, joinB_data, List.map_append]
  exact (join_snoc _ _ _ (by simpa using h)).trans (by simp)
theorem joinB_one (sep x : ByteArray) : joinB [x] sep = x := by apply data_inj; rw [joinB_data]; exact Lib.join_one _ _
theorem take_map_snoc {α β : Type} (f : α → β) (l : List α) (i : Nat) (h : i < l.length) : (l.take (i + 1)).map f = (l.take i).map f ++ [f l[i]] := by
  rw [List.take_succ_eq_append_getElem h, List.map_append]; rfl
theorem wr1 (i n : Nat) (h : i < n) (hn : n ≤ 1000000) : wrap64 ((i : Int) + 1) = ((i + 1 : Nat) : Int) := by unfold wrap64; omega
theorem rshares_l0 (l : List S108) (hl : l.length ≤ 1000) (hi : ∀ s ∈ l, InS s) : ∀ (d i : Nat), i + d = l.length →
    Ev (fun k => logjamref36_shares.l0 k l (joinB ((l.take i).map shB) sComma) (i : Int)) (sharesP l)
  | 0, i, hd => by
    rw [List.take_of_length_le (by omega)]
    refine Ev.step1 (fun k => ?_)
    simp only [logjamref36_shares.l0]
    unfold sharesP
    by_cases h : l.length = 0
    · rw [if_neg (by omega), if_pos (by omega), if_pos h]
    · rw [if_neg (by omega), if_neg (by omega), if_neg h]
  | d + 1, i, hd => by
    have hlt : i < l.length := by omega
    have hr : rd_T108 l (i : Int) = l[i] := by unfold rd_T108; simp [hlt]
    have hx := hi _ (List.getElem_mem hlt)
    have ha := itB_size _ hx.1; have hb := itB_size _ hx.2
    have ih := rshares_l0 l hl hi d (i + 1) (by omega)
    have q := joinB_size 50 sComma ((l.take i).map shB) (fun x hx => by
      obtain ⟨y, hy, rfl⟩ := List.mem_map.1 hx
      exact shB_size y (hi y (List.mem_of_mem_take hy)))
    rw [List.length_map, List.length_take, show sComma.size = 1 from rfl] at q
    have q : (joinB ((l.take i).map shB) sComma).size ≤ 51000 := by omega
    rw [take_map_snoc shB l i hlt] at ih
    by_cases h0 : i = 0
    · subst h0
      refine Ev.step (f := _) (fun k => by simp only [logjamref36_shares.l0]; rw [if_pos (by omega), if_neg (by omega), if_pos (by omega), hr, wr1 0 _ hlt (by omega)]) ?_
      refine Ev.bind (int_ev _ hx.1) ?_
      refine Ev.congr (f := _) (fun k => by rw [if_pos (by omega), if_pos (by omega)]) ?_
      refine Ev.bind (int_ev _ hx.2) ?_
      refine Ev.congr (f := _) (fun k => by rw [if_pos (by omega)]) ?_
      rw [List.take_zero, List.map_nil, List.nil_append, joinB_one] at ih
      exact ih
    · refine Ev.step (f := _) (fun k => by simp only [logjamref36_shares.l0]; rw [if_pos (by omega), if_pos (by omega), if_pos (by omega), if_pos (by omega), hr, wr1 i _ hlt (by omega)]) ?_
      refine Ev.bind (int_ev _ hx.1) ?_
      refine Ev.congr (f := _) (fun k => by rw [if_pos (by omega), if_pos (by omega)]) ?_
      refine Ev.bind (int_ev _ hx.2) ?_
      refine Ev.congr (f := _) (fun k => by rw [if_pos (by omega)]) ?_
      rw [joinB_snoc _ _ _ (fun q => h0 (by have q := congrArg List.length q; rw [List.length_map, List.length_take, List.length_nil] at q; omega))] at ih
      rw [show (((((joinB ((l.take i).map shB) sComma) ++ (⟨#[44]⟩ : ByteArray)) ++ itB l[i].f0) ++ (⟨#[58]⟩ : ByteArray)) ++ itB l[i].f1) = (joinB ((l.take i).map shB) sComma ++ sComma) ++ shB l[i] by unfold shB; apply data_inj; simp]
      exact ih
theorem rshares_ev (l : List S108) (hl : l.length ≤ 1000) (hi : ∀ s ∈ l, InS s) : Ev (fun k => logjamref36_shares.f k l) (sharesP l) := rshares_l0 l hl hi l.length 0 (Nat.zero_add _)
def wayA (w : List S96) (i : Nat) : ByteArray := if i = 0 then ⟨#[32, 32, 119, 97, 121]⟩ else sWay ++ joinB ((w.take i).map termB) sPlus
theorem wayA_size (w : List S96) (hw : InW w) (i : Nat) : (wayA w i).size ≤ 60000000 := by
  unfold wayA
  split
  · decide
  · have q := joinB_size 52000 sPlus ((w.take i).map termB) (fun x hx => by
      obtain ⟨y, hy, rfl⟩ := List.mem_map.1 hx
      exact termB_size y (hw.2 y (List.mem_of_mem_take hy)))
    rw [List.length_map, List.length_take, show sPlus.size = 3 from rfl] at q
    have hl := hw.1
    rw [ByteArray.size_append, show sWay.size = 6 from rfl]
    omega
section
variable (T : Int) (d : List Int) (n : List S92)
theorem rText_l2 (B : ByteArray) (hB : B.size ≤ 9000000000000000000) (x4 : Int) (j m : Nat) (hj : j < m) (hm : m ≤ 1000000) (w : List S96) (hw : InW w) (R : ByteArray) (hR : Ev (fun k => logjamref36_Text.l1 k (B ++ wayP w) x4 ((j + 1 : Nat) : Int) T d n) R) :
    ∀ (e i : Nat), i + e = w.length → Ev (fun k => logjamref36_Text.l2 k (B ++ wayA w i) x4 (j : Int) w (i : Int) T d n) R
  | 0, i, he => by
    have hs := wayA_size w hw i
    have hs2 : (B ++ wayA w i).size ≤ 9100000000000000000 := by rw [ByteArray.size_append]; omega
    refine Ev.step (f := _) (fun k => by simp only [logjamref36_Text.l2]; rw [if_neg (by omega), if_pos (by omega), wr1 j m hj hm]) ?_
    have e1 : (B ++ wayA w i) ++ (⟨#[10]⟩ : ByteArray) = B ++ wayP w := by
      obtain rfl : i = w.length := by omega
      rw [wayP_eq]; unfold wayA wayQ; rw [List.take_length]; apply data_inj; simp
    rw [e1]; exact hR
  | e + 1, i, he => by
    have hlt : i < w.length := by omega
    have hl := hw.1
    have hr : rd_T96 w (i : Int) = w[i] := by unfold rd_T96; simp [hlt]
    have hx := hw.2 _ (List.getElem_mem hlt)
    have ha := itB_size _ hx.1
    have hb := sharesP_size _ hx.2.1 hx.2.2
    have ih := rText_l2 B hB x4 j m hj hm w hw R hR e (i + 1) (by omega)
    have hs := wayA_size w hw i
    have hs2 : (B ++ wayA w i).size ≤ 9100000000000000000 := by rw [ByteArray.size_append]; omega
    have ht := take_map_snoc termB w i hlt
    by_cases h0 : i = 0
    · subst h0
      refine Ev.step (f := _) (fun k => by simp only [logjamref36_Text.l2]; rw [if_pos (by omega), if_neg (by omega), if_pos (by omega), if_pos (by omega), hr, wr1 0 _ hlt (by omega)]) ?_
      refine Ev.bind (int_ev _ hx.1) ?_
      refine Ev.congr (f := _) (fun k => by rw [if_pos (by omega), if_pos (by omega)]) ?_
      refine Ev.bind (rshares_ev _ hx.2.1 hx.2.2) ?_
      refine Ev.congr (f := _) (fun k => by rw [if_pos (by omega)]) ?_
      have e1 : B ++ wayA w 1 = (((((B ++ wayA w 0) ++ (⟨#[32]⟩ : ByteArray)) ++ itB w[0].f0) ++ (⟨#[32, 111, 102, 32]⟩ : ByteArray)) ++ sharesP w[0].f1) := by
        unfold wayA
        rw [if_neg (by omega), if_pos rfl, ht, List.take_zero, List.map_nil, List.nil_append, joinB_one]
        unfold termB; apply data_inj; simp
      rw [show (0 : Nat) + 1 = 1 from rfl, e1] at ih
      exact ih
    · refine Ev.step (f := _) (fun k => by simp only [logjamref36_Text.l2]; rw [if_pos (by omega), if_pos (by omega), if_pos (by omega), if_pos (by omega), if_pos (by omega), hr, wr1 i _ hlt (by omega)]) ?_
      refine Ev.bind (int_ev _ hx.1) ?_
      refine Ev.congr (f := _) (fun k => by rw [if_pos (by omega), if_pos (by omega)]) ?_
      refine Ev.bind (rshares_ev _ hx.2.1 hx.2.2) ?_
      refine Ev.congr (f := _) (fun k => by rw [if_pos (by omega)]) ?_
      have e1 : B ++ wayA w (i + 1) = ((((((B ++ wayA w i) ++ (⟨#[32, 43]⟩ : ByteArray)) ++ (⟨#[32]⟩ : ByteArray)) ++ itB w[i].f0) ++ (⟨#[32, 111, 102, 32]⟩ : ByteArray)) ++ sharesP w[i].f1) := by
        unfold wayA
        rw [if_neg (by omega), if_neg h0, ht, joinB_snoc _ _ _ (fun q => h0 (by have q := congrArg List.length q; rw [List.length_map, List.length_take, List.length_nil] at q; omega))]
        unfold termB; apply data_inj; simp
      rw [e1] at ih
      exact ih
theorem rText_l1 (hn : n.length ≤ 1000000) (i : Nat) (hi : i < n.length) (hw : ∀ w ∈ n[i].f1, InW w) (hl : n[i].f1.length ≤ 1000000) (R : ByteArray) : ∀ (e j : Nat) (A : ByteArray), j + e = n[i].f1.length →
    A.size + (waysL (n[i].f1.drop j)).length ≤ 8000000000000000000 → Ev (fun k => logjamref36_Text.l0 k (A ++ mkB (waysL (n[i].f1.drop j))) ((i + 1 : Nat) : Int) T d n) R →
    Ev (fun k => logjamref36_Text.l1 k A (i : Int) (j : Int) T d n) R
  | 0, j, A, he, hA, hR => by
    have hr : rd_T92 n (i : Int) = n[i] := by unfold rd_T92; simp [hi]
    refine Ev.step (f := _) (fun k => by simp only [logjamref36_Text.l1]; rw [if_pos (by omega), if_pos (by omega), hr, if_neg (by omega), wr1 i _ hi hn]) ?_
    rw [List.drop_of_length_le (by omega)] at hR
    rw [show A ++ mkB (waysL []) = A by apply data_inj; rw [dat_app, mkB_data]; simp [waysL]] at hR
    exact hR
  | e + 1, j, A, he, hA, hR => by
    have hr : rd_T92 n (i : Int) = n[i] := by unfold rd_T92; simp [hi]
    have hlt : j < n[i].f1.length := by omega
    have hr2 : rd_L7 n[i].f1 (j : Int) = n[i].f1[j] := by unfold rd_L7; simp [hlt]
    have hwj := hw _ (List.getElem_mem hlt)
    have hd : n[i].f1.drop j = n[i].f1[j] :: n[i].f1.drop (j + 1) := List.drop_eq_getElem_cons hlt
    rw [hd] at hA hR
    simp only [waysL, List.length_append] at hA
    have hz : (wayP n[i].f1[j]).size = (wayP n[i].f1[j]).data.toList.length := Lib.size_eq _
    have ih := rText_l1 hn i hi hw hl R e (j + 1) (A ++ wayP n[i].f1[j]) (by omega) (by rw [ByteArray.size_append]; omega) (by
      rw [show (A ++ wayP n[i].f1[j]) ++ mkB (waysL (n[i].f1.drop (j + 1))) = A ++ mkB (waysL (n[i].f1[j] :: n[i].f1.drop (j + 1))) by apply data_inj; rw [dat_app, dat_app, dat_app, mkB_data, mkB_data]; simp [waysL]]
      exact hR)
    refine Ev.step (f := _) (fun k => by simp only [logjamref36_Text.l1]; rw [if_pos (by omega), if_pos (by omega), hr, if_pos (by omega), if_pos (by omega), if_pos (by omega), hr2]) ?_
    exact rText_l2 T d n A (by omega) (i : Int) j _ hlt hl n[i].f1[j] hwj R ih n[i].f1[j].length 0 (Nat.zero_add _)
theorem rText_l0 (h : RpOk T d n) : ∀ (e i : Nat) (A : ByteArray), i + e = d.length → A.size + (bodyL (d.drop i) (n.drop i)).length ≤ 7000000000000000000 →
    Ev (fun k => logjamref36_Text.l0 k A (i : Int) T d n) ((A ++ mkB (bodyL (d.drop i) (n.drop i))) ++ (⟨#[101, 110, 100, 10]⟩ : ByteArray))
  | 0, i, A, he, hA => by
    refine Ev.step1 (fun k => ?_)
    simp only [logjamref36_Text.l0]
    rw [if_neg (by omega), if_pos (by omega), List.drop_of_length_le (by omega)]
    congr 1
    apply data_inj; rw [dat_app, dat_app, dat_app, mkB_data]; simp [bodyL]
  | e + 1, i, A, he, hA => by
    have hlt : i < d.length := by omega
    have hln := h.len; have hdl := h.dl
    have hi : i < n.length := by omega
    have ht := h.d _ (List.getElem_mem hlt)
    have hx := h.n _ (List.getElem_mem hi)
    have h64 : in64 d[i] := by unfold in64; omega
    have hr : rd d (i : Int) = d[i] := by unfold rd; simp [hlt]
    have hs := itB_size _ h64
    rw [List.drop_eq_getElem_cons hlt, List.drop_eq_getElem_cons hi] at hA ⊢
    simp only [bodyL, List.length_append] at hA ⊢
    have hz : ((sThread ++ itB d[i]) ++ sNl).data.toList.length = 7 + (itB d[i]).size + 1 := by rw [← Lib.size_eq, ByteArray.size_append, ByteArray.size_append]; rfl
    rw [hz] at hA
    refine Ev.step (f := _) (fun k => by simp only [logjamref36_Text.l0]; rw [if_pos (by omega), if_pos (by omega), if_pos (by omega), hr]) ?_
    refine Ev.bind (int_ev _ h64) ?_
    refine Ev.congr (f := _) (fun k => by rw [if_pos (by omega), if_pos (by omega)]) ?_
    have hz2 : (((A ++ (⟨#[116, 104, 114, 101, 97, 100, 32]⟩ : ByteArray)) ++ itB d[i]) ++ (⟨#[10]⟩ : ByteArray)).size = A.size + 7 + (itB d[i]).size + 1 := by rw [ByteArray.size_append, ByteArray.size_append, ByteArray.size_append]; rfl
    refine rText_l1 T d n (by omega) i hi (fun w hw => (hx.2.2 w hw).in_) (by have := hx.2.1; omega) _ n[i].f1.length 0 _ (Nat.zero_add _) (by rw [hz2, List.drop_zero]; omega) ?_
    have q := rText_l0 h e (i + 1) ((((A ++ (⟨#[116, 104, 114, 101, 97, 100, 32]⟩ : ByteArray)) ++ itB d[i]) ++ (⟨#[10]⟩ : ByteArray)) ++ mkB (waysL n[i].f1)) (by omega) (by rw [ByteArray.size_append, hz2, mkB_size]; omega)
    rw [List.drop_zero]
    rw [show (((((A ++ (⟨#[116, 104, 114, 101, 97, 100, 32]⟩ : ByteArray)) ++ itB d[i]) ++ (⟨#[10]⟩ : ByteArray)) ++ mkB (waysL n[i].f1)) ++ mkB (bodyL (d.drop (i + 1)) (n.drop (i + 1)))) ++ (⟨#[101, 110, 100, 10]⟩ : ByteArray) = (A ++ mkB (((sThread ++ itB d[i]) ++ sNl).data.toList ++ (waysL n[i].f1 ++ bodyL (d.drop (i + 1)) (n.drop (i + 1))))) ++ (⟨#[101, 110, 100, 10]⟩ : ByteArray) by apply data_inj; simp [mkB]] at q
    exact q
theorem rText_ev (h : RpOk T d n) : Ev (fun k => logjamref36_Text.f k T d n) (mkB (textL T d n)) := by
  have hl := textL_len h
  have h64 : in64 T := by have := h.t0; have := h.t1; unfold in64; omega
  have hs := itB_size _ h64
  unfold logjamref36_Text.f
  refine Ev.bind (int_ev T h64) ?_
  refine Ev.congr (f := _) (fun k => by rw [if_pos (by omega), if_pos (by omega)]) ?_
  unfold textL at hl ⊢
  simp only [List.length_append] at hl
  have hz2 : (((⟨#[114, 101, 112, 111, 114, 116, 32]⟩ : ByteArray) ++ itB T) ++ (⟨#[10]⟩ : ByteArray)).size = 7 + (itB T).size + 1 := by rw [ByteArray.size_append, ByteArray.size_append]; rfl
  have q := rText_l0 T d n h d.length 0 (((⟨#[114, 101, 112, 111, 114, 116, 32]⟩ : ByteArray) ++ itB T) ++ (⟨#[10]⟩ : ByteArray)) (Nat.zero_add _) (by rw [hz2, List.drop_zero, List.drop_zero]; omega)
  rw [List.drop_zero, List.drop_zero] at q
  rw [show ((((⟨#[114, 101, 112, 111, 114, 116, 32]⟩ : ByteArray) ++ itB T) ++ (⟨#[10]⟩ : ByteArray)) ++ mkB (bodyL d n)) ++ (⟨#[101, 110, 100, 10]⟩ : ByteArray) = mkB (((sReport ++ itB T) ++ sNl).data.toList ++ (bodyL d n ++ [101, 110, 100, 10])) by apply data_inj; simp [mkB]] at q
  exact q
end
end Go.Proofs.YtadepdeckapgcaaDoor.Rp
end
