/- LawReportTexts, part 7: what the proof stands on (merged by wip/shake.py out of the session's texts and of what the print wrote for this claim). -/
import Derived.Test.YtadepdeckapgcaaDoorZgF

section
namespace Go.Proofs.YtadepdeckapgcaaDoor.Rp
open Go.RowKit Go.Proofs.YtadepdeckapgcaaDoorW.PrintWords Go.Proofs.YtadepdeckapgcaaDoor.PRp Go.Proofs.YtadepdeckapgcaaDoor.Orc Go.Proofs.YtadepdeckapgcaaDoor
set_option linter.unusedVariables false
set_option linter.unusedSimpArgs false
theorem shGo_len : ∀ (ls : List ByteArray) (acc : List S108), (shGo ls acc).1.length ≤ acc.length + ls.length
  | [], acc => by simp [shGo]
  | w :: ls, acc => by
    simp only [shGo]
    split
    · have := shGo_len ls (acc ++ [⟨(rnumP (cutP w sColon).1).1, (rnumP (cutP w sColon).2.1).1⟩])
      simp at this ⊢; omega
    · simp
theorem from_len (s : ByteArray) (hs : s.size ≤ 1000000) : (fromP s).1.length ≤ 1000001 := by
  unfold fromP
  split
  · simp
  · have a := shGo_len (splP s sComma) []
    have b := spl_len s sComma (by decide)
    simp at a; omega
theorem altGo_bd : ∀ (ls : List ByteArray) (acc : List S96), (∀ p ∈ ls, p.size ≤ 1000000) → (∀ m ∈ acc, m.f1.length ≤ 1000001) →
    (altGo ls acc).1.length ≤ acc.length + ls.length ∧ ∀ m ∈ (altGo ls acc).1, m.f1.length ≤ 1000001
  | [], acc, _, h => by simp [altGo]; exact h
  | w :: ls, acc, hs, h => by
    simp only [altGo]
    split
    · have hw := hs w (by simp)
      obtain ⟨a, b⟩ := altGo_bd ls (acc ++ [⟨(rnumP (cutP w sOf).1).1, (fromP (cutP w sOf).2.1).1⟩]) (fun p hp => hs p (by simp [hp])) (fun m hm => by
        rcases List.mem_append.1 hm with hm | hm
        · exact h m hm
        · obtain rfl := List.mem_singleton.1 hm
          exact from_len _ (Nat.le_trans (cut_size w sOf).2 hw))
      exact ⟨by simp at a ⊢; omega, b⟩
    · simp
def Bw1 (w : List S96) : Prop := w.length ≤ 1000001 ∧ ∀ m ∈ w, m.f1.length ≤ 1000001
theorem alt_bd (s : ByteArray) (hs : s.size ≤ 1000000) : Bw1 (altP s).1 := by
  unfold altP
  split
  · exact ⟨by simp, by simp⟩
  · split
    · have hc := cp_size s sWay
      obtain ⟨a, b⟩ := altGo_bd (splP (cpP s sWay).1 sPlus) [] (fun p hp => Nat.le_trans (spl_size _ _ p hp) (Nat.le_trans hc hs)) (by simp)
      have c := spl_len (cpP s sWay).1 sPlus (by decide)
      exact ⟨by simp at a; omega, b⟩
    · exact ⟨by simp, by simp⟩
def Nd1 (c : Nat) (x : S92) : Prop := x.f1.length ≤ c ∧ ∀ w ∈ x.f1, Bw1 w
theorem rdGo_bd (T : Int) : ∀ (ls : List ByteArray) (c : Nat) (d : List Int) (n : List S92), (∀ p ∈ ls, p.size ≤ 1000000) → d.length ≤ c → n.length ≤ c → (∀ x ∈ n, Nd1 c x) →
    (rdGo T ls d n).2.1.length ≤ c + ls.length ∧ (rdGo T ls d n).2.2.1.length ≤ c + ls.length ∧ ∀ x ∈ (rdGo T ls d n).2.2.1, Nd1 (c + ls.length) x
  | [], c, d, n, _, h1, h2, h3 => ⟨h1, h2, h3⟩
  | s :: ls, c, d, n, hs, h1, h2, h3 => by
    have up : ∀ x : S92, Nd1 c x → Nd1 (c + (ls.length + 1)) x := fun x h => ⟨by have := h.1; omega, h.2⟩
    have up1 : ∀ x : S92, Nd1 c x → Nd1 (c + 1) x := fun x h => ⟨by have := h.1; omega, h.2⟩
    have e : c + 1 + ls.length = c + (ls.length + 1) := by omega
    simp only [rdGo, List.length_cons]
    split
    · split
      · have q := rdGo_bd T ls (c + 1) (d ++ [(rnumP (cpP s sThread).1).1]) (n ++ [⟨true, []⟩]) (fun p hp => hs p (by simp [hp])) (by simp; omega) (by simp; omega) (fun x hx => by
          rcases List.mem_append.1 hx with hx | hx
          · exact up1 x (h3 x hx)
          · obtain rfl := List.mem_singleton.1 hx; exact ⟨by simp, by simp⟩)
        rw [e] at q; exact q
      · exact ⟨by dsimp only; omega, by dsimp only; omega, fun x hx => up x (h3 x hx)⟩
    · split
      · rename_i hc
        obtain ⟨n1, x, rfl⟩ : ∃ n1 x, n = n1 ++ [x] := ⟨n.dropLast, n.getLast hc.2, (List.dropLast_concat_getLast hc.2).symm⟩
        rw [putLast_snoc]
        have q := rdGo_bd T ls (c + 1) d (n1 ++ [⟨x.f0, x.f1 ++ [(altP s).1]⟩]) (fun p hp => hs p (by simp [hp])) (by omega) (by simp at h2 ⊢; omega) (fun y hy => by
          rcases List.mem_append.1 hy with hy | hy
          · exact up1 y (h3 y (by simp [hy]))
          · obtain rfl := List.mem_singleton.1 hy
            have hx := h3 x (by simp)
            refine ⟨by have := hx.1; simp; omega, fun w hw => ?_⟩
            rcases List.mem_append.1 hw with hw | hw
            · exact hx.2 w hw
            · obtain rfl := List.mem_singleton.1 hw; exact alt_bd s (hs s (by simp)))
        rw [e] at q; exact q
      · exact ⟨by dsimp only; omega, by dsimp only; omega, fun x hx => up x (h3 x hx)⟩
theorem rdP_bd (L : List ByteArray) (hL : L.length ≤ 1000001) (hs : ∀ p ∈ L, p.size ≤ 1000000) : (rdP L).2.1.length ≤ 1000001 ∧ Rc.Bns (rdP L).2.2.1 := by
  have z : ∀ n : List S92, n.length ≤ 1000001 → (∀ x ∈ n, Nd1 1000001 x) → Rc.Bns n := fun n h1 h2 => by
    refine ⟨by unfold Rc.MX; omega, fun x hx => ⟨?_, fun w hw => ⟨?_, fun m hm => ?_⟩⟩⟩
    · have := (h2 x hx).1; unfold Rc.MX; omega
    · have := ((h2 x hx).2 w hw).1; unfold Rc.MX; omega
    · have := ((h2 x hx).2 w hw).2 m hm; unfold Rc.MX; omega
  unfold rdP
  split
  · exact ⟨by simp, z [] (by simp) (by simp)⟩
  · split
    · split
      · obtain ⟨a, b, c⟩ := rdGo_bd (rnumP (cpP (rdOf ByteArray.empty L 0) sReport).1).1 ((L.take (L.length - 2)).drop 1) 0 [] [] (fun p hp => hs p (List.mem_of_mem_take (List.mem_of_mem_drop hp))) (by simp) (by simp) (by simp)
        have hl : 0 + ((L.take (L.length - 2)).drop 1).length ≤ 1000001 := by rw [List.length_drop, List.length_take]; omega
        exact ⟨by omega, z _ (by omega) (fun x hx => ⟨by have := (c x hx).1; omega, (c x hx).2⟩)⟩
      · exact ⟨by simp, z [] (by simp) (by simp)⟩
    · exact ⟨by simp, z [] (by simp) (by simp)⟩
def parseP (s : ByteArray) : Int × List Int × List S92 × Int :=
  if (rdP (splP s sNl)).2.2.2 = true then
    (if Rc.chkR (rdP (splP s sNl)).1 (rdP (splP s sNl)).2.1 (rdP (splP s sNl)).2.2.1 = 0 then ((rdP (splP s sNl)).1, (rdP (splP s sNl)).2.1, (rdP (splP s sNl)).2.2.1, 0)
    else (0, [], [], Rc.chkR (rdP (splP s sNl)).1 (rdP (splP s sNl)).2.1 (rdP (splP s sNl)).2.2.1))
  else (0, [], [], 2)
theorem parse_ev (s : ByteArray) (h : s.size ≤ 60000) : Ev (fun k => report_Parse.f k s) (parseP s) := by
  have hl := spl_len s sNl (by decide)
  have hs : ∀ p ∈ splP s sNl, p.size ≤ 1000000 := fun p hp => by have := spl_size s sNl p hp; omega
  obtain ⟨b1, b2⟩ := rdP_bd (splP s sNl) (by omega) hs
  unfold report_Parse.f parseP
  refine Ev.congr (f := _) (fun k => by rw [if_neg (by omega)]) ?_
  refine Ev.bind (Ev.const fun k => spl_some s _ (by omega) (by decide)) ?_
  refine Ev.bind (Ev.const fun k => show o_rread.f (splP s sNl) = some (rdP (splP s sNl)) by
    unfold o_rread.f
    rw [if_pos ⟨by omega, List.all_eq_true.2 (fun p hp => decide_eq_true (hs p hp))⟩]) ?_
  generalize rdP (splP s sNl) = q at b1 b2 ⊢
  obtain ⟨T, d, n, ok⟩ := q
  dsimp only at b1 b2 ⊢
  by_cases hok : ok = true
  · rw [if_pos hok]
    refine Ev.congr (f := _) (fun k => by rw [if_pos hok]) ?_
    refine Ev.bind (Rc.ev_chk T d (by unfold Rc.MX; omega) n b2) ?_
    by_cases hc : Rc.chkR T d n = 0
    · rw [if_pos hc]; exact Ev.const fun k => by rw [if_pos hc]
    · rw [if_neg hc]; exact Ev.const fun k => by rw [if_neg hc]
  · rw [if_neg hok]
    exact Ev.const fun k => by rw [if_neg hok, if_neg (by decide)]
theorem parse_text {T : Int} {d : List Int} {n : List S92} (h : Rc.chkR T d n = 0) : parseP (mkB (textL T d n)) = (T, d, n, 0) := by
  unfold parseP
  rw [spl_text (chkR_ok h), rd_text (chkR_ok h)]
  dsimp only
  rw [if_pos rfl, if_pos h]
theorem rtext_ok {T : Int} {d : List Int} {n : List S92} (h : Rc.chkR T d n = 0) : o_RText.f T d n = some (mkB (textL T d n), 0) := by unfold o_RText.f; rw [if_pos h]; rfl
theorem rtext_no {T : Int} {d : List Int} {n : List S92} (h : Rc.chkR T d n ≠ 0) : o_RText.f T d n = some (⟨#[]⟩, Rc.chkR T d n) := by unfold o_RText.f; rw [if_neg h]
def n5 : List S92 := [⟨true, [[⟨1, [⟨1, 1⟩]⟩, ⟨2, [⟨0, 1⟩, ⟨4, 2⟩]⟩], []]⟩, ⟨true, []⟩]
def B5 : List UInt8 := [114, 101, 112, 111, 114, 116, 32, 51, 10, 116, 104, 114, 101, 97, 100, 32, 48, 10, 32, 32, 119, 97, 121, 32, 49, 32, 111, 102, 32, 49, 58, 49, 32, 43, 32, 50, 32, 111, 102, 32, 48, 58, 49, 44, 52, 58, 50, 10, 32, 32, 119, 97, 121, 10, 116, 104, 114, 101, 97, 100, 32, 52, 10, 101, 110, 100, 10]
theorem itoa_dig (n : Nat) (h : n < 10) : Lib.itoa (n : Int) = [UInt8.ofNat (48 + n)] := by rw [Lib.itoa_nonneg, Lib.decDigits_one h]
theorem text5 : textL 3 [0, 4] n5 = B5 := by
  have e0 : Lib.itoa 0 = [48] := itoa_dig 0 (by decide)
  have e1 : Lib.itoa 1 = [49] := itoa_dig 1 (by decide)
  have e2 : Lib.itoa 2 = [50] := itoa_dig 2 (by decide)
  have e3 : Lib.itoa 3 = [51] := itoa_dig 3 (by decide)
  have e4 : Lib.itoa 4 = [52] := itoa_dig 4 (by decide)
  simp [textL, bodyL, waysL, n5, wayP, joinB, termB, sharesP, shB, itB, Lib.join, List.intercalate, List.intersperse, e0, e1, e2, e3, e4, B5]
theorem chk5 : Rc.chkR 3 [0, 4] n5 = 0 := by decide
theorem lives_ev : Ev (fun k => logjamlaw36_lives.f k) true := by
  have hp := parse_ev (mkB B5) (by decide)
  have ht := parse_text chk5
  rw [text5] at ht
  rw [ht] at hp
  unfold logjamlaw36_lives.f
  refine Ev.bind (a := (3, [0, 4], n5, 0)) hp ?_
  refine Ev.bind (Ev.const fun k => rtext_ok chk5) ?_
  rw [text5]
  refine Ev.const fun k => ?_
  rw [if_pos rfl, if_pos rfl, if_pos (by rw [mkB_list]; rfl), if_pos rfl, if_pos (by decide), if_pos (by decide), if_pos (by decide), if_pos (by decide), if_pos (by decide)]
  rfl
theorem ownM_idem (m : S96) : Rc.ownM (Rc.ownM m) = Rc.ownM m := by unfold Rc.ownM; simp [List.take_take]
theorem ownW_idem (w : List S96) : Rc.ownW (Rc.ownW w) = Rc.ownW w := by
  unfold Rc.ownW
  rw [← List.map_take, List.take_take, Nat.min_self, List.map_map]
  exact List.map_congr_left (fun m _ => ownM_idem m)
theorem ownN_idem (x : S92) : Rc.ownN (Rc.ownN x) = Rc.ownN x := by
  unfold Rc.ownN
  dsimp only
  rw [← List.map_take, List.take_take, Nat.min_self, List.map_map]
  congr 1
  exact List.map_congr_left (fun m _ => ownW_idem m)
theorem ownL_idem (n : List S92) : Rc.ownL (Rc.ownL n) = Rc.ownL n := by
  unfold Rc.ownL
  rw [← List.map_take, List.take_take, Nat.min_self, List.map_map]
  exact List.map_congr_left (fun m _ => ownN_idem m)
theorem ownL_small (n : List S92) : Rc.Bns (Rc.ownL n) := by
  have z : ∀ k : Nat, k ≤ 100 → k ≤ Rc.MX := fun k h => by unfold Rc.MX; omega
  refine ⟨z _ (by unfold Rc.ownL; rw [List.length_map, List.length_take]; omega), fun x hx => ?_⟩
  obtain ⟨y, _, rfl⟩ := List.mem_map.1 hx
  refine ⟨z _ (by unfold Rc.ownN; dsimp only; rw [List.length_map, List.length_take]; omega), fun w hw => ?_⟩
  obtain ⟨v, _, rfl⟩ := List.mem_map.1 hw
  refine ⟨z _ (by unfold Rc.ownW; rw [List.length_map, List.length_take]; omega), fun m hm => ?_⟩
  obtain ⟨u, _, rfl⟩ := List.mem_map.1 hm
  exact z _ (by unfold Rc.ownM; dsimp only; rw [List.length_take]; omega)
theorem own36_l1 (T : Int) (d : List Int) (n : List S92) (hb : Rc.Bns n) : ∀ (e i : Nat) (out : List S92), i + e = (n.take 70).length → out.length ≤ 70 + i →
    Ev (fun k => logjamlaw36_Own.l1 k n (i : Int) T d out) (T, d, out ++ ((n.take 70).drop i).map Rc.ownN)
  | 0, i, out, hi, ho => by
    have htl : (n.take 70).length = min 70 n.length := List.length_take
    rw [List.drop_of_length_le (by omega), List.map_nil, List.append_nil]
    refine Ev.step1 (fun k => ?_)
    simp only [logjamlaw36_Own.l1]
    by_cases h : i < n.length
    · rw [if_pos (by omega), if_neg (by omega)]
    · rw [if_neg (by omega)]
  | e + 1, i, out, hi, ho => by
    have htl : (n.take 70).length = min 70 n.length := List.length_take
    have hn : i < n.length := by omega
    have hw : wrap64 ((i : Int) + 1) = ((i + 1 : Nat) : Int) := by unfold wrap64; omega
    have hs : (n.take (((i + 1 : Nat) : Int)).toNat).drop ((i : Int)).toNat = [n[i]] := by
      rw [Int.toNat_natCast, Int.toNat_natCast, List.take_succ_eq_append_getElem hn, List.drop_left' (by rw [List.length_take]; omega)]
    have hb1 : Rc.Bns [n[i]] := ⟨by unfold Rc.MX; simp, fun x hx => by obtain rfl := List.mem_singleton.1 hx; exact hb.2 _ (List.getElem_mem hn)⟩
    have ih := own36_l1 T d n hb e (i + 1) (out ++ [Rc.ownN n[i]]) (by omega) (by simp; omega)
    refine Ev.step (f := _) (fun k => by simp only [logjamlaw36_Own.l1]; rw [if_pos (by omega), if_pos (by omega), if_pos (by omega), hw, if_pos (by omega), if_pos (by omega), hs]) ?_
    refine Ev.bind (Rc.ev_own _ hb1) ?_
    have e1 : Rc.ownL [n[i]] = [Rc.ownN n[i]] := rfl
    rw [e1]
    refine Ev.congr (f := _) (fun k => by rw [if_pos (by simp), if_pos (by omega)]) ?_
    have hd : ((n.take 70).drop i).map Rc.ownN = Rc.ownN n[i] :: ((n.take 70).drop (i + 1)).map Rc.ownN := by
      rw [List.drop_eq_getElem_cons (show i < (n.take 70).length by omega), List.map_cons, List.getElem_take]
    rw [hd]
    rw [List.append_assoc] at ih
    exact ih
theorem own36_l0 (T : Int) (d0 : List Int) (n : List S92) (hb : Rc.Bns n) (hd0 : d0.length ≤ Rc.MX) : ∀ (e i : Nat) (out : List Int), i + e = (d0.take 70).length → out.length ≤ 70 + i →
    Ev (fun k => logjamlaw36_Own.l0 k (i : Int) T d0 n T out) (T, out ++ (d0.take 70).drop i, Rc.ownL n)
  | 0, i, out, hi, ho => by
    have htl : (d0.take 70).length = min 70 d0.length := List.length_take
    rw [List.drop_of_length_le (by omega), List.append_nil]
    have h2 : Ev (fun k => logjamlaw36_Own.j1 k T d0 n T out) (T, out, Rc.ownL n) := by
      refine Ev.step (f := _) (fun k => by simp only [logjamlaw36_Own.j1]; rfl) ?_
      have q := own36_l1 T out n hb (n.take 70).length 0 [] (by omega) (by simp)
      rw [List.nil_append, List.drop_zero] at q
      exact q
    by_cases h : i < d0.length
    · exact Ev.step (f := _) (fun k => by simp only [logjamlaw36_Own.l0]; rw [if_pos (by omega), if_neg (by omega)]) h2
    · exact Ev.step (f := _) (fun k => by simp only [logjamlaw36_Own.l0]; rw [if_neg (by omega)]) h2
  | e + 1, i, out, hi, ho => by
    have htl : (d0.take 70).length = min 70 d0.length := List.length_take
    have hn : i < d0.length := by omega
    have hw : wrap64 ((i : Int) + 1) = ((i + 1 : Nat) : Int) := by unfold wrap64; omega
    have hr : rd d0 (i : Int) = d0[i] := by unfold rd; simp [hn]
    have ih := own36_l0 T d0 n hb hd0 e (i + 1) (out ++ [d0[i]]) (by omega) (by simp; omega)
    refine Ev.step (f := _) (fun k => by simp only [logjamlaw36_Own.l0]; rw [if_pos (by omega), if_pos (by omega), if_pos (by omega), if_pos (by omega), hw, hr]) ?_
    rw [List.drop_eq_getElem_cons (show i < (d0.take 70).length by omega), List.getElem_take]
    rw [List.append_assoc] at ih
    exact ih
theorem own36_ev (T : Int) (d : List Int) (n : List S92) (hb : Rc.Bns n) (hd : d.length ≤ Rc.MX) : Ev (fun k => logjamlaw36_Own.f k T d n) (T, d.take 70, Rc.ownL n) := by
  have q := own36_l0 T d n hb hd (d.take 70).length 0 [] (by omega) (by simp)
  rw [List.nil_append, List.drop_zero] at q
  exact q
section
variable (T : Int) (d : List Int) (n : List S92) (hb : Rc.Bns n) (hd : d.length ≤ Rc.MX)
theorem own_again : Ev (fun k => logjamlaw36_Own.f k T (d.take 70) (Rc.ownL n)) (T, d.take 70, Rc.ownL n) := by
  have q := own36_ev T (d.take 70) (Rc.ownL n) (ownL_small n) (by rw [List.length_take]; unfold Rc.MX; omega)
  rw [List.take_take, Nat.min_self, ownL_idem] at q
  exact q
include hb hd in
theorem texts_pure : Ev (fun k => logjamlaw36_ReportTexts.f k T d n) true := by
  have hd1 : (d.take 70).length ≤ Rc.MX := by rw [List.length_take]; unfold Rc.MX; omega
  have hb1 := ownL_small n
  unfold logjamlaw36_ReportTexts.f
  refine Ev.bind (own36_ev T d n hb hd) ?_
  dsimp only
  refine Ev.bind (Rc.ev_rchk T (d.take 70) hd1 (Rc.ownL n) hb1) ?_
  refine Ev.bind (own_again T d n) ?_
  dsimp only
  have hown := own_again T d n
  generalize d.take 70 = d1 at *
  generalize Rc.ownL n = n1 at *
  by_cases hc : Rc.chkR T d1 n1 = 0
  · refine Ev.bind (Ev.const fun k => rtext_ok hc) ?_
    refine Ev.bind hown ?_
    dsimp only
    refine Ev.bind (Rc.ev_chk T d1 hd1 n1 hb1) ?_
    refine Ev.congr (f := _) (fun k => by rw [if_pos rfl]) ?_
    refine Ev.step (f := _) (fun k => by simp only [logjamlaw36_ReportTexts.j0]; rw [hc, if_neg (by decide), if_pos rfl]) ?_
    refine Ev.bind (rText_ev T d1 n1 (chkR_ok hc)) ?_
    refine Ev.congr (f := _) (fun k => by rw [if_pos rfl]) ?_
    exact Ev.bind lives_ev (Ev.now _)
  · refine Ev.bind (Ev.const fun k => rtext_no hc) ?_
    refine Ev.bind hown ?_
    dsimp only
    refine Ev.bind (Rc.ev_chk T d1 hd1 n1 hb1) ?_
    refine Ev.congr (f := _) (fun k => by rw [if_pos rfl]) ?_
    refine Ev.step (f := _) (fun k => by simp only [logjamlaw36_ReportTexts.j0]; rw [if_neg (by simp), if_neg hc, if_pos (Lib.toList_data _)]) ?_
    exact Ev.bind lives_ev (Ev.now _)
include hb hd in
end
end Go.Proofs.YtadepdeckapgcaaDoor.Rp
end

section
namespace Go.Proofs.YtadepdeckapgcaaDoor.Rp
open Go.RowKit Go.Proofs.YtadepdeckapgcaaDoorW.PrintWords Go.Proofs.YtadepdeckapgcaaDoor.PRp Go.Proofs.YtadepdeckapgcaaDoor.Orc Go.Proofs.YtadepdeckapgcaaDoor
set_option linter.unusedVariables false
set_option linter.unusedSimpArgs false
abbrev shShare : Sh (Int × Int) := shP shInt shInt
abbrev shTerm : Sh (Int × List (Int × Int)) := shP shInt (shL shShare)
abbrev shNode : Sh (Bool × List (List (Int × List (Int × Int)))) := shP shBool (shL (shL shTerm))
abbrev shRep : Sh (Int × List Int × List (Bool × List (List (Int × List (Int × Int))))) := shP shInt (shP (shL shInt) (shL shNode))
def toS (x : Int × Int) : S108 := ⟨x.1, x.2⟩
def toM (x : Int × List (Int × Int)) : S96 := ⟨x.1, x.2.map toS⟩
def toN (x : Bool × List (List (Int × List (Int × Int)))) : S92 := ⟨x.1, x.2.map (·.map toM)⟩
theorem share_of {w : World} (a : Int × Int) (cs : List Value) (h : shShare.rd w w.heap.size a cs) : k108.K w (toS a) cs := by
  obtain ⟨c1, c2, rfl, _, ⟨rfl, _⟩, ⟨rfl, _⟩⟩ := h
  exact k108_mk w (toS a)
theorem term_of {w : World} (a : Int × List (Int × Int)) (cs : List Value) (h : shTerm.rd w w.heap.size a cs) : k96.K w (toM a) cs := by
  obtain ⟨c1, c2, rfl, _, ⟨rfl, _⟩, h2⟩ := h
  obtain ⟨v, rfl⟩ := one_of_shape h2
  obtain ⟨A, c, rfl, h3, h4⟩ := C_of_shape (S := shShare) (d := k108) toS rfl share_of h2
  exact k96_mk w (toM a) h4 h3
theorem way_of {w : World} (a : List (Int × List (Int × Int))) (cs : List Value) (h : (shL shTerm).rd w w.heap.size a cs) : (Kd.slice 96 k96).K w (a.map toM) cs := by
  obtain ⟨v, rfl⟩ := one_of_shape h
  obtain ⟨A, c, rfl, h3, h4⟩ := C_of_shape (S := shTerm) (d := k96) toM rfl term_of h
  exact ⟨A, c, rfl, h4, h3⟩
theorem node_of {w : World} (a : Bool × List (List (Int × List (Int × Int)))) (cs : List Value) (h : shNode.rd w w.heap.size a cs) : k92.K w (toN a) cs := by
  obtain ⟨c1, c2, rfl, _, h1, h2⟩ := h
  obtain rfl : c1 = [.bool a.1] := h1
  obtain ⟨v, rfl⟩ := one_of_shape h2
  obtain ⟨A, c, rfl, h3, h4⟩ := C_of_shape (S := shL shTerm) (d := Kd.slice 96 k96) (·.map toM) rfl way_of h2
  exact k92_mk w (toN a) h4 h3
theorem rep_of {w : World} {a : Int × List Int × List (Bool × List (List (Int × List (Int × Int))))} {cs : Array Value} (h : shRep.rd w w.heap.size a cs.toList) :
    ∃ A1 c1 A2 c2, cs = #[.int .i64 a.1, .slice A1 a.2.1.length c1, .slice A2 (a.2.2.map toN).length c2] ∧ Kd.C (Kd.int .i64) w A1 a.2.1.length a.2.1 ∧ a.2.1.length ≤ c1 ∧ Kd.C k92 w A2 (a.2.2.map toN).length (a.2.2.map toN) ∧ (a.2.2.map toN).length ≤ c2 := by
  obtain ⟨c1, c2, e, _, ⟨rfl, _⟩, ⟨c3, c4, rfl, _, h2, h3⟩⟩ := h
  obtain ⟨v, rfl⟩ := one_of_shape h2
  obtain ⟨u, rfl⟩ := one_of_shape h3
  have q := C_of_shape (S := shInt) (d := Kd.int .i64) id rfl (fun a cs h => by obtain ⟨rfl, _⟩ := h; rfl) h2
  rw [List.map_id] at q
  obtain ⟨A1, d1, rfl, h4, h5⟩ := q
  obtain ⟨A2, d2, rfl, h6, h7⟩ := C_of_shape (S := shNode) (d := k92) toN rfl node_of h3
  exact ⟨A1, d1, A2, d2, Array.ext' (by rw [e]; rfl), h4, h5, h6, h7⟩
theorem reportTextsW (W : World) (hG : Gl W) (cs0 : Array Value) (a0 : Int × List Int × List (Bool × List (List (Int × List (Int × Int))))) (e0 : shRep.rd W W.heap.size a0 cs0.toList) :
    Calls Tryd.prog 8 #[.agg cs0] W fun e w' => e = .returned (.bool true) ∧ Below W.heap.size W w' := by
  obtain ⟨A1, c1, A2, c2, rfl, h1, h2, h3, h4⟩ := rep_of e0
  obtain ⟨k, hk⟩ := (texts_pure a0.1 a0.2.1 (a0.2.2.map toN) (bns_of h3) (C_len h1).2).rounds
  exact logjamlaw36_ReportTexts.calls k a0.1 A1 c1 a0.2.1 A2 c2 (a0.2.2.map toN) true W h1 h2 h3 h4 hk hG
end Go.Proofs.YtadepdeckapgcaaDoor.Rp
end
