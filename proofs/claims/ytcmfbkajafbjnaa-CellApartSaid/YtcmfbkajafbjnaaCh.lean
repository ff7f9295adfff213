/- Package cell: the walks of CellLast, CellPlays, CellApart. -/
import Derived.Test.YtcmfbkajafbjnaaCg
namespace Go.Proofs.Ytcmfbkajafbjnaa
open Go.RowKit Go.Proofs.YtcmfbkajafbjnaaW.PrintWords Go.Proofs.YtcmfbkajafbjnaaW.PrintLast Go.Proofs.YtcmfbkajafbjnaaW.PrintMore PCellPlays
set_option linter.unusedSimpArgs false
set_option linter.unusedVariables false

/-! ### plain -/
theorem fidx_set (obj : Int) (x y : Int) : ∀ (l : List (Int × Int × Int)) (i : Nat) (h : i < l.length), fidx obj (l.set i (l[i].1, x, y)) = fidx obj l
  | [], i, h => by simp at h
  | z :: l, 0, h => by simp [fidx]
  | z :: l, i + 1, h => by
    have ih := fidx_set obj x y l i (by simpa using h)
    simp only [List.set_cons_succ, List.getElem_cons_succ, fidx]
    rw [ih]
theorem fidx_cSet (obj t n : Int) (l : List (Int × Int × Int)) : fidx obj (cSet t n l).1 = fidx obj l := by
  unfold cSet
  cases hi : fidx t l with
  | none => rfl
  | some i =>
    obtain ⟨hlt, _⟩ := fidx_lt t l i hi
    simp only [cAt_lt l i hlt]
    exact fidx_set obj _ _ l i hlt
theorem cGet_ok (obj t n : Int) (l : List (Int × Int × Int)) : (cGet obj (cSet t n l).1).2 = (cGet obj l).2 := by
  unfold cGet
  rw [fidx_cSet]
  cases fidx obj l <;> rfl
theorem cGet_set (obj t n : Int) (l : List (Int × Int × Int)) : (cGet obj (cSet t n l).1).1 = if (cGet obj l).2 = true ∧ t = obj then low n else (cGet obj l).1 := by
  unfold cGet
  rw [fidx_cSet]
  cases hj : fidx obj l with
  | none => simp
  | some j =>
    obtain ⟨hlj, hxj⟩ := fidx_lt obj l j hj
    simp only [true_and]
    unfold cSet
    by_cases e : t = obj
    · subst e
      rw [hj, if_pos rfl]
      simp [cAt, hlj]
    · rw [if_neg e]
      cases hi : fidx t l with
      | none => rfl
      | some i =>
        obtain ⟨hli, hxi⟩ := fidx_lt t l i hi
        have hne : i ≠ j := fun q => by subst q; exact e (hxi.symm.trans hxj)
        simp [cAt, hne]
/-- Each cell's guard is its object's. -/
def GOK (d : List De22) (l : List (Int × Int × Int)) : Prop := ∀ x ∈ l, ∃ k : Nat, k < d.length ∧ x.1 = k ∧ x.2.1 = db d k
theorem gok_new (d : List De22) : ∀ k, k ≤ d.length → GOK d (newL (dk d) (da d) (db d) k)
  | 0, _ => fun x h => by simp [newL] at h
  | k + 1, hk => by
    have ih := gok_new d k (by omega)
    simp only [newL]
    split
    · intro x h
      rw [List.mem_append] at h
      rcases h with h | h
      · exact ih x h
      · simp at h
        subst h
        exact ⟨k, by omega, rfl, rfl⟩
    · exact ih
theorem gok_set (d : List De22) (l : List (Int × Int × Int)) (h : GOK d l) (t n : Int) : GOK d (cSet t n l).1 := by
  unfold cSet
  cases hi : fidx t l with
  | none => exact h
  | some i =>
    obtain ⟨hli, hxi⟩ := fidx_lt t l i hi
    intro x hx
    simp only at hx
    rcases List.mem_or_eq_of_mem_set hx with hx | rfl
    · exact h x hx
    · simp only [cAt_lt l i hli]
      exact h l[i] (List.getElem_mem hli)

/-- The arguments. -/
theorem d22_of {W : World} {v : Value} {l : List (Int × Int × Int)} (h : (shL (shP shInt (shP shInt shInt))).rd W W.heap.size l [v]) :
    D22 W v (l.map fun x => ⟨x.1, x.2.1, x.2.2⟩) := by
  rcases h with ⟨rfl, a, h⟩ | ⟨b, o, cap, hb, hl, hm, h, hi⟩
  · simp at h; subst h
    exact ⟨a, 0, rfl, by simp, ⟨rfl, by simp, fun q => absurd q (by simp)⟩, fun q => absurd rfl q⟩
  · simp at h; subst h
    refine ⟨some ⟨b, o, none⟩, cap, by simp, by simpa using hl, ⟨rfl, by unfold maxLen at hm; simp; omega, fun _ => ⟨⟨b, o, none⟩, rfl, fun j p hp => ?_⟩⟩, fun _ => ⟨b, o, rfl, hb⟩⟩
    simp only [List.getElem?_map, Option.map_eq_some_iff] at hp
    obtain ⟨x, hx, rfl⟩ := hp
    obtain ⟨hj, rfl⟩ := List.getElem?_eq_some_iff.1 hx
    obtain ⟨ci, ⟨c1, c2, rfl, _, ⟨rfl, r1⟩, ⟨c3, c4, rfl, _, ⟨rfl, r2⟩, ⟨rfl, r3⟩⟩⟩, _, hc⟩ := hi j hj
    refine ⟨_, rfl, k41_mk _ _, fun i u hu => ?_⟩
    have hi3 : i < 3 := by
      have := (List.getElem?_eq_some_iff.1 hu).1
      simpa using this
    have e := hc i (by show i < 3; omega)
    rw [addr_add]
    simp only [shP, shInt] at e
    rw [show o + (j * k41.sz + i) = o + j * 3 + i from by show o + (j * 3 + i) = _; omega]
    exact (by simpa using e.trans hu)

def opS (ts ns : Nat → Int) (i j : Nat) : Value := if j = 0 then .int .i64 (ts i) else .int .i64 (ns i)
theorem slR_share {W : World} {v : Value} {l : List (Int × Int)} (h : (shL (shP shInt shInt)).rd W W.heap.size l [v]) :
    SlR W W.heap.size v 2 l.length (opS (fun i => (l.getD i (0, 0)).1) (fun i => (l.getD i (0, 0)).2)) := by
  rcases h with ⟨rfl, a, h⟩ | ⟨b, o, cap, hb, hl, hm, h, hi⟩
  · simp at h; subst h; exact .inl ⟨rfl, a, rfl⟩
  · simp at h; subst h
    refine .inr ⟨b, o, cap, hb, by unfold maxLen at hm; omega, rfl, fun i j hil hj => ?_⟩
    obtain ⟨ci, ⟨c1, c2, rfl, _, ⟨rfl, r1⟩, ⟨rfl, r2⟩⟩, _, hc⟩ := hi i hil
    have e := hc j (by show j < 2; omega)
    simp only [shP, shInt] at e
    have eg : l.getD i (0, 0) = l[i] := by simp [hil]
    unfold opS
    simp only [eg]
    rcases (by omega : j = 0 ∨ j = 1) with rfl | rfl
    · simpa using e
    · simpa using e

def LastRel (w : World) (bc : Nat) (L : Nat) (obj : Int) (ok : Bool) (len : Nat) (s8 i : Value) (wr : World) : Prop :=
  ∃ (k : Nat) (l : List (Int × Int × Int)), i = .int .i64 k ∧ k ≤ len ∧ k ≤ 40 ∧ s8 = .int .i64 (cGet obj l).1 ∧ (cGet obj l).2 = ok ∧ l.length = L ∧ CeAt wr bc bc l ∧ Quiet w wr

set_option maxHeartbeats 2000000 in
theorem ceLast (w : World) (v0 v1 : Value) (d : List De22) (hD : D22 w v0 d) (len : Nat) (ts ns : Nat → Int) (hv : SlR w w.heap.size v1 2 len (opS ts ns)) (obj : Int) :
    Calls Try.prog 3 #[v0, v1, .int .i64 obj] w fun e w' => e = .returned (.bool true) ∧ Quiet w w' := by
  have F0 := Lib.hid (few22 w v0 d hD)
  have hd60 : (d.take 60).length ≤ 60 := by simp; omega
  have hd2 : (d.take 60).take 60 = d.take 60 := List.take_of_length_le hd60
  go_enter Try.func3, Try.ntmps3
  go_wp2_with fail
  refine F0.out.mono ?_
  rintro e w1 ⟨A1, c1, rfl, hD1, hf1⟩
  generalize d.take 60 = D at *
  have F1 := Lib.hid (few22 w1 _ D hD1)
  rw [hd2] at F1
  go_wp2_with fail
  refine F1.out.mono ?_
  rintro e w2 ⟨A2, c2, rfl, hD2, hf2⟩
  have F2 := Lib.hid (ceNewD w2 _ D hd60 hD2)
  go_wp2_with fail
  refine F2.out.mono ?_
  rintro e w3 ⟨rfl, hC, hf3⟩
  have HQ0 : Quiet w w2 := hf1.quiet hf2
  have hbc : w.heap.size ≤ w2.heap.size := HQ0.size
  have HQ : Hid (Quiet w w3) := HQ0.quiet hf3
  have hl := newOf_len D
  generalize newOf D = l0 at *
  have hl60 : l0.length ≤ 1000 := by omega
  clear hD1 hD2 hf1 hf2 hf3 F0 F1 F2 HQ0 hD
  generalize w2.heap.size = bc at *
  have G := Lib.hid (ceGet hC hl60 obj)
  have HC0 := Lib.hid hC
  have OK : Hid ((cGet obj l0).2 = (cGet obj l0).2) := rfl
  cases hg : cGet obj l0 with
  | mk g0 ok =>
  rw [hg] at G
  clear hC
  go_wp2_with fail
  refine G.out.mono ?_
  rintro e w4 ⟨rfl, rfl⟩
  go_wp2_with fail
  rcases hv with ⟨rfl, av, rfl⟩ | ⟨b, o, cap, hb, hlen, rfl, hc⟩
  · refine wp_loop_rounds 1 ?_; rw [rounds_succ]
    have hCx := HC0.out; have hQx := HQ.out; have hgx := hg; have hlx := hl60
    have G2 := Lib.hid (ceGet hCx hlx obj)
    rw [hgx] at G2
    have HQX := Lib.hid hQx
    clear hCx hQx
    cases ok
    · go_wp2_with (first
        | (go_at_call 15; refine G2.out.mono ?_; rintro e w5 ⟨rfl, rfl⟩)
        | (go_at_call 18; refine (ceLives _).mono ?_; rintro e w6 ⟨rfl, hf⟩))
      go_ret
      exact ⟨rfl, HQX.out.quiet hf⟩
    · go_wp2_with (first
        | (go_at_call 15; refine G2.out.mono ?_; rintro e w5 ⟨rfl, rfl⟩)
        | (go_at_call 18; refine (ceLives _).mono ?_; rintro e w6 ⟨rfl, hf⟩))
      go_ret
      exact ⟨rfl, HQX.out.quiet hf⟩
  have HCC := Lib.hid hc; clear hc
  go_loopw [8, 10] (fun s8 i wr => LastRel w bc l0.length obj ok len s8 i wr) (fun _ i _ => len - (intOf i).toNat)
  case atStart => exact ⟨0, l0, rfl, by omega, by omega, by rw [hg], by rw [hg], rfl, HC0.out, HQ.out⟩
  case round =>
    obtain ⟨k, l, rfl, hk, hk40, rfl, hok, hL, hCx, hQx⟩ := hrel
    have hlx : l.length ≤ 1000 := by omega
    obtain ⟨gv, hgx⟩ : ∃ gv, cGet obj l = (gv, ok) := ⟨(cGet obj l).1, by rw [← hok]⟩
    by_cases hlt : k < len
    · by_cases h40 : k < 40
      · have hbr : b < wr.heap.size := Nat.lt_of_lt_of_le hb hQx.size
        have e0 : wr.cell? ⟨b, o + k * 2, none⟩ = some (.int .i64 (ts k)) := hQx.cell (HCC.out k 0 hlt (by omega)) (fun q => q)
        have e1 : wr.cell? ⟨b, o + k * 2 + 1, none⟩ = some (.int .i64 (ns k)) := hQx.cell (HCC.out k 1 hlt (by omega)) (fun q => q)
        have HS : Hid (∀ w', TFr 81 bc wr w' → w'.cell? ⟨b, o + k * 2, none⟩ = some (.int .i64 (ts k)) ∧ w'.cell? ⟨b, o + k * 2 + 1, none⟩ = some (.int .i64 (ns k)) ∧ TFr 81 bc wr w') := by
          intro w' q
          exact ⟨Fr.cell q e0 (fun ⟨h, _⟩ => by omega), Fr.cell q e1 (fun ⟨h, _⟩ => by omega), q⟩
        have C2 := Lib.hid (fun (wz : World) (h : CeAt wz bc bc l) => ceSet h hlx (ts k) (ns k))
        have SG := Lib.hid (cGet_set obj (ts k) (ns k) l)
        have SO := Lib.hid (cGet_ok obj (ts k) (ns k) l)
        have SL := Lib.hid (cSet_len (ts k) (ns k) l)
        have HCx := Lib.hid hCx; have HQX := Lib.hid hQx; have HOK := Lib.hid hok; have HGX := Lib.hid hgx
        rw [hgx] at SG SO
        have HCd : Hid (CeAt wr.drew bc bc l) := by obtain ⟨vq, q1, q2⟩ := HCx.out; exact ⟨vq, q1.drew, q2.drew⟩
        clear hCx hQx hok hgx
        go_wp2_with fail
        go_cut [] (fun wx => CeAt wx bc bc (cSet (ts k) (ns k) l).1 ∧ TFr 81 bc wr wx)
        case first =>
          go_region_held3 (fun w' => w'.cell? ⟨b, o + k * 2, none⟩ = some (.int .i64 (ts k)) ∧ w'.cell? ⟨b, o + k * 2 + 1, none⟩ = some (.int .i64 (ns k)) ∧ TFr 81 bc wr w')
            (exact HS.out _ (by first | exact hF1 | exact (Fr.refl _ _).drew | exact Fr.refl _ _))
            (first | (go_at_call 16; refine (C2.out _ HCd.out).mono ?_; rintro e w' ⟨rfl, hc9, hf9⟩; have hF1 : TFr 81 bc wr w' := hf9.undrew))
          all_goals (go_wp2_with fail; go_meet)
          exact ⟨hc9, hF1⟩
        case rest =>
          obtain ⟨hCw, hFw⟩ := hcut
          have e0' := (HS.out _ hFw).1
          have e1' := (HS.out _ hFw).2.1
          have HQw : Hid (Quiet w wc) := hFw.old HQX.out hbc
          have HCw := Lib.hid hCw
          clear HS hCw hFw C2 HCx HCd
          have hbw : b < wc.heap.size := Nat.lt_of_lt_of_le hb HQw.out.size
          have GX := HGX.out
          rw [show (cGet obj l).1 = gv from by rw [GX]]
          generalize (cSet (ts k) (ns k) l).1 = l2 at *
          clear GX HGX HOK
          cases ok with
          | false =>
            rw [if_neg (by simp)] at SG
            go_wp2_with fail
            go_roundw
            case rel => exact ⟨k + 1, l2, by go_num, by omega, by omega, by rw [SG.out], SO.out, by rw [SL.out, hL], HCw.out, HQw.out⟩
            case measure => simp [intOf]; omega
          | true =>
            by_cases ht : ts k = obj
            · rw [if_pos ⟨rfl, ht⟩] at SG
              have ht' : (ts k == obj) = true := by simpa using ht
              clear ht
              go_wp2_with ((go_at_call 17; refine (rLow _ _).mono ?_; rintro e w7 ⟨rfl, hf7⟩; have HF7 := Lib.hid hf7; clear hf7))
              go_roundw
              case rel => exact ⟨k + 1, l2, by go_num, by omega, by omega, by rw [SG.out], SO.out, by rw [SL.out, hL], (by obtain ⟨vq, q1, q2⟩ := HCw.out; exact ⟨vq, HF7.out.blk q1 (fun q => q), Fr.owns q2 HF7.out (fun _ _ q => q)⟩), HQw.out.quiet HF7.out⟩
              case measure => simp [intOf]; omega
            · rw [if_neg (fun q => ht q.2)] at SG
              have ht' : (ts k == obj) = false := by simpa using ht
              clear ht
              go_wp2_with fail
              go_roundw
              case rel => exact ⟨k + 1, l2, by go_num, by omega, by omega, by rw [SG.out], SO.out, by rw [SL.out, hL], HCw.out, HQw.out⟩
              case measure => simp [intOf]; omega
      · obtain rfl : k = 40 := by omega
        have G2 := Lib.hid (ceGet hCx hlx obj)
        rw [hgx] at G2
        have HQX := Lib.hid hQx
        clear hCx hQx
        cases ok
        · go_wp2_with (first
            | (go_at_call 15; refine G2.out.mono ?_; rintro e w5 ⟨rfl, rfl⟩)
            | (go_at_call 18; refine (ceLives _).mono ?_; rintro e w6 ⟨rfl, hf⟩))
          go_ret
          exact ⟨rfl, HQX.out.quiet hf⟩
        · go_wp2_with (first
            | (go_at_call 15; refine G2.out.mono ?_; rintro e w5 ⟨rfl, rfl⟩)
            | (go_at_call 18; refine (ceLives _).mono ?_; rintro e w6 ⟨rfl, hf⟩))
          go_ret
          exact ⟨rfl, HQX.out.quiet hf⟩
    · obtain rfl : k = len := by omega
      have G2 := Lib.hid (ceGet hCx hlx obj)
      rw [hgx] at G2
      have HQX := Lib.hid hQx
      clear hCx hQx
      cases ok
      · go_wp2_with (first
          | (go_at_call 15; refine G2.out.mono ?_; rintro e w5 ⟨rfl, rfl⟩)
          | (go_at_call 18; refine (ceLives _).mono ?_; rintro e w6 ⟨rfl, hf⟩))
        go_ret
        exact ⟨rfl, HQX.out.quiet hf⟩
      · go_wp2_with (first
          | (go_at_call 15; refine G2.out.mono ?_; rintro e w5 ⟨rfl, rfl⟩)
          | (go_at_call 18; refine (ceLives _).mono ?_; rintro e w6 ⟨rfl, hf⟩))
        go_ret
        exact ⟨rfl, HQX.out.quiet hf⟩

/-- CellLast over data. -/
theorem ceLastW (W : World) (v0 : Value) (l0 : List (Int × Int × Int)) (h0 : (shL (shP shInt (shP shInt shInt))).rd W W.heap.size l0 [v0]) (v1 : Value) (l1 : List (Int × Int)) (h1 : (shL (shP shInt shInt)).rd W W.heap.size l1 [v1]) (a : Int) (r : -9223372036854775808 ≤ a ∧ a ≤ 9223372036854775807) :
    Calls Try.prog 3 #[v0, v1, .int .i64 a] W fun e w' => e = .returned (.bool true) ∧ Quiet W w' :=
  ceLast W v0 v1 _ (d22_of h0) l1.length _ _ (slR_share h1) a

end Go.Proofs.Ytcmfbkajafbjnaa
