/- Package cell: Clone; what is nil; what the reference says. -/
import Derived.Test.YtcmfbkajafbjnaaCd
import Derived.Test.YtcmfbkajafbjnaaShape
import Derived.Laws.AppendOwn
namespace Go.Proofs.Ytcmfbkajafbjnaa
open Go.RowKit Go.Proofs.YtcmfbkajafbjnaaW.PrintWords Go.Proofs.YtcmfbkajafbjnaaW.PrintLast Go.Proofs.YtcmfbkajafbjnaaW.PrintMore PCellPlays
set_option linter.unusedSimpArgs false
set_option linter.unusedVariables false

theorem enc3_one (l : List (Int × Int × Int)) : ∀ u ∈ enc3 l, u.oneCell' = true := by
  intro u hu
  unfold enc3 at hu
  rw [List.mem_flatMap] at hu
  obtain ⟨x, _, hx⟩ := hu
  simp at hx
  rcases hx with rfl | rfl | rfl <;> rfl

set_option maxHeartbeats 1000000 in
theorem ceClone {w : World} {b base : Nat} {l : List (Int × Int × Int)} (h : CeAt w b base l) (hl : l.length ≤ 1000) :
    Calls Try.prog 36 #[.pointer (some ⟨b, 0, none⟩)] w fun e w' => ∃ b' v, e = .returned (.pointer (some ⟨b', 0, none⟩)) ∧ Blk w' b' #[v] 79 ∧ w'.ownsRow w.heap.size 81 3 v l.length (enc3 l) ∧ Quiet w w' := by
  obtain ⟨v, hb, ho⟩ := h
  have h0 := hb.cell 0; simp at h0
  have hlt := hb.lt
  rcases ho.2 with ⟨rfl, hn⟩ | ⟨g, cap, cur, rfl, _⟩
  · have : l = [] := List.eq_nil_of_length_eq_zero hn
    subst this
    clear hb ho hn hl
    go_enter Try.func36, Try.ntmps36
    go_wp2
    go_ret
    refine ⟨w.heap.size + 1, _, rfl, by simpa using Blk.new (w.alloc (.cells #[] 81)) #[.slice (some ⟨w.heap.size, 0, none⟩) 0 0] 79, ?_, by (repeat (first | exact Fr.refl _ _ | assumption | (refine Fr.quiet ?_ (by assumption)) | refine Fr.quiet ?_ HF.out | refine Fr.quiet ?_ HF2.out | refine Fr.drew ?_ | refine Fr.drewN ?_ _ | refine Fr.alloc ?_ _ | refine Fr.setCell ?_ (.inr (by simp)) _))⟩
    exact World.ownsRow.alloc (World.ownsRow_lit (size := 3) (e := 81) (base := w.heap.size) w #[] 0 (Nat.le_refl _) (by decide) rfl) _
  · have HO := Lib.hid ho; have HB := Lib.hid hb; clear ho hb
    obtain ⟨i81, hi, hzz⟩ := Option.map_eq_some_iff.1 info81
    simp only [Prod.mk.injEq] at hzz
    obtain ⟨hz0, hz1, hz2⟩ := hzz
    go_enter Try.func36, Try.ntmps36
    go_wp2_with (at_builtin; go_loud (refine wpList_append_own _ rfl (.tmp 5) (.tmp 9) 77 rfl w.heap.size 81 i81 (.agg #[.int .i64 0, .int .i64 0, .int .i64 0]) 3 24 Try.underlying77 hi hz0 hz1 hz2 rfl (by decide) (.slice (some ⟨w.heap.size, 0, none⟩) 0 0) 0 [] rfl ?_ ⟨g, 0, none⟩ l.length cap (enc3 l) rfl (enc3_len l) ?_ (enc3_one l) ?_ ?_ ?_ ?_))
    · exact World.ownsRow_lit (size := 3) (e := 81) (base := w.heap.size) w #[] 0 (Nat.le_refl _) (by decide) rfl
    · exact fun j u hu => (HO.out.alloc _).cells (g := g) rfl j u hu
    · simp only [maxLen]; omega
    · omega
    · simp
    · intro v1 w1 h1 hg _
      obtain ⟨A1, c1, rfl⟩ := own_slice h1
      have H1 := Lib.hid h1
      have HF : Quiet w w1 := ((Fr.refl _ _).alloc _).grown hg (fun k hk => .inr (by simp [Value.ownBlock] at hk; omega))
      have HF := Lib.hid HF
      clear h1 hg
      go_wp2
      go_ret
      exact ⟨_, _, rfl, Blk.new _ _ _, H1.out.alloc _, HF.out.alloc _⟩

/-! ### nil -/
theorem ceNilFind (w : World) (obj : Int) : Calls Try.prog 54 #[.pointer none, .int .i64 obj] w fun e w' => e = .returned (.pointer none) ∧ w = w' := by
  go_enter Try.func54, Try.ntmps54
  go_wp2
  go_ret
  exact ⟨rfl, rfl⟩
theorem ceNilGet (w : World) (obj : Int) : Calls Try.prog 15 #[.pointer none, .int .i64 obj] w fun e w' => e = .returned (.tuple #[.int .i64 0, .bool false]) ∧ w = w' := by
  go_enter Try.func15, Try.ntmps15
  go_wp2_with ((go_at_call 54; refine (ceNilFind _ _).mono ?_; rintro e w' ⟨rfl, rfl⟩))
  go_ret2
  exact ⟨rfl, rfl⟩
theorem ceNilGuard (w : World) (obj : Int) : Calls Try.prog 24 #[.pointer none, .int .i64 obj] w fun e w' => e = .returned (.int .i64 (-1)) ∧ w = w' := by
  go_enter Try.func24, Try.ntmps24
  go_wp2_with ((go_at_call 54; refine (ceNilFind _ _).mono ?_; rintro e w' ⟨rfl, rfl⟩))
  go_ret
  exact ⟨rfl, rfl⟩
theorem ceNilSet (w : World) (obj v : Int) : Calls Try.prog 16 #[.pointer none, .int .i64 obj, .int .i64 v] w fun e w' => e = .returned (.bool false) ∧ w = w' := by
  go_enter Try.func16, Try.ntmps16
  go_wp2_with ((go_at_call 54; refine (ceNilFind _ _).mono ?_; rintro e w' ⟨rfl, rfl⟩))
  go_ret
  exact ⟨rfl, rfl⟩
theorem ceNilClone (w : World) : Calls Try.prog 36 #[.pointer none] w fun e w' => e = .returned (.pointer none) ∧ w = w' := by
  go_enter Try.func36, Try.ntmps36
  go_wp2
  go_ret
  exact ⟨rfl, rfl⟩
theorem ceNilAll (w : World) : Calls Try.prog 21 #[.pointer none] w fun e w' => e = .returned (.slice none 0 0) ∧ w = w' := by
  go_enter Try.func21, Try.ntmps21
  go_wp2
  go_ret
  exact ⟨rfl, rfl⟩

/-! ### the reference -/
abbrev De22 := S41
def dk (d : List De22) (i : Nat) : Int := (d.getD i z41).f0
def da (d : List De22) (i : Nat) : Int := (d.getD i z41).f1
def db (d : List De22) (i : Nat) : Int := (d.getD i z41).f2
def newOf (d : List De22) : List (Int × Int × Int) := newL (dk d) (da d) (db d) d.length
theorem few_f (l : List De22) : logjamlaw22_few.f l = some (l.take 60) := by
  unfold logjamlaw22_few.f
  by_cases h : (l.length : Int) > 60
  · rw [if_pos h, if_pos (by omega)]
    simp
    omega
  · rw [if_neg h, List.take_of_length_le (by omega)]
    simp
    omega
theorem allL_len (l : List (Int × Int × Int)) : (allL l).length = l.length := by simp [allL]
theorem new_l0 (d : List De22) (hd : d.length ≤ 60) : ∀ n k (i : Nat), d.length - i = n → i ≤ d.length → n < k → logjamref22_New.l0 k d (allL (newL (dk d) (da d) (db d) i)) (i : Int) = some (allL (newOf d))
  | 0, 0, i, _, _, h => by omega
  | n + 1, 0, i, _, _, h => by omega
  | 0, k + 1, i, h, hi, _ => by
    obtain rfl : i = d.length := by omega
    simp only [logjamref22_New.l0]
    rw [if_neg (by omega)]
    rfl
  | n + 1, k + 1, i, h, hi, hk => by
    have ih := new_l0 d hd n k (i + 1) (by omega) (by omega) (by omega)
    have hl := newL_len (dk d) (da d) (db d) i
    have e : wrap64 ((i : Int) + 1) = ((i + 1 : Nat) : Int) := by unfold wrap64; omega
    simp only [logjamref22_New.l0]
    rw [if_pos (by omega), if_pos (by omega), e]
    have e0 : (rd_T41 d (i : Int)).f0 = dk d i := rfl
    have e1 : (rd_T41 d (i : Int)).f1 = da d i := rfl
    rw [e0, e1]
    by_cases h7 : dk d i = 7
    · rw [if_pos h7, rLow_f, Option.bind_some, if_pos (by rw [allL_len]; omega)]
      rw [← ih]
      simp only [newL, if_pos h7]
      simp [allL]
    · rw [if_neg h7, ← ih]
      simp only [newL, if_neg h7]
theorem new_f (d : List De22) (hd : d.length ≤ 60) : logjamref22_New.f 100 d = some (allL (newOf d)) :=
  new_l0 d hd _ 100 0 rfl (by omega) (by omega)

def fI (obj : Int) (l : List (Int × Int × Int)) : Int := match fidx obj l with | some i => i | none => -1
theorem rd_allL (l : List (Int × Int × Int)) (i : Nat) (h : i < l.length) : rd_T31 (allL l) (i : Int) = ⟨l[i].1, l[i].2.2⟩ := by
  unfold rd_T31 allL
  simp [h]
theorem find_l0 (obj : Int) (l : List (Int × Int × Int)) (hl : l.length ≤ 1000) : ∀ n k (i : Nat), l.length - i = n → i ≤ l.length → (∀ j (hj : j < l.length), j < i → l[j].1 ≠ obj) → n < k → logjamref22_Find.l0 k (allL l) obj (i : Int) = some (fI obj l)
  | 0, 0, i, _, _, _, h => by omega
  | n + 1, 0, i, _, _, _, h => by omega
  | 0, k + 1, i, h, hi, hno, _ => by
    obtain rfl : i = l.length := by omega
    simp only [logjamref22_Find.l0]
    rw [if_neg (by rw [allL_len]; omega)]
    unfold fI
    rw [fidx_none obj l (fun j hj => hno j hj hj)]
  | n + 1, k + 1, i, h, hi, hno, hk => by
    have e : wrap64 ((i : Int) + 1) = ((i + 1 : Nat) : Int) := by unfold wrap64; omega
    simp only [logjamref22_Find.l0]
    rw [if_pos (by rw [allL_len]; omega), if_pos (by omega), e, rd_allL l i (by omega)]
    by_cases hx : l[i].1 = obj
    · rw [if_pos hx]
      unfold fI
      rw [fidx_some obj l i (by omega) hx (fun j hj => hno j (by omega) hj)]
    · rw [if_neg hx]
      exact find_l0 obj l hl n k (i + 1) (by omega) (by omega) (fun j hj h => by
        by_cases e : j = i
        · subst e; exact hx
        · exact hno j hj (by omega)) (by omega)
theorem find_f (obj : Int) (l : List (Int × Int × Int)) (hl : l.length ≤ 1000) : logjamref22_Find.f 1001 (allL l) obj = some (fI obj l) :=
  find_l0 obj l hl _ 1001 0 rfl (by omega) (fun j _ h => by omega) (by omega)
theorem set_f (obj v : Int) (l : List (Int × Int × Int)) (hl : l.length ≤ 1000) : logjamref22_Set.f 1001 (allL l) obj v = some (allL (cSet obj v l).1) := by
  unfold logjamref22_Set.f
  rw [Option.bind_some, if_pos (by rw [allL_len]; simp; omega), Option.bind_some, find_f obj l hl, Option.bind_some, List.nil_append]
  unfold fI cSet
  cases hi : fidx obj l with
  | none => simp
  | some i =>
    obtain ⟨hlt, hx⟩ := fidx_lt obj l i hi
    simp only
    rw [if_pos (by omega), rLow_f, Option.bind_some, if_pos (by omega), if_pos (by rw [allL_len]; omega), rd_allL l i hlt]
    simp [allL, List.map_set, cAt_lt l i hlt]
theorem same22_l0 (l : List Sh22) (hl : l.length ≤ 1000) : ∀ n k (i : Nat), l.length - i = n → i ≤ l.length → n < k → logjamlaw20_Same.l0 k l l (i : Int) = some true
  | 0, 0, i, _, _, h => by omega
  | n + 1, 0, i, _, _, h => by omega
  | 0, k + 1, i, h, hi, _ => by
    simp only [logjamlaw20_Same.l0]
    rw [if_neg (by omega)]
  | n + 1, k + 1, i, h, hi, hk => by
    have e : wrap64 ((i : Int) + 1) = ((i + 1 : Nat) : Int) := by unfold wrap64; omega
    simp only [logjamlaw20_Same.l0]
    rw [if_pos (by omega), if_pos (by omega), if_pos (by omega), if_neg (by simp), e]
    exact same22_l0 l hl n k (i + 1) (by omega) (by omega) (by omega)
theorem same22_f (l : List Sh22) (hl : l.length ≤ 1000) : logjamlaw20_Same.f 1001 l l = some true := by
  unfold logjamlaw20_Same.f
  rw [if_pos rfl]
  exact same22_l0 l hl _ 1001 0 rfl (by omega) (by omega)

/-! ### contracts -/
def R22 (w : World) (base : Nat) (v : Value) (l : List Sh22) : Prop := Kd.R k31 31 w base (fun k => v.ownBlock = some k) v l
theorem R22.of {w : World} {base : Nat} {ok : Nat → Prop} {v : Value} {l : List Sh22} (h : Kd.R k31 31 w base ok v l) : R22 w base v l :=
  ⟨fun k hk => hk, h.2.imp_ (fun _ _ q => q)⟩
theorem R22.fr {w w1 : World} {base : Nat} {v : Value} {l : List Sh22} {F : Nat → Prop} (h : R22 w base v l) (hf : Fr F w w1) (hF : ∀ k, v.ownBlock = some k → ¬ F k) : R22 w1 base v l :=
  Kd.R_step h (fun k ho hk => hf.block k hk (hF k ho))
theorem R22.reads {w : World} {base : Nat} {v : Value} {l : List Sh22} (h : R22 w base v l) : ∃ A c, v = .slice A l.length c ∧ l.length ≤ c ∧ Kd.C k31 w A l.length l := Kd.R_reads h
theorem R22.tfr {w w1 : World} {base b2 : Nat} {v : Value} {l : List Sh22} (h : R22 w base v l) (hf : TFr 81 b2 w w1) : R22 w1 base v l :=
  h.fr hf (fun k hk ⟨_, cells, hc⟩ => by
    obtain ⟨inner, ho⟩ := Kd.R_own h
    obtain ⟨c2, hc2⟩ := own_typed ho k hk
    rw [hc] at hc2
    injection hc2 with hc2
    injection hc2 with _ hc2
    exact absurd hc2 (by decide))
theorem Fr.of_drawn22 {w w' : World} (h : Drawn0 w w') : Quiet w w' := by
  obtain ⟨n, rfl⟩ := h
  exact (Fr.refl _ _).drewN n
/-- A list of objects, to be read. -/
def D22 (w : World) (v : Value) (d : List De22) : Prop := ∃ A c, v = .slice A d.length c ∧ d.length ≤ c ∧ Kd.C k41 w A d.length d ∧ (d ≠ [] → ∃ g o, A = some ⟨g, o, none⟩ ∧ g < w.heap.size)
theorem D22.quiet {w w' : World} {v : Value} {d : List De22} (h : D22 w v d) (hq : Quiet w w') : D22 w' v d := by
  obtain ⟨A, c, h1, h2, h3, h4⟩ := h
  exact ⟨A, c, h1, h2, Kd.C_below h3 (hq.below (fun _ _ q => q)), fun q => by obtain ⟨g, o, e, hg⟩ := h4 q; exact ⟨g, o, e, Nat.lt_of_lt_of_le hg hq.size⟩⟩
theorem few22 (w : World) (v : Value) (d : List De22) (hD : D22 w v d) :
    Calls Try.prog 13 #[v] w fun e w' => ∃ A' c', e = .returned (.slice A' (d.take 60).length c') ∧ D22 w' (.slice A' (d.take 60).length c') (d.take 60) ∧ Quiet w w' := by
  obtain ⟨A, c, rfl, hc, hC, _⟩ := hD
  refine (logjamlaw22_few.calls A c d _ w hC hc (few_f d)).mono fun e w' ⟨v, h1, h2, h3⟩ => ?_
  obtain ⟨A', c', rfl, h4, h5⟩ := Kd.R_reads h2
  refine ⟨A', c', h1, ⟨A', c', rfl, h4, h5, fun q => ?_⟩, Fr.of_below h3⟩
  obtain ⟨inner, ho⟩ := Kd.R_own h2
  rcases ho.2 with ⟨e, hn⟩ | ⟨g, cap, cur, e, hg, hb, _⟩
  · exact absurd (List.eq_nil_of_length_eq_zero hn) q
  · simp only [Value.slice.injEq, true_and] at e
    obtain ⟨rfl, rfl⟩ := e
    exact ⟨g, 0, rfl, (ho.lt g rfl).2⟩
theorem rNew22 (w : World) (v : Value) (d : List De22) (hd : d.length ≤ 60) (hD : D22 w v d) :
    Calls Try.prog 19 #[v] w fun e w' => ∃ A' c', e = .returned (.slice A' (allL (newOf d)).length c') ∧ R22 w' w.heap.size (.slice A' (allL (newOf d)).length c') (allL (newOf d)) ∧ Quiet w w' := by
  obtain ⟨A, c, rfl, hc, hC, _⟩ := hD
  refine (logjamref22_New.calls 100 A c d _ w hC hc (new_f d hd)).mono fun e w' ⟨v, h1, h2, h3⟩ => ?_
  obtain ⟨A', c', rfl⟩ := Kd.R_slice h2
  exact ⟨A', c', h1, R22.of h2, Fr.of_below h3⟩
theorem rFind22 (w : World) (base : Nat) (A : Option Addr) (c : Nat) (l : List (Int × Int × Int)) (hl : l.length ≤ 1000) (hR : R22 w base (.slice A (allL l).length c) (allL l)) (obj : Int) :
    Calls Try.prog 22 #[.slice A (allL l).length c, .int .i64 obj] w fun e w' => e = .returned (.int .i64 (fI obj l)) ∧ Quiet w w' := by
  obtain ⟨A', c', he, hc, hC⟩ := hR.reads
  simp only [Value.slice.injEq, true_and] at he
  obtain ⟨rfl, rfl⟩ := he
  exact (logjamref22_Find.calls 1001 _ _ _ _ _ w hC hc (find_f obj l hl)).mono fun e w' ⟨h1, h2⟩ => ⟨h1, Fr.of_drawn22 h2⟩
theorem rSet22 (w : World) (base : Nat) (A : Option Addr) (c : Nat) (l : List (Int × Int × Int)) (hl : l.length ≤ 1000) (hR : R22 w base (.slice A (allL l).length c) (allL l)) (obj v : Int) :
    Calls Try.prog 23 #[.slice A (allL l).length c, .int .i64 obj, .int .i64 v] w fun e w' => ∃ A' c', e = .returned (.slice A' (allL (cSet obj v l).1).length c') ∧ R22 w' w.heap.size (.slice A' (allL (cSet obj v l).1).length c') (allL (cSet obj v l).1) ∧ Quiet w w' := by
  obtain ⟨A', c', he, hc, hC⟩ := hR.reads
  simp only [Value.slice.injEq, true_and] at he
  obtain ⟨rfl, rfl⟩ := he
  exact (logjamref22_Set.calls 1001 _ _ _ _ _ _ w hC hc (set_f obj v l hl)).mono fun e w' ⟨v, h1, h2, h3⟩ => by
    obtain ⟨A', c', rfl⟩ := Kd.R_slice h2
    exact ⟨A', c', h1, R22.of h2, Fr.of_below h3⟩
theorem sameYes22 (w : World) (base base' : Nat) (l : List Sh22) (hl : l.length ≤ 1000) (v v' : Value) (h : R22 w base v l) (h' : R22 w base' v' l) :
    Calls Try.prog 20 #[v, v'] w fun e w' => e = .returned (.bool true) ∧ Quiet w w' := by
  obtain ⟨A, c, rfl, hc, hC⟩ := h.reads
  obtain ⟨A', c', rfl, hc', hC'⟩ := h'.reads
  exact (logjamlaw20_Same.calls 1001 _ _ l _ _ l true w hC hc hC' hc' (same22_f l hl)).mono fun e w' ⟨h1, h2⟩ => ⟨h1, Fr.of_drawn22 h2⟩
/-- cell.New of a list of objects. -/
theorem ceNewD (w : World) (v : Value) (d : List De22) (hd : d.length ≤ 60) (hD : D22 w v d) :
    Calls Try.prog 14 #[v] w fun e w' => e = .returned (.pointer (some ⟨w.heap.size, 0, none⟩)) ∧ CeAt w' w.heap.size w.heap.size (newOf d) ∧ Quiet w w' := by
  obtain ⟨A, c, rfl, hc, hC, hA⟩ := hD
  refine ceNew w _ d.length hd (dk d) (da d) (db d) ?_
  by_cases h0 : d = []
  · subst h0
    exact .inl ⟨rfl, A, c, rfl⟩
  · right
    obtain ⟨g, o, rfl, hg⟩ := hA h0
    refine ⟨g, o, c, hg, by omega, rfl, fun i j hi hj => ?_⟩
    obtain ⟨ad, e, h1, h2, h3⟩ := at_T41 hC i (by omega) (by omega)
    simp only [Option.some.injEq] at e
    subst e
    have ea : (⟨g, o, none⟩ : Addr).add ((i : Int).toNat * 3) = ⟨g, o + i * 3, none⟩ := by
      rw [addr_add]; simp
    rw [ea] at h1 h2 h3
    unfold opD
    match j, hj with
    | 0, _ => exact h1
    | 1, _ => exact h2
    | 2, _ => exact h3

theorem newOf_len (d : List De22) : (newOf d).length ≤ d.length := newL_len _ _ _ _
theorem cSet_len (obj v : Int) (l : List (Int × Int × Int)) : (cSet obj v l).1.length = l.length := by
  unfold cSet
  split <;> simp

/-! ### lives -/
def lL : List (Int × Int × Int) := [(1, 0, 5)]
def lL2 : List (Int × Int × Int) := [(1, 0, -2147483648)]
theorem cG0 : cGet 1 lL = (5, true) := by decide
theorem low_a : low 2147483648 = -2147483648 := by unfold low wrap32; omega
theorem low_5 : low 5 = 5 := by unfold low wrap32; omega
theorem cS0 : cSet 1 2147483648 lL = (lL2, true) := by simp [cSet, lL, lL2, fidx, cAt, low_a]
theorem cG1 : cGet 1 lL2 = (-2147483648, true) := by decide
theorem cU1 : cGuard 1 lL2 = 0 := by decide
theorem cS1 : cSet 0 1 lL2 = (lL2, false) := by decide
def lk (i : Nat) : Int := if i = 0 then 1 else 7
def la (i : Nat) : Int := if i = 0 then 0 else 5
theorem lN : newL lk la (fun _ => 0) 2 = lL := by simp [newL, lk, la, lL, low_5]

set_option maxHeartbeats 1000000 in
theorem ceLives (w : World) : Calls Try.prog 18 #[] w fun e w' => e = .returned (.bool true) ∧ Quiet w w' := by
  have C0 := Lib.hid (fun w v h => ceNew w v 2 (by omega) lk la (fun _ => 0) h)
  rw [lN] at C0
  have C1 := Lib.hid (fun (w : World) (b base : Nat) (h : CeAt w b base lL) => ceGet h (by decide) 1)
  rw [cG0] at C1
  have C2 := Lib.hid (fun (w : World) (b base : Nat) (h : CeAt w b base lL) => ceSet h (by decide) 1 2147483648)
  rw [cS0] at C2
  have C3 := Lib.hid (fun (w : World) (b base : Nat) (h : CeAt w b base lL2) => ceGet h (by decide) 1)
  rw [cG1] at C3
  have C4 := Lib.hid (fun (w : World) (b base : Nat) (h : CeAt w b base lL2) => ceGuard h (by decide) 1)
  rw [cU1] at C4
  have C5 := Lib.hid (fun (w : World) (b base : Nat) (h : CeAt w b base lL2) => ceSet h (by decide) 0 1)
  rw [cS1] at C5
  go_enter Try.func18, Try.ntmps18
  go_wp2_with fail
  refine (C0.out _ _ (.inr ⟨w.heap.size, 0, 2, by simp, by decide, rfl, ?_⟩)).mono ?_
  · intro i j hi hj
    have hi2 : i = 0 ∨ i = 1 := by omega
    have hj2 : j = 0 ∨ j = 1 ∨ j = 2 := by omega
    have hX := Blk.new w #[.int .i64 1, .int .i64 0, .int .i64 0, .int .i64 7, .int .i64 5, .int .i64 0] 41
    rcases hi2 with rfl | rfl <;> rcases hj2 with rfl | rfl | rfl <;> (refine (hX.cell _).trans ?_; rfl)
  rintro e w1 ⟨rfl, h1, hf1⟩
  have HH := Lib.hid h1; have HF := Lib.hid (((Fr.refl (fun _ => False) w).alloc (.cells #[.int .i64 1, .int .i64 0, .int .i64 0, .int .i64 7, .int .i64 5, .int .i64 0] 41)).quiet hf1)
  clear h1 hf1
  generalize hb : (w.alloc (.cells #[.int .i64 1, .int .i64 0, .int .i64 0, .int .i64 7, .int .i64 5, .int .i64 0] 41)).heap.size = bc at *
  have hbc : w.heap.size ≤ bc := by rw [← hb]; simp
  clear hb
  go_wp2_with fail
  refine (C1.out _ _ _ HH.out).mono ?_
  rintro e w2 ⟨rfl, rfl⟩
  go_wp2_with fail
  refine (C2.out _ _ _ HH.out).mono ?_
  rintro e w2 ⟨rfl, h2, hf2⟩
  have HH2 := Lib.hid h2; have HF2 := Lib.hid hf2; clear h2 hf2
  go_wp2_with fail
  refine (C3.out _ _ _ HH2.out).mono ?_
  rintro e w3 ⟨rfl, rfl⟩
  go_wp2_with (first
    | (go_at_call 24; refine (C4.out _ _ _ HH2.out).mono ?_; rintro e w' ⟨rfl, rfl⟩)
    | (go_at_call 16; refine (C5.out _ _ _ HH2.out).mono ?_; rintro e w3 ⟨rfl, h3, hf3⟩))
  go_ret
  exact ⟨rfl, hf3.old (HF2.out.old HF.out hbc) hbc⟩

end Go.Proofs.Ytcmfbkajafbjnaa
