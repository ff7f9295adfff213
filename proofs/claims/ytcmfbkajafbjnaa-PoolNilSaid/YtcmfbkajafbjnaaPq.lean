/- What the pool's reference answers: the plain law. -/
import Derived.Test.YtcmfbkajafbjnaaPs
namespace Go.Proofs.Ytcmfbkajafbjnaa
open Go.RowKit Go.Proofs.YtcmfbkajafbjnaaW.PrintWords Go.Proofs.YtcmfbkajafbjnaaW.PrintLast Go.Proofs.YtcmfbkajafbjnaaW.PrintMore PPoolPlays
set_option linter.unusedSimpArgs false
set_option linter.unusedVariables false

abbrev Sh20 := S31

def fnd (t : Int) : List Sh20 → Int
  | [] => 0
  | x :: xs => if x.f0 = t then x.f1 else fnd t xs

theorem rd_lt (l : List Sh20) (i : Nat) (h : i < l.length) : rd_T31 l (i : Int) = l[i] := by
  unfold rd_T31; simp [h]

theorem held_l0 (l : List Sh20) (T t : Int) (hl : l.length ≤ 1000) : ∀ (d k i : Nat), i ≤ l.length → l.length - i = d → d < k → logjamref20_Held.l0 k t i T l = some (fnd t (l.drop i)) := by
  intro d
  induction d with
  | zero =>
    intro k i h1 h2 h3
    obtain ⟨k, rfl⟩ : ∃ m, k = m + 1 := ⟨k - 1, by omega⟩
    obtain rfl : i = l.length := by omega
    simp only [logjamref20_Held.l0]
    rw [if_neg (by omega)]
    simp [fnd]
  | succ d ih =>
    intro k i h1 h2 h3
    obtain ⟨k, rfl⟩ : ∃ m, k = m + 1 := ⟨k - 1, by omega⟩
    have hlt : i < l.length := by omega
    simp only [logjamref20_Held.l0]
    rw [if_pos (by omega), if_pos (by omega), rd_lt l i hlt, List.drop_eq_getElem_cons hlt]
    simp only [fnd]
    by_cases c : l[i].f0 = t
    · rw [if_pos c, if_pos c]
    · rw [if_neg c, if_neg c, show wrap64 ((i : Int) + 1) = ((i + 1 : Nat) : Int) by unfold wrap64; omega]
      exact ih k (i + 1) (by omega) (by omega) (by omega)

theorem fnd_snoc (t : Int) (x : Sh20) (l : List Sh20) (h : ∀ y ∈ l, y.f0 ≠ x.f0) : fnd t (l ++ [x]) = if x.f0 = t then x.f1 else fnd t l := by
  induction l with
  | nil => simp [fnd]
  | cons y l ih =>
    have h1 := h y (by simp)
    have h2 := ih (fun z hz => h z (by simp [hz]))
    simp only [List.cons_append, fnd, h2]
    by_cases c : x.f0 = t
    · subst c; simp [h1]
    · simp [c]

/-- Who has some by g, below k. -/
def shF (g : Nat → Int) : Nat → List Sh20
  | 0 => []
  | k + 1 => if 0 < g k then shF g k ++ [⟨k, g k⟩] else shF g k
theorem shF_succ (g : Nat → Int) (k : Nat) : shF g (k + 1) = if 0 < g k then shF g k ++ [⟨k, g k⟩] else shF g k := rfl
theorem shTo_shF (hs : List Int) (k : Nat) : shTo hs k = shF (fun i => hs.getD i 0) k := by
  induction k with
  | zero => rfl
  | succ k ih => simp only [shTo, shF, ih]
theorem shF_congr {g g' : Nat → Int} : ∀ k, (∀ i, i < k → g i = g' i) → shF g k = shF g' k
  | 0, _ => rfl
  | k + 1, h => by simp only [shF]; rw [shF_congr k (fun i hi => h i (by omega)), h k (by omega)]
theorem shF_mem {g : Nat → Int} : ∀ k, ∀ x ∈ shF g k, 0 ≤ x.f0 ∧ x.f0 < k ∧ 0 < x.f1
  | 0, x, h => by simp [shF] at h
  | k + 1, x, h => by
    simp only [shF] at h
    split at h
    · rename_i c
      rcases List.mem_append.1 h with h | h
      · have := shF_mem k x h; omega
      · simp at h; subst h; simp; omega
    · have := shF_mem k x h; omega
theorem shF_len {g : Nat → Int} : ∀ k, (shF g k).length ≤ k
  | 0 => by simp [shF]
  | k + 1 => by
    simp only [shF]
    have := shF_len (g := g) k
    split
    · simp; omega
    · omega
theorem fnd_shF (g : Nat → Int) (t : Int) : ∀ k, fnd t (shF g k) = if 0 ≤ t ∧ t < k ∧ 0 < g t.toNat then g t.toNat else 0
  | 0 => by simp [shF, fnd]; omega
  | k + 1 => by
    simp only [shF]
    by_cases c : 0 < g k
    · rw [if_pos c, fnd_snoc _ _ _ (fun y hy => by have := (shF_mem k y hy).2.1; simp; omega), fnd_shF g t k]
      by_cases e : (k : Int) = t
      · subst e; simp [c]; intro h; omega
      · simp only [e, if_false]
        exact ite_iff (by omega) _ _
    · rw [if_neg c, fnd_shF g t k]
      by_cases e : (k : Int) = t
      · subst e; simp [c]
      · exact ite_iff (by omega) _ _

theorem held_f (hs : List Int) (hh : hs.length = 64) (h0 : ∀ x ∈ hs, 0 ≤ x) (T t : Int) (k : Nat) (hk : 65 ≤ k) : logjamref20_Held.f k T (shTo hs 64) t = some (Pl.held ⟨T, 0, hs⟩ t) := by
  unfold logjamref20_Held.f
  have hl := shTo_len hs 64
  have q := held_l0 (shTo hs 64) T t (by omega) _ k 0 (by omega) rfl (by omega)
  simp only [List.drop_zero] at q
  rw [show ((0 : Nat) : Int) = 0 from rfl] at q
  rw [q, shTo_shF, fnd_shF]
  unfold Pl.held
  by_cases c : 0 ≤ t ∧ t < 64
  · obtain ⟨c1, c2⟩ := c
    have hm : 0 ≤ hs.getD t.toNat 0 := (getD_le_sum hs h0 t.toNat).1
    by_cases c3 : 0 < hs.getD t.toNat 0
    · rw [if_pos ⟨c1, by omega, c3⟩, if_pos ⟨c1, c2⟩]
    · rw [if_neg (by omega), if_pos ⟨c1, c2⟩]; congr 1; show (0 : Int) = hs.getD t.toNat 0; omega
  · rw [if_neg (by omega), if_neg c]

def sumF : List Sh20 → Int
  | [] => 0
  | x :: xs => x.f1 + sumF xs
theorem sumF_append (a b : List Sh20) : sumF (a ++ b) = sumF a + sumF b := by
  induction a with
  | nil => simp [sumF]
  | cons x a ih => simp [sumF, ih]; omega
theorem sumF_nonneg (l : List Sh20) (h : ∀ x ∈ l, 0 < x.f1) : 0 ≤ sumF l := by
  induction l with
  | nil => simp [sumF]
  | cons x l ih => have := h x (by simp); have := ih (fun y hy => h y (by simp [hy])); simp [sumF]; omega

theorem free_l0 (l : List Sh20) (T : Int) (hl : l.length ≤ 1000) (hp : ∀ x ∈ l, 0 < x.f1) : ∀ (d k i : Nat) (n : Int), i ≤ l.length → l.length - i = d → d < k → n ≤ 1000 → 0 ≤ n - sumF (l.drop i) → logjamref20_Free.l0 k n i T l = some (n - sumF (l.drop i)) := by
  intro d
  induction d with
  | zero =>
    intro k i n h1 h2 h3 _ _
    obtain ⟨k, rfl⟩ : ∃ m, k = m + 1 := ⟨k - 1, by omega⟩
    obtain rfl : i = l.length := by omega
    simp only [logjamref20_Free.l0]
    rw [if_neg (by omega)]
    simp [sumF]
  | succ d ih =>
    intro k i n h1 h2 h3 h4 h5
    obtain ⟨k, rfl⟩ : ∃ m, k = m + 1 := ⟨k - 1, by omega⟩
    have hlt : i < l.length := by omega
    have hpi := hp l[i] (List.getElem_mem hlt)
    have hpd := sumF_nonneg (l.drop (i + 1)) (fun x hx => hp x (List.mem_of_mem_drop hx))
    simp only [logjamref20_Free.l0]
    rw [List.drop_eq_getElem_cons hlt] at h5 ⊢
    simp only [sumF] at h5 ⊢
    rw [if_pos (by omega), if_pos (by omega), rd_lt l i hlt, show wrap64 ((i : Int) + 1) = ((i + 1 : Nat) : Int) by unfold wrap64; omega, show wrap64 (n - l[i].f1) = n - l[i].f1 by unfold wrap64; omega]
    rw [ih k (i + 1) (n - l[i].f1) (by omega) (by omega) (by omega) (by omega) (by omega)]
    congr 1; omega

theorem sumF_shTo (hs : List Int) (h0 : ∀ x ∈ hs, 0 ≤ x) : ∀ k, k ≤ hs.length → sumF (shTo hs k) = (hs.take k).sum
  | 0, _ => by simp [shTo, sumF]
  | k + 1, h => by
    have ih := sumF_shTo hs h0 k (by omega)
    rw [List.take_succ_eq_append_getElem (by omega), List.sum_append]
    have e : hs.getD k 0 = hs[k] := by simp [show k < hs.length by omega]
    have hn := h0 hs[k] (List.getElem_mem _)
    simp only [shTo, e]
    split
    · rw [sumF_append, ih]; simp [sumF]
    · rw [ih]; simp; omega

theorem free_f (p : Pl) (hp : p.ok) (k : Nat) (hk : 65 ≤ k) : logjamref20_Free.f k p.T (shTo p.hs 64) = some p.F := by
  obtain ⟨h1, h2, h3, h4, h5⟩ := hp
  unfold logjamref20_Free.f
  have hl := shTo_len p.hs 64
  have hs : sumF (shTo p.hs 64) = p.hs.sum := by rw [sumF_shTo p.hs h3 64 (by omega), List.take_of_length_le (by omega)]
  have q := free_l0 (shTo p.hs 64) p.T (by omega) (fun x hx => by rw [shTo_shF] at hx; exact (shF_mem 64 x hx).2.2) _ k 0 p.T (by omega) rfl (by omega) h5 (by simp [hs]; omega)
  simp only [List.drop_zero, hs] at q
  rw [show ((0 : Nat) : Int) = 0 from rfl] at q
  rw [q]; congr 1; omega

theorem with_l0 (hs : List Int) (hh : hs.length = 64) (h0 : ∀ x ∈ hs, 0 ≤ x) (T t n : Int) (g : Nat → Int) (hg : ∀ i : Nat, g i = if (i : Int) = t then n else hs.getD i 0) : ∀ (d k j : Nat), j ≤ 64 → 64 - j = d → d + 70 < k →
    logjamref20_With.l0 k t n (shF g j) j T (shTo hs 64) = some (T, shF g 64) := by
  have HF := held_f hs hh h0 T
  generalize shTo hs 64 = l at *
  generalize hr : shF g 64 = r
  have HR := Lib.hid hr
  clear hr
  intro d
  induction d with
  | zero =>
    intro k j h1 h2 h3
    obtain ⟨k, rfl⟩ : ∃ m, k = m + 1 := ⟨k - 1, by omega⟩
    obtain rfl : j = 64 := by omega
    simp only [logjamref20_With.l0]
    rw [if_neg (by omega), HR.out]
  | succ d ih =>
    intro k j h1 h2 h3
    obtain ⟨k, rfl⟩ : ∃ m, k = m + 1 := ⟨k - 1, by omega⟩
    have hl := shF_len (g := g) j
    have hi := ih k (j + 1) (by omega) (by omega) (by omega)
    simp only [logjamref20_With.l0]
    rw [if_pos (by omega), HF j k (by omega)]
    simp only [Option.bind_some]
    rw [show wrap64 ((j : Int) + 1) = ((j + 1 : Nat) : Int) by unfold wrap64; omega]
    have hheld : Pl.held ⟨T, 0, hs⟩ (j : Int) = hs.getD j 0 := by unfold Pl.held; rw [if_pos ⟨by omega, by omega⟩]; simp
    rw [hheld]
    rw [shF_succ] at hi
    have hgj := hg j
    by_cases c : (j : Int) = t
    · rw [if_pos c] at hgj ⊢
      rw [hgj] at hi
      by_cases c2 : n > 0
      · rw [if_pos c2, if_pos (by omega)]
        rw [if_pos (by omega)] at hi
        exact hi
      · rw [if_neg c2]
        rw [if_neg (by omega)] at hi
        exact hi
    · rw [if_neg c] at hgj ⊢
      rw [hgj] at hi
      by_cases c2 : hs.getD j 0 > 0
      · rw [if_pos c2, if_pos (by omega)]
        rw [if_pos (by omega)] at hi
        exact hi
      · rw [if_neg c2]
        rw [if_neg (by omega)] at hi
        exact hi

theorem with_f (hs : List Int) (hh : hs.length = 64) (h0 : ∀ x ∈ hs, 0 ≤ x) (T t n : Int) (k : Nat) (hk : 200 ≤ k) :
    logjamref20_With.f k T (shTo hs 64) t n = some (T, if 0 ≤ t ∧ t < 64 then shTo (hs.set t.toNat n) 64 else shTo hs 64) := by
  unfold logjamref20_With.f
  have q : logjamref20_With.l0 k t n [] 0 T (shTo hs 64) = some (T, shF (fun i => if (i : Int) = t then n else hs.getD i 0) 64) := with_l0 hs hh h0 T t n _ (fun _ => rfl) 64 k 0 (by omega) rfl (by omega)
  rw [q]
  by_cases c : 0 ≤ t ∧ t < 64
  · rw [if_pos c, shTo_shF]
    congr 2
    refine shF_congr 64 (fun i hi => ?_)
    by_cases e : (i : Int) = t
    · have e2 : t.toNat = i := by omega
      rw [if_pos e, e2]; simp [show i < hs.length by omega]
    · have e2 : t.toNat ≠ i := by omega
      rw [if_neg e]
      simp [List.getElem?_set, e2]
  · rw [if_neg c, shTo_shF]
    congr 2
    refine shF_congr 64 (fun i hi => ?_)
    rw [if_neg (by omega)]

theorem act_0 (p : Pl) (t n : Int) : p.act 0 t n = ((p.take t n).1, b2i (p.take t n).2) := by simp [Pl.act]
theorem act_1 (p : Pl) (t n : Int) : p.act 1 t n = p.give t n := by simp [Pl.act]
theorem act_2 (p : Pl) (k t n : Int) (h0 : k ≠ 0) (h1 : k ≠ 1) : p.act k t n = p.back t := by simp [Pl.act, h0, h1]

theorem do_f (p : Pl) (hp : p.ok) (k t n : Int) (f : Nat) (hf : 1000 ≤ f) : logjamref20_Do.f f p.T (shTo p.hs 64) k t n = some ((p.act k t n).1.T, shTo (p.act k t n).1.hs 64, (p.act k t n).2) := by
  obtain ⟨f, rfl⟩ : ∃ m, f = m + 2 := ⟨f - 2, by omega⟩
  obtain ⟨T, F, hs⟩ := p
  have HH := held_f hs hp.1 hp.2.2.1 T t (f + 2) (by omega)
  have HF := free_f ⟨T, F, hs⟩ hp (f + 1) (by omega)
  have hh0 := hp.has t.toNat
  obtain ⟨h1, h2, h3, h4, h5⟩ := hp
  simp only at *
  have hheld : Pl.held ⟨T, 0, hs⟩ t = Pl.held ⟨T, F, hs⟩ t := rfl
  rw [hheld] at HH
  unfold logjamref20_Do.f
  simp only [logjamref20_Do.j0, logjamref20_Do.j1, logjamref20_Do.j2, HH, HF, Option.bind_some]
  have n10 : ¬ (1 : Int) = 0 := by decide
  by_cases c0 : t < 0
  · have e : Pl.held ⟨T, F, hs⟩ t = 0 := by unfold Pl.held; rw [if_neg (by omega)]
    rw [if_pos c0, e]
    simp only [if_true]
    by_cases k0 : k = 0
    · subst k0
      simp only [if_true, act_0, Pl.take]; rw [if_neg (by omega)]; rfl
    by_cases k1 : k = 1
    · subst k1
      simp only [if_true, n10, if_false, act_1, Pl.give]; rw [if_neg (by omega)]
    · rw [act_2 _ _ _ _ k0 k1]
      simp only [k0, k1, if_false, Pl.back, e]
      rw [with_f hs h1 h3 T t 0 (f + 1) (by omega), if_neg (by omega)]; rfl
  rw [if_neg c0]
  by_cases c1 : t > 63
  · have e : Pl.held ⟨T, F, hs⟩ t = 0 := by unfold Pl.held; rw [if_neg (by omega)]
    rw [e]
    simp only [c1, decide_true, if_true]
    by_cases k0 : k = 0
    · subst k0
      simp only [if_true, act_0, Pl.take]; rw [if_neg (by omega)]; rfl
    by_cases k1 : k = 1
    · subst k1
      simp only [if_true, n10, if_false, act_1, Pl.give]; rw [if_neg (by omega)]
    · rw [act_2 _ _ _ _ k0 k1]
      simp only [k0, k1, if_false, Pl.back, e]
      rw [with_f hs h1 h3 T t 0 (f + 1) (by omega), if_neg (by omega)]; rfl
  · have e : Pl.held ⟨T, F, hs⟩ t = hs.getD t.toNat 0 := by unfold Pl.held; rw [if_pos (by omega)]
    have ct : 0 ≤ t ∧ t < 64 := by omega
    rw [e]
    have WF := fun n f h => with_f hs h1 h3 T t n f h
    simp only [ct, and_self, if_true] at WF
    generalize hx : hs.getD t.toNat 0 = x at *
    simp only [c1, decide_false, Bool.false_eq_true, if_false]
    by_cases k0 : k = 0
    · subst k0
      simp only [if_true, act_0]
      by_cases c2 : n < 1
      · simp only [c2, if_true, Pl.take]; rw [if_neg (by omega)]; rfl
      simp only [c2, if_false]
      by_cases c3 : n > F
      · simp only [c3, decide_true, if_true, Pl.take]; rw [if_neg (by omega)]; rfl
      · simp only [c3, decide_false, Bool.false_eq_true, if_false]
        rw [show wrap64 (x + n) = x + n by unfold wrap64; omega, WF (x + n) f (by omega)]
        simp only [Pl.take]
        rw [if_pos ⟨ct.1, ct.2, by omega, by omega⟩]; simp only [hx]; rfl
    by_cases k1 : k = 1
    · subst k1
      simp only [if_true, n10, if_false, act_1]
      by_cases c2 : n < 1
      · simp only [c2, decide_true, if_true, Pl.give]; rw [if_neg (by omega)]
      simp only [c2, decide_false, Bool.false_eq_true, if_false]
      by_cases c3 : n > x
      · simp only [c3, if_true, Pl.give]; rw [if_pos ⟨ct.1, ct.2, by omega⟩, if_neg (by rw [hx]; omega)]
      · simp only [c3, if_false]
        rw [show wrap64 (x - n) = x - n by unfold wrap64; omega, WF (x - n) f (by omega)]
        simp only [Pl.give]
        rw [if_pos ⟨ct.1, ct.2, by omega⟩, if_pos (by rw [hx]; omega)]; simp only [hx]; rfl
    · rw [act_2 _ _ _ _ k0 k1]
      simp only [k0, k1, if_false]
      rw [WF 0 (f + 1) (by omega)]
      simp only [Pl.back, e]
      by_cases c3 : 0 < x
      · rw [if_pos c3]
        simp only [Pl.give]
        rw [if_pos ⟨ct.1, ct.2, by omega⟩, if_pos (by rw [hx]; omega)]
        simp only [hx, Int.sub_self]; rfl
      · rw [if_neg c3]
        have hx0 : x = 0 := by omega
        have hset : hs.set t.toNat 0 = hs := by
          apply List.ext_getElem?
          intro i
          by_cases hi : t.toNat = i
          · subst hi
            have hlt : t.toNat < hs.length := by omega
            have : hs.getD t.toNat 0 = hs[t.toNat] := by simp [hlt]
            simp [hlt]
            omega
          · simp [List.getElem?_set, hi]
        rw [hset]; rfl

theorem same_l0 (l : List Sh20) (hl : l.length ≤ 1000) : ∀ (d k i : Nat), i ≤ l.length → l.length - i = d → d < k → logjamlaw20_Same.l0 k l l i = some true := by
  intro d
  induction d with
  | zero =>
    intro k i h1 h2 h3
    obtain ⟨k, rfl⟩ : ∃ m, k = m + 1 := ⟨k - 1, by omega⟩
    simp only [logjamlaw20_Same.l0]
    rw [if_neg (by omega)]
  | succ d ih =>
    intro k i h1 h2 h3
    obtain ⟨k, rfl⟩ : ∃ m, k = m + 1 := ⟨k - 1, by omega⟩
    simp only [logjamlaw20_Same.l0]
    rw [if_pos (by omega), if_pos (by omega), if_pos (by omega), if_neg (by simp), show wrap64 ((i : Int) + 1) = ((i + 1 : Nat) : Int) by unfold wrap64; omega]
    exact ih k (i + 1) (by omega) (by omega) (by omega)
theorem same_f (l : List Sh20) (hl : l.length ≤ 1000) (k : Nat) (hk : 1001 ≤ k) : logjamlaw20_Same.f k l l = some true := by
  unfold logjamlaw20_Same.f
  rw [if_pos rfl]
  exact same_l0 l hl _ k 0 (by omega) rfl (by omega)

end Go.Proofs.Ytcmfbkajafbjnaa
