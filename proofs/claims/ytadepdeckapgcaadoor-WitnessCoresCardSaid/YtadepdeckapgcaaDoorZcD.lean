/- LawWitnessCores, part 4: what the proof stands on (merged by wip/shake.py out of the session's texts and of what the print wrote for this claim). -/
import Derived.ArgAppend
import Derived.BigQuiet
import Derived.Deep.QuietTactic
import Derived.Deep.RegionHeld3
import Derived.Deep.RegionHeldLaw
import Derived.Test.YtadepdeckapgcaaDoorZcC

section
namespace Go.Proofs.YtadepdeckapgcaaDoor
open Go.RowKit Go.Proofs.YtadepdeckapgcaaDoorW.PrintWords Go.Proofs.YtadepdeckapgcaaDoorW.PrintLast Go.Proofs.YtadepdeckapgcaaDoorW.PrintMore PWitnessTells
set_option linter.unusedSimpArgs false
set_option linter.unusedVariables false
def sF (dead : Nat) : Nat → List NShare → Nat
  | S, [] => S
  | S, s :: r => sF dead (if hasB dead s.f0 then withB S s.f0 else S) r
theorem sF_cons (dead S : Nat) (s : NShare) (r : List NShare) : sF dead S (s :: r) = sF dead (if hasB dead s.f0 then withB S s.f0 else S) r := rfl
def nF (dead : Nat) : Nat → List (List NTerm) → Nat
  | S, [] => S
  | S, w :: r => nF dead (sF dead S (lackOf dead w)) r
theorem nF_cons (dead S : Nat) (w : List NTerm) (r : List (List NTerm)) : nF dead S (w :: r) = nF dead (sF dead S (lackOf dead w)) r := rfl
def rF (dead : Nat) : Nat → List Int → List NNode → Nat
  | S, t :: d, x :: n => rF dead (if hasB S t then nF dead S x.f1 else S) d n
  | S, _, _ => S
theorem rF_cons (dead S : Nat) (t : Int) (d : List Int) (x : NNode) (n : List NNode) : rF dead S (t :: d) (x :: n) = rF dead (if hasB S t then nF dead S x.f1 else S) d n := rfl
def kF (dead : Nat) (d : List Int) (n : List NNode) : Nat → Nat → Nat
  | 0, S => S
  | r + 1, S => kF dead d n r (rF dead S d n)
theorem kF_succ (dead : Nat) (d : List Int) (n : List NNode) (r S : Nat) : kF dead d n (r + 1) S = kF dead d n r (rF dead S d n) := rfl
theorem ite_lt' {c : Prop} [Decidable c] {a b B : Nat} (ha : a < B) (hb : b < B) : (if c then a else b) < B := by split <;> assumption
theorem sF_lt (dead : Nat) : ∀ (l : List NShare) (S : Nat), S < B64 → sF dead S l < B64
  | [], _, h => h
  | s :: r, S, h => by rw [sF_cons]; exact sF_lt dead r _ (ite_lt' (withB_lt' S h _) h)
theorem nF_lt (dead : Nat) : ∀ (l : List (List NTerm)) (S : Nat), S < B64 → nF dead S l < B64
  | [], _, h => h
  | w :: r, S, h => by rw [nF_cons]; exact nF_lt dead r _ (sF_lt dead _ _ h)
theorem rF_lt (dead : Nat) : ∀ (d : List Int) (n : List NNode) (S : Nat), S < B64 → rF dead S d n < B64
  | [], _, _, h => h
  | _ :: _, [], _, h => h
  | t :: d, x :: n, S, h => by rw [rF_cons]; exact rF_lt dead d n _ (ite_lt' (nF_lt dead _ S h) h)
theorem sF_has (dead : Nat) (u : Int) : ∀ (l : List NShare) (S : Nat), hasB (sF dead S l) u = true ↔ hasB S u = true ∨ shTo dead l u
  | [], S => by simp [sF, shTo]
  | s :: r, S => by
    rw [sF_cons, sF_has dead u r]
    unfold shTo
    by_cases q : hasB dead s.f0 = true
    · rw [if_pos q, hasB_withB, Bool.or_eq_true, decide_eq_true_eq]
      constructor
      · rintro ((h | ⟨_, rfl⟩) | ⟨h, y, hy, e⟩)
        · exact .inl h
        · exact .inr ⟨q, s, by simp, rfl⟩
        · exact .inr ⟨h, y, by simp [hy], e⟩
      · rintro (h | ⟨h, y, hy, e⟩)
        · exact .inl (.inl h)
        · rcases List.mem_cons.1 hy with rfl | hy
          · exact .inl (.inr ⟨hasB_vt q, e.symm⟩)
          · exact .inr ⟨h, y, hy, e⟩
    · rw [if_neg q]
      constructor
      · rintro (h | ⟨h, y, hy, e⟩)
        · exact .inl h
        · exact .inr ⟨h, y, by simp [hy], e⟩
      · rintro (h | ⟨h, y, hy, e⟩)
        · exact .inl h
        · rcases List.mem_cons.1 hy with rfl | hy
          · exact absurd (e ▸ h) q
          · exact .inr ⟨h, y, hy, e⟩
theorem nF_has (dead : Nat) (u : Int) : ∀ (l : List (List NTerm)) (S : Nat), hasB (nF dead S l) u = true ↔ hasB S u = true ∨ goesTo dead l u
  | [], S => by simp [nF, goesTo]
  | w :: r, S => by
    rw [nF_cons, nF_has dead u r, sF_has]
    unfold goesTo
    constructor
    · rintro ((h | h) | ⟨y, hy, h⟩)
      · exact .inl h
      · exact .inr ⟨w, by simp, h⟩
      · exact .inr ⟨y, by simp [hy], h⟩
    · rintro (h | ⟨y, hy, h⟩)
      · exact .inl (.inl h)
      · rcases List.mem_cons.1 hy with rfl | hy
        · exact .inl (.inr h)
        · exact .inr ⟨y, hy, h⟩
theorem rF_mono (dead : Nat) (u : Int) : ∀ (d : List Int) (n : List NNode) (S : Nat), hasB S u = true → hasB (rF dead S d n) u = true
  | [], _, _, h => h
  | _ :: _, [], _, h => h
  | t :: d, x :: n, S, h => by
    rw [rF_cons]; apply rF_mono
    by_cases q : hasB S t = true
    · rw [if_pos q, nF_has]; exact .inl h
    · rw [if_neg q]; exact h
def ClosedZ (dead : Nat) (z : List (Int × NNode)) (T : Nat) : Prop := ∀ p ∈ z, hasB T p.1 = true → ∀ v, goesTo dead p.2.f1 v → hasB T v = true
theorem rF_in (dead : Nat) (T : Nat) : ∀ (d : List Int) (n : List NNode) (S : Nat), ClosedZ dead (d.zip n) T → (∀ u, hasB S u = true → hasB T u = true) → ∀ u, hasB (rF dead S d n) u = true → hasB T u = true
  | [], _, _, _, h, u, hu => h u hu
  | _ :: _, [], _, _, h, u, hu => h u hu
  | t :: d, x :: n, S, hc, h, u, hu => by
    rw [rF_cons] at hu
    refine rF_in dead T d n _ (fun p hp => hc p (by simp [hp])) (fun v hv => ?_) u hu
    by_cases q : hasB S t = true
    · rw [if_pos q, nF_has] at hv
      rcases hv with hv | hv
      · exact h v hv
      · exact hc (t, x) (by simp) (h t q) v hv
    · rw [if_neg q] at hv; exact h v hv
theorem rF_fix (dead : Nat) : ∀ (d : List Int) (n : List NNode) (S : Nat), S < B64 → rF dead S d n = S → ClosedZ dead (d.zip n) S
  | [], _, _, _, _ => fun p hp => by simp at hp
  | _ :: _, [], _, _, _ => fun p hp => by simp at hp
  | t :: d, x :: n, S, hS, h => by
    rw [rF_cons] at h
    have hsub : ∀ u, hasB (if hasB S t then nF dead S x.f1 else S) u = true → hasB S u = true := fun u hu => by
      have := rF_mono dead u d n _ hu; rwa [h] at this
    have he : (if hasB S t then nF dead S x.f1 else S) = S := by
      refine setExt _ _ (ite_lt' (nF_lt dead _ S hS) hS) hS (fun u => ?_)
      rw [Bool.eq_iff_iff]
      refine ⟨hsub u, fun hu => ?_⟩
      by_cases q : hasB S t = true
      · rw [if_pos q, nF_has]; exact .inl hu
      · rw [if_neg q]; exact hu
    rw [he] at h
    have ih := rF_fix dead d n S hS h
    intro p hp
    rcases List.mem_cons.1 (by simpa using hp : p ∈ (t, x) :: d.zip n) with rfl | hp
    · intro q v hv
      rw [if_pos q] at he
      have : hasB (nF dead S x.f1) v = true := (nF_has dead v x.f1 S).2 (.inr hv)
      rwa [he] at this
    · exact ih p hp
theorem closed_zip (dead : Nat) (d : List Int) (n : List NNode) (hl : d.length = n.length) (T : Nat) : ClosedZ dead (d.zip n) T ↔ Closed dead d n T := by
  constructor
  · intro h i hi hu v hv
    have hz : i < (d.zip n).length := by simp; omega
    refine h ((d.zip n).getD i (0, z92)) (getD_mem _ _ _ hz) ?_ v ?_
    · rw [zip_getD d n i hi hl]; exact hu
    · rw [zip_getD d n i hi hl]; exact hv
  · intro h p hp hu v hv
    obtain ⟨i, hi, he⟩ := List.getElem_of_mem hp
    have hz : i < d.length := by simp at hi; omega
    have e := zip_getD d n i hz hl
    rw [List.getD_eq_getElem?_getD, List.getElem?_eq_getElem hi, Option.getD_some, he] at e
    rw [e] at hu hv
    exact h i hz hu v hv
theorem card_sub (a b : Nat) (h : ∀ u, hasB a u = true → hasB b u = true) : card a ≤ card b := by
  unfold card
  refine List.countP_mono_left (fun i hi hp => ?_)
  have hi' : i ≤ 63 := by have := List.mem_range.1 hi; omega
  have := h i (by rw [hasB_nat a i hi']; exact hp)
  rwa [hasB_nat b i hi'] at this
theorem card_lt (a b : Nat) (ha : a < B64) (hb : b < B64) (h : ∀ u, hasB a u = true → hasB b u = true) (hne : a ≠ b) : card a + 1 ≤ card b := by
  obtain ⟨u, hu⟩ : ∃ u, hasB a u ≠ hasB b u := by
    by_cases q : ∃ u, hasB a u ≠ hasB b u
    · exact q
    · exact absurd (setExt a b ha hb (fun t => Decidable.byContradiction fun e => q ⟨t, e⟩)) hne
  have h1 : hasB a u = false := by
    cases q : hasB a u
    · rfl
    · exact absurd (q.trans (h u q).symm) hu
  have h2 : hasB b u = true := by
    cases q : hasB b u
    · exact absurd (h1.trans q.symm) hu
    · rfl
  rw [← card_with a u (hasB_vt h2) h1]
  refine card_sub _ _ (fun v hv => ?_)
  rw [hasB_withB, Bool.or_eq_true, decide_eq_true_eq] at hv
  rcases hv with hv | ⟨_, rfl⟩
  · exact h v hv
  · exact h2
theorem card_withB_le (s : Nat) (t : Int) : card (withB s t) ≤ card s + 1 := by
  by_cases h : vt t
  · cases q : hasB s t
    · rw [card_with s t h q]; omega
    · refine Nat.le_trans (card_sub _ s (fun v hv => ?_)) (Nat.le_succ _)
      rw [hasB_withB, Bool.or_eq_true, decide_eq_true_eq] at hv
      rcases hv with hv | ⟨_, rfl⟩
      · exact hv
      · exact q
  · have e : withB s t = s := if_neg h
    rw [e]; omega
theorem card_ofL : ∀ (l : List Int) (s : Nat), card (ofL s l) ≤ card s + l.length
  | [], s => by simp [ofL]
  | t :: r, s => by
    rw [ofL_cons]
    have h1 := card_ofL r (withB s t)
    have h2 := card_withB_le s t
    simp only [List.length_cons]
    omega
theorem kF_fix (dead : Nat) (d : List Int) (n : List NNode) (S : Nat) (h : rF dead S d n = S) : ∀ r, kF dead d n r S = S
  | 0 => rfl
  | r + 1 => by rw [kF_succ, h]; exact kF_fix dead d n S h r
theorem kF_lt (dead : Nat) (d : List Int) (n : List NNode) : ∀ (r S : Nat), S < B64 → kF dead d n r S < B64
  | 0, _, h => h
  | r + 1, S, h => by rw [kF_succ]; exact kF_lt dead d n r _ (rF_lt dead d n S h)
theorem kF_mono (dead : Nat) (d : List Int) (n : List NNode) (u : Int) : ∀ (r S : Nat), hasB S u = true → hasB (kF dead d n r S) u = true
  | 0, _, h => h
  | r + 1, S, h => by rw [kF_succ]; exact kF_mono dead d n u r _ (rF_mono dead u d n S h)
theorem kF_in (dead : Nat) (d : List Int) (n : List NNode) (T : Nat) (hc : ClosedZ dead (d.zip n) T) : ∀ (r S : Nat), (∀ u, hasB S u = true → hasB T u = true) → ∀ u, hasB (kF dead d n r S) u = true → hasB T u = true
  | 0, _, h, u, hu => h u hu
  | r + 1, S, h, u, hu => by rw [kF_succ] at hu; exact kF_in dead d n T hc r _ (rF_in dead T d n S hc h) u hu
theorem dead_closed (dead : Nat) (z : List (Int × NNode)) : ClosedZ dead z dead := fun _ _ _ v ⟨_, _, h⟩ => h.1
theorem kF_done (dead : Nat) (hd : dead < B64) (d : List Int) (n : List NNode) : ∀ (r S : Nat), S < B64 → (∀ u, hasB S u = true → hasB dead u = true) → card dead ≤ card S + r → rF dead (kF dead d n r S) d n = kF dead d n r S
  | 0, S, hS, hs, hc => by
    have h1 := rF_lt dead d n S hS
    have h2 := rF_in dead dead d n S (dead_closed dead _) hs
    have h3 := card_sub (rF dead S d n) dead h2
    by_cases q : rF dead S d n = S
    · exact q
    · have := card_lt S (rF dead S d n) hS h1 (fun u hu => rF_mono dead u d n S hu) (fun e => q e.symm)
      omega
  | r + 1, S, hS, hs, hc => by
    by_cases q : rF dead S d n = S
    · rw [kF_fix dead d n S q]; exact q
    · rw [kF_succ]
      have h1 := rF_lt dead d n S hS
      have := card_lt S (rF dead S d n) hS h1 (fun u hu => rF_mono dead u d n S hu) (fun e => q e.symm)
      exact kF_done dead hd d n r _ h1 (rF_in dead dead d n S (dead_closed dead _) hs) (by omega)
theorem kF_core (d : List Int) (n : List NNode) (hl : d.length = n.length) (t : Int) (ht : hasB (ofL 0 d) t = true) : CoreOK (ofL 0 d) d n t (kF (ofL 0 d) d n d.length (withB 0 t)) := by
  have hd := ofL_lt d 0 (by decide)
  have h0 : withB 0 t < B64 := withB_lt' 0 (by decide) t
  have hv := hasB_vt ht
  have hz : ∀ u, hasB 0 u = false := fun u => by unfold hasB; simp
  have hsub : ∀ T, hasB T t = true → ∀ u, hasB (withB 0 t) u = true → hasB T u = true := fun T hT u hu => by
    rw [hasB_withB, hz, Bool.false_or, decide_eq_true_eq] at hu; rw [hu.2]; exact hT
  have hc : card (ofL 0 d) ≤ card (withB 0 t) + d.length := by
    have h1 := card_ofL d 0
    have h2 : card 0 = 0 := by decide
    omega
  have hfix := kF_done (ofL 0 d) hd d n d.length (withB 0 t) h0 (hsub _ ht) hc
  have hlt := kF_lt (ofL 0 d) d n d.length (withB 0 t) h0
  refine ⟨hlt, kF_mono _ d n t _ _ (by rw [hasB_withB, decide_eq_true ⟨hv, rfl⟩]; simp), kF_in _ d n _ (dead_closed _ _) _ _ (hsub _ ht), (closed_zip _ d n hl _).1 (rF_fix _ d n _ hlt hfix), fun T hT hTt => ?_⟩
  exact kF_in _ d n T ((closed_zip _ d n hl T).2 hT) _ _ (hsub T hTt)
def coreR (time : Int) (d : List Int) (n : List NNode) (t : Int) : List Int :=
  if soundR time d n = true ∧ 0 ≤ findL t 0 d then listB (kF (ofL 0 d) d n d.length (withB 0 t)) else []
theorem core_eq (time : Int) (d : List Int) (n : List NNode) (t : Int) (l : List Int) (h : CoreRes time d n t l) : l = coreR time d n t := by
  unfold coreR
  cases hs : soundR time d n
  · rw [if_neg (by simp)]
    exact h.2 (by rw [hs]; rfl)
  · have hz : chkR time d n = 0 := by unfold soundR at hs; simp at hs; exact hs.1
    obtain ⟨hlen, hdc, _⟩ := chkR_zero _ _ _ hz
    have hr := deadC_range d (-1) (by omega) hdc
    have h0 : ∀ u, hasB 0 u = false := fun u => by unfold hasB; simp
    by_cases q : 0 ≤ findL t 0 d
    · rw [if_pos ⟨rfl, q⟩]
      have hm : t ∈ d := by
        rcases findL_spec t d 0 with ⟨e, _⟩ | ⟨j, _, hj, e⟩
        · omega
        · rw [← e]; exact getD_mem 0 d j hj
      have ht : hasB (ofL 0 d) t = true := by
        rw [hasB_ofL, h0, Bool.false_or, decide_eq_true_eq]; exact ⟨hr t hm, hm⟩
      obtain ⟨met, hmet, rfl⟩ := h.1 hs ht
      rw [hmet.unique (kF_core d n hlen t ht)]
    · rw [if_neg (fun e => q e.2)]
      refine h.2 ?_
      rw [hs, Bool.true_and, hasB_ofL, h0, Bool.false_or, decide_eq_false_iff_not]
      rintro ⟨_, hm⟩
      rcases findL_spec t d 0 with ⟨_, e⟩ | ⟨j, e, _, _⟩
      · exact e hm
      · omega
end Go.Proofs.YtadepdeckapgcaaDoor
end

section
namespace Go.Proofs.YtadepdeckapgcaaDoor
open Go.RowKit Go.Proofs.YtadepdeckapgcaaDoorW.PrintWords Go.Proofs.YtadepdeckapgcaaDoorW.PrintLast Go.Proofs.YtadepdeckapgcaaDoorW.PrintMore PWitnessTells
set_option linter.unusedSimpArgs false
set_option linter.unusedVariables false
structure PrAt (w : World) (B R Y : Nat) (time : Int) (xs : Array Value) (vd vn : Value) (dd : List Int) (nn : List NNode) (wr : World) : Prop where
  x : Blk wr w.heap.size xs 25
  r : Blk wr R #[.int .i64 0, .slice none 0 0, .slice none 0 0] 25
  y : Blk wr Y #[.int .i64 time, vd, vn] 25
  od : (Kd.int .i64).R 3 wr w.heap.size Any_ vd dd
  on : k92.R 92 wr B Any_ vn nn
  ob : ∀ k, vn.ownBlock = some k → w.heap.size ≤ k
  b : Below w.heap.size w wr
theorem PrAt.quiet {w : World} {B R Y : Nat} {time : Int} {xs : Array Value} {vd vn : Value} {dd : List Int} {nn : List NNode} {wr wz : World} (h : PrAt w B R Y time xs vd vn dd nn wr) (q : Quiet wr wz) : PrAt w B R Y time xs vd vn dd nn wz :=
  ⟨q.blk h.x (fun x => x), q.blk h.r (fun x => x), q.blk h.y (fun x => x), Kd.R_below h.od q.bel, Kd.R_below h.on q.bel, h.ob, below_then h.b h.b.size q.bel⟩
structure PrMid (w : World) (B R Y : Nat) (time : Int) (xs : Array Value) (vd vn : Value) (v1 : Value) (de : List Int) (nn : List NNode) (wr : World) : Prop where
  x : Blk wr w.heap.size xs 25
  r : Blk wr R #[.int .i64 0, .slice none 0 0, .slice none 0 0] 25
  y : Blk wr Y #[.int .i64 time, vd, vn] 25
  od : (Kd.int .i64).R 3 wr w.heap.size Any_ v1 de
  on : k92.R 92 wr B Any_ vn nn
  ob : ∀ k, vn.ownBlock = some k → w.heap.size ≤ k
  b : Below w.heap.size w wr
theorem PrMid.quiet {w : World} {B R Y : Nat} {time : Int} {xs : Array Value} {vd vn v1 : Value} {de : List Int} {nn : List NNode} {wr wz : World} (h : PrMid w B R Y time xs vd vn v1 de nn wr) (q : Quiet wr wz) : PrMid w B R Y time xs vd vn v1 de nn wz :=
  ⟨q.blk h.x (fun x => x), q.blk h.r (fun x => x), q.blk h.y (fun x => x), Kd.R_below h.od q.bel, Kd.R_below h.on q.bel, h.ob, below_then h.b h.b.size q.bel⟩
theorem PrAt.growD {w : World} {B R Y : Nat} {time : Int} {xs : Array Value} {vd vn v1 : Value} {dd de : List Int} {nn : List NNode} {wr wz : World} (h : PrAt w B R Y time xs vd vn dd nn wr) (hg : wr.grownBy wz vd.ownBlock) (ho : (Kd.int .i64).R 3 wz w.heap.size Any_ v1 de) :
    PrMid w B R Y time xs vd vn v1 de nn wz := by
  obtain ⟨inner, own⟩ := Kd.R_own h.od
  exact ⟨grown_blk hg h.x (own_not_blk h.x own (by decide)), grown_blk hg h.r (own_not_blk h.r own (by decide)), grown_blk hg h.y (own_not_blk h.y own (by decide)), ho, Kd.R_drop (Kd.R_grown (Kd.R_apartR h.on h.od (by decide)) hg (fun k hk => hk.2)), h.ob, h.b.grown hg h.b.size (fun k hk => own_base own k hk)⟩
theorem PrMid.growN {w : World} {B R Y : Nat} {time : Int} {xs : Array Value} {vd vn v1 v2 : Value} {de : List Int} {nn ne : List NNode} {wr wz : World} (h : PrMid w B R Y time xs vd vn v1 de nn wr) (hRY : R ≠ Y) (hXY : w.heap.size < Y) (hg : wr.grownBy wz vn.ownBlock) (ho : k92.R 92 wz B Any_ v2 ne)
    (hat : v2.ownBlock = vn.ownBlock ∨ ∃ b, v2.ownBlock = some b ∧ wr.heap.size ≤ b) :
    PrAt w B R Y time xs v1 v2 de ne ((wz.setCell ⟨Y, 1, none⟩ v1).setCell ⟨Y, 2, none⟩ v2) := by
  obtain ⟨inner, own⟩ := Kd.R_own h.on
  have y2 := grown_blk hg h.y (own_not_blk h.y own (by decide))
  have y3 := y2.set 1 v1
  have o2 := Kd.R_drop (Kd.R_grown (Kd.R_apartR h.od h.on (by decide)) hg (fun k hk => hk.2))
  refine ⟨((grown_blk hg h.x (own_not_blk h.x own (by decide))).set_other (by show Y ≠ _; omega) _).set_other (by show Y ≠ _; omega) _, ((grown_blk hg h.r (own_not_blk h.r own (by decide))).set_other (by show Y ≠ _; omega) _).set_other (by show Y ≠ _; omega) _, by simpa using y3.set 2 v2, Kd.R_set (Kd.R_set o2 y2 (by decide) 1 v1) y3 (by decide) 2 v2, Kd.R_set (Kd.R_set ho y2 (by decide) 1 v1) y3 (by decide) 2 v2, fun k hk => ?_, ((h.b.grown hg h.b.size h.ob).setCell (by show w.heap.size ≤ Y; omega) _).setCell (by show w.heap.size ≤ Y; omega) _⟩
  rcases hat with e | ⟨b, e, hb⟩
  · exact h.ob k (by rw [← e]; exact hk)
  · rw [e] at hk; injection hk with hk; have := h.b.size; omega
end Go.Proofs.YtadepdeckapgcaaDoor
end

section
namespace Go.Proofs.YtadepdeckapgcaaDoor
open Go.RowKit Go.Proofs.YtadepdeckapgcaaDoorW.PrintWords Go.Proofs.YtadepdeckapgcaaDoorW.PrintLast Go.Proofs.YtadepdeckapgcaaDoorW.PrintMore PWitnessTells
set_option linter.unusedSimpArgs false
set_option linter.unusedVariables false
theorem wROf (w : World) (A : Option Addr) (c : Nat) (l : List Int) (hC : Kd.C (Kd.int .i64) w A l.length l) (hc : l.length ≤ c) :
    Calls Tryd.prog 28 #[.slice A l.length c] w fun e w' => e = .returned (.int .u64 (ofL 0 l : Nat)) ∧ Quiet w w' := by
  obtain ⟨k, hk⟩ := (ev_of l (C_len hC).2).rounds
  exact (logjamref02_Of.calls k A c l _ w hC hc hk).mono fun e w' ⟨he, m, hm⟩ => ⟨he, by rw [hm]; exact (Fr.refl _ _).drewN _⟩
theorem wRHas (w : World) (s : Nat) (hs : s < B64) (t : Int) : Calls Tryd.prog 29 #[.int .u64 s, .int .i64 t] w fun e w' => e = .returned (.bool (hasB s t)) ∧ Quiet w w' := by
  obtain ⟨k, hk⟩ := (ev_has s hs t).rounds
  exact (logjamref02_Has.calls k (s : Int) t _ w hk).mono fun e w' ⟨he, m, hm⟩ => ⟨he, by rw [hm]; exact (Fr.refl _ _).drewN _⟩
end Go.Proofs.YtadepdeckapgcaaDoor
end

section
namespace Go.Proofs.YtadepdeckapgcaaDoor
open Go.RowKit Go.Proofs.YtadepdeckapgcaaDoorW.PrintWords Go.Proofs.YtadepdeckapgcaaDoorW.PrintLast Go.Proofs.YtadepdeckapgcaaDoorW.PrintMore PWitnessTells
set_option linter.unusedSimpArgs false
set_option linter.unusedVariables false
structure BothQ (a b W : World) : Prop where
  one : Quiet a W
  two : Quiet b W
theorem BothQ.quiet {a b W W' : World} (h : BothQ a b W) (q : Quiet W W') : BothQ a b W' := ⟨h.one.quiet q, h.two.quiet q⟩
theorem BothQ.bel {a b W : World} (h : BothQ a b W) : Below a.heap.size a W := Quiet.bel h.one
end Go.Proofs.YtadepdeckapgcaaDoor
end

section
namespace Go.Proofs.YtadepdeckapgcaaDoor
open Go.RowKit Go.Proofs.YtadepdeckapgcaaDoorW.PrintWords Go.Proofs.YtadepdeckapgcaaDoorW.PrintLast Go.Proofs.YtadepdeckapgcaaDoorW.PrintMore PWitnessTells
set_option linter.unusedSimpArgs false
set_option linter.unusedVariables false
def IntsC (w : World) (v : Value) (l : List Int) : Prop := ∃ A c, v = .slice A l.length c ∧ Kd.C (Kd.int .i64) w A l.length l ∧ l.length ≤ c
def NodesC (w : World) (v : Value) (l : List NNode) : Prop := ∃ A c, v = .slice A l.length c ∧ Kd.C k92 w A l.length l ∧ l.length ≤ c
def RepC (w : World) (v : Value) (time : Int) (d : List Int) (n : List NNode) : Prop :=
  ∃ A1 c1 A2 c2, v = .agg #[.int .i64 time, .slice A1 d.length c1, .slice A2 n.length c2] ∧ Kd.C (Kd.int .i64) w A1 d.length d ∧ d.length ≤ c1 ∧ Kd.C k92 w A2 n.length n ∧ n.length ≤ c2
def RepR (w : World) (B : Nat) (v : Value) (time : Int) (d : List Int) (n : List NNode) : Prop :=
  ∃ A1 c1 A2 c2, v = .agg #[.int .i64 time, .slice A1 d.length c1, .slice A2 n.length c2] ∧ Kd.C (Kd.int .i64) w A1 d.length d ∧ d.length ≤ c1 ∧ k92.R 92 w B Any_ (.slice A2 n.length c2) n
theorem IntsC.quiet {w w' : World} {v : Value} {l : List Int} (h : IntsC w v l) (q : Quiet w w') : IntsC w' v l := by
  obtain ⟨A, c, e, h1, h2⟩ := h; exact ⟨A, c, e, Kd.C_below h1 q.bel, h2⟩
theorem NodesC.quiet {w w' : World} {v : Value} {l : List NNode} (h : NodesC w v l) (q : Quiet w w') : NodesC w' v l := by
  obtain ⟨A, c, e, h1, h2⟩ := h; exact ⟨A, c, e, Kd.C_below h1 q.bel, h2⟩
theorem RepC.quiet {w w' : World} {v : Value} {time : Int} {d : List Int} {n : List NNode} (h : RepC w v time d n) (q : Quiet w w') : RepC w' v time d n := by
  obtain ⟨A1, c1, A2, c2, e, h1, h2, h3, h4⟩ := h; exact ⟨A1, c1, A2, c2, e, Kd.C_below h1 q.bel, h2, Kd.C_below h3 q.bel, h4⟩
theorem RepR.quiet {w w' : World} {B : Nat} {v : Value} {time : Int} {d : List Int} {n : List NNode} (h : RepR w B v time d n) (q : Quiet w w') : RepR w' B v time d n := by
  obtain ⟨A1, c1, A2, c2, e, h1, h2, h3⟩ := h; exact ⟨A1, c1, A2, c2, e, Kd.C_below h1 q.bel, h2, Kd.R_below h3 q.bel⟩
theorem RepR.c {w : World} {B : Nat} {v : Value} {time : Int} {d : List Int} {n : List NNode} (h : RepR w B v time d n) : RepC w v time d n := by
  obtain ⟨A1, c1, A2, c2, e, h1, h2, h3⟩ := h
  obtain ⟨_, h4, h5⟩ := Kd.R_reads' h3
  exact ⟨A1, c1, A2, c2, e, h1, h2, h5, h4⟩
theorem Blk.quiet {w w' : World} {b : Nat} {cs : Array Value} {t : TypeId} (h : Blk w b cs t) (q : Quiet w w') : Blk w' b cs t := q.blk h (fun x => x)
theorem IntsC.of_R {w : World} {base : Nat} {ok : Nat → Prop} {v : Value} {l : List Int} (h : (Kd.int .i64).R 3 w base ok v l) : IntsC w v l := by
  obtain ⟨A, c, e, h1, h2⟩ := Kd.R_reads h; exact ⟨A, c, e, h2, h1⟩
theorem IntsC.of_own {w : World} {base : Nat} {v : Value} {l : List Int} (h : w.ownsRow base 3 1 v l.length (nums .i64 l)) : IntsC w v l := by
  obtain ⟨A, c, rfl, hr⟩ := own_reads h
  have hR : (Kd.int .i64).R 3 w base (fun _ => True) (.slice A l.length c) l := Kd.R_of_own (enc := Value.int .i64) (h1 := fun _ => rfl) h (fun _ _ => trivial)
  exact IntsC.of_R hR
section
variable {w : World} {v v2 : Value} {time : Int} {d : List Int} {n l : List NNode} {s : List Int} {B : Nat}
theorem cOwn36 (h : RepC w v time d n) : Calls Tryd.prog 13 #[v] w fun e w' => ∃ v', e = .returned v' ∧ RepR w' w.heap.size v' time (d.take 70) (ownL n) ∧ Quiet w w' := by
  obtain ⟨A1, c1, A2, c2, rfl, h1, h2, h3, h4⟩ := h
  refine (wOwn36 w time A1 c1 d A2 c2 n h1 h2 h3 h4).mono fun e w' ⟨v1, v2, he, hd, hn, hb⟩ => ?_
  obtain ⟨A, c, rfl, hl, hc⟩ := Kd.R_reads hd
  obtain ⟨A', c', rfl⟩ := Kd.R_slice hn
  exact ⟨_, he, ⟨A, c, A', c', rfl, hc, hl, hn⟩, Quiet.of hb⟩
theorem cSound (h : RepC w v time d n) : Calls Tryd.prog 17 #[v] w fun e w' => e = .returned (.bool (soundR time d n)) ∧ Quiet w w' := by
  obtain ⟨A1, c1, A2, c2, rfl, h1, h2, h3, h4⟩ := h
  exact wSound w time A1 c1 d A2 c2 n h1 h2 h3 h4
theorem cMatch (h : RepC w v time d n) (hl : NodesC w v2 l) : Calls Tryd.prog 19 #[v, v2] w fun e w' => e = .returned (.bool (matchR time d n l)) ∧ Quiet w w' := by
  obtain ⟨A1, c1, A2, c2, rfl, h1, h2, h3, h4⟩ := h
  obtain ⟨A3, c3, rfl, h5, h6⟩ := hl
  exact wMatch w time A1 c1 d A2 c2 n h1 h2 h3 h4 A3 c3 l h5 h6
theorem cLack (h : RepC w v time d n) (t : Int) : Calls Tryd.prog 15 #[v, .int .i64 t] w fun e w' => e = .returned (.tuple #[.int .i64 0, .int .i64 (lackK time d n t), .bool (lackB time d n t)]) ∧ Quiet w w' := by
  obtain ⟨A1, c1, A2, c2, rfl, h1, h2, h3, h4⟩ := h
  exact wLack w time A1 c1 d A2 c2 n h1 h2 h3 h4 t
theorem cCore (hT : Tb w) (h : RepC w v time d n) (t : Int) : Calls Tryd.prog 22 #[v, .int .i64 t] w fun e w' => ∃ v', e = .returned v' ∧ IntsC w' v' (coreR time d n t) ∧ Quiet w w' := by
  obtain ⟨A1, c1, A2, c2, rfl, h1, h2, h3, h4⟩ := h
  refine (wCore w hT time A1 c1 d A2 c2 n h1 h2 h3 h4 t).mono fun e w' ⟨q, v', hq, he, ho, hb⟩ => ?_
  have := core_eq time d n t q hq
  subst this
  exact ⟨v', he, IntsC.of_own ho, Quiet.of hb⟩
theorem cPart (h : RepC w v time d n) (hs : IntsC w v2 s) (hS : Sns n) : Calls Tryd.prog 25 #[v, v2] w fun e w' => ∃ v', e = .returned v' ∧ RepC w' v' (partT time d n) (partD (ofL 0 s) time d n) (partN (ofL 0 s) time d n) ∧ Quiet w w' := by
  obtain ⟨A1, c1, A2, c2, rfl, h1, h2, h3, h4⟩ := h
  obtain ⟨A3, c3, rfl, h5, h6⟩ := hs
  refine (wPart w time A1 c1 d A2 c2 n h1 h2 h3 h4 A3 c3 s h5 h6 hS).mono fun e w' ⟨v1, v2, he, hd, hn, hb⟩ => ?_
  obtain ⟨A, c, rfl, hl, hc⟩ := Kd.R_reads hd
  obtain ⟨A', c', rfl, hl', hc'⟩ := Kd.R_reads hn
  exact ⟨_, he, ⟨A, c, A', c', rfl, hc, hl, hc', hl'⟩, Quiet.of hb⟩
end
theorem take_take_same {α : Type} (l : List α) (k : Nat) : (l.take k).take k = l.take k := by rw [List.take_take, Nat.min_self]
theorem map_take_ {α β : Type} (f : α → β) (l : List α) (k : Nat) : (l.map f).take k = (l.take k).map f := by rw [List.map_take]
theorem ownM_idem (m : NTerm) : ownM (ownM m) = ownM m := by simp only [ownM, take_take_same]
theorem ownW_idem (w : List NTerm) : ownW (ownW w) = ownW w := by
  unfold ownW; rw [map_take_, take_take_same, List.map_map]; exact List.map_congr_left fun m _ => ownM_idem m
theorem ownN_idem (x : NNode) : ownN (ownN x) = ownN x := by
  unfold ownN; simp only [map_take_, take_take_same, List.map_map]
  congr 1; exact List.map_congr_left fun m _ => ownW_idem m
theorem ownL_idem (l : List NNode) : ownL (ownL l) = ownL l := by
  unfold ownL; rw [map_take_, take_take_same, List.map_map]; exact List.map_congr_left fun m _ => ownN_idem m
theorem C_of_sh {α β : Type} {S : Sh α} {d : Kd β} (f : α → β) (hsz : d.sz = S.n) {w : World} (hK : ∀ a cs, S.rd w w.heap.size a cs → d.K w (f a) cs) {l : List α} {v : Value} (h : (shL S).rd w w.heap.size l [v]) :
    ∃ A c, v = .slice A (l.map f).length c ∧ Kd.C d w A (l.map f).length (l.map f) ∧ (l.map f).length ≤ c := by
  rcases h with ⟨rfl, a, h⟩ | ⟨b, o, cap, hb, hl, hm, h, hi⟩
  · simp at h; exact ⟨a, 0, h, ⟨rfl, Nat.zero_le _, fun q => absurd q (by simp)⟩, Nat.le_refl _⟩
  · simp at h
    unfold maxLen at hm
    refine ⟨some ⟨b, o, none⟩, cap, by rw [h, List.length_map], ⟨rfl, by rw [List.length_map]; omega, fun _ => ⟨⟨b, o, none⟩, rfl, fun j q hj => ?_⟩⟩, by rw [List.length_map]; exact hl⟩
    rw [List.getElem?_map] at hj
    obtain ⟨x, hx, rfl⟩ := Option.map_eq_some_iff.1 hj
    obtain ⟨hjl, rfl⟩ := List.getElem?_eq_some_iff.1 hx
    obtain ⟨ci, hr, hcl, hcell⟩ := hi j hjl
    refine ⟨ci, hcl.trans hsz.symm, hK _ _ hr, fun i u hu => ?_⟩
    obtain ⟨hil, _⟩ := List.getElem?_eq_some_iff.1 hu
    rw [addr_add, hsz, ← Nat.add_assoc, hcell i (by omega)]
    exact hu
abbrev shShare : Sh (Int × Int) := shP shInt shInt
abbrev shTerm : Sh (Int × List (Int × Int)) := shP shInt (shL shShare)
abbrev shNode : Sh (Bool × List (List (Int × List (Int × Int)))) := shP shBool (shL (shL shTerm))
abbrev shRep : Sh (Int × List Int × List (Bool × List (List (Int × List (Int × Int))))) := shP shInt (shP (shL shInt) (shL shNode))
def toS (x : Int × Int) : NShare := ⟨x.1, x.2⟩
def toM (x : Int × List (Int × Int)) : NTerm := ⟨x.1, x.2.map toS⟩
def toN (x : Bool × List (List (Int × List (Int × Int)))) : NNode := ⟨x.1, x.2.map (·.map toM)⟩
theorem share_of {w : World} (a : Int × Int) (cs : List Value) (h : shShare.rd w w.heap.size a cs) : k108.K w (toS a) cs := by
  obtain ⟨c1, c2, rfl, _, ⟨rfl, _⟩, ⟨rfl, _⟩⟩ := h
  exact k108_mk w (toS a)
theorem term_of {w : World} (a : Int × List (Int × Int)) (cs : List Value) (h : shTerm.rd w w.heap.size a cs) : k96.K w (toM a) cs := by
  obtain ⟨c1, c2, rfl, _, ⟨rfl, _⟩, h2⟩ := h
  have hc : ∃ v, c2 = [v] := by
    rcases h2 with ⟨_, a, e⟩ | ⟨b, o, cap, _, _, _, e, _⟩
    · exact ⟨_, e⟩
    · exact ⟨_, e⟩
  obtain ⟨v, rfl⟩ := hc
  obtain ⟨A, c, rfl, h3, h4⟩ := C_of_sh (S := shShare) (d := k108) toS rfl share_of h2
  exact k96_mk w (toM a) h4 h3
theorem one_of_sh {α : Type} {S : Sh α} {w : World} {l : List α} {cs : List Value} (h : (shL S).rd w w.heap.size l cs) : ∃ v, cs = [v] := by
  rcases h with ⟨_, a, e⟩ | ⟨b, o, cap, _, _, _, e, _⟩
  · exact ⟨_, e⟩
  · exact ⟨_, e⟩
theorem way_of {w : World} (a : List (Int × List (Int × Int))) (cs : List Value) (h : (shL shTerm).rd w w.heap.size a cs) : kWay.K w (a.map toM) cs := by
  obtain ⟨v, rfl⟩ := one_of_sh h
  obtain ⟨A, c, rfl, h3, h4⟩ := C_of_sh (S := shTerm) (d := k96) toM rfl term_of h
  exact ⟨A, c, rfl, h4, h3⟩
theorem node_of {w : World} (a : Bool × List (List (Int × List (Int × Int)))) (cs : List Value) (h : shNode.rd w w.heap.size a cs) : k92.K w (toN a) cs := by
  obtain ⟨c1, c2, rfl, _, h1, h2⟩ := h
  obtain rfl : c1 = [.bool a.1] := h1
  obtain ⟨v, rfl⟩ := one_of_sh h2
  obtain ⟨A, c, rfl, h3, h4⟩ := C_of_sh (S := shL shTerm) (d := kWay) (·.map toM) rfl way_of h2
  exact k92_mk w (toN a) h4 h3
theorem ints_of {w : World} {l : List Int} {v : Value} (h : (shL shInt).rd w w.heap.size l [v]) : IntsC w v l := by
  have q := C_of_sh (S := shInt) (d := Kd.int .i64) id rfl (fun a cs h => by obtain ⟨rfl, _⟩ := h; rfl) h
  rw [List.map_id] at q; exact q
theorem nodes_of {w : World} {l : List (Bool × List (List (Int × List (Int × Int))))} {v : Value} (h : (shL shNode).rd w w.heap.size l [v]) : NodesC w v (l.map toN) :=
  C_of_sh (S := shNode) (d := k92) toN rfl node_of h
theorem rep_of {w : World} {a : Int × List Int × List (Bool × List (List (Int × List (Int × Int))))} {cs : Array Value} (h : shRep.rd w w.heap.size a cs.toList) : RepC w (.agg cs) a.1 a.2.1 (a.2.2.map toN) := by
  obtain ⟨c1, c2, e, _, ⟨rfl, _⟩, ⟨c3, c4, rfl, _, h2, h3⟩⟩ := h
  obtain ⟨v, rfl⟩ := one_of_sh h2
  obtain ⟨u, rfl⟩ := one_of_sh h3
  obtain ⟨A1, d1, rfl, h4, h5⟩ := ints_of h2
  obtain ⟨A2, d2, rfl, h6, h7⟩ := nodes_of h3
  have e2 : cs = #[.int .i64 a.1, .slice A1 a.2.1.length d1, .slice A2 (a.2.2.map toN).length d2] := by apply Array.ext'; rw [e]; rfl
  exact ⟨A1, d1, A2, d2, by rw [e2], h4, h5, h6, h7⟩
section
variable {P : Program} {ops : Array Oper} {o : Oper} {a : Act} {Q : Exit → Act → World → Prop} {Kc : Act → World → Prop}
theorem run_append_empty {W : World} (t ty e : TypeId) (i : TypeInfo) (ht : P.underlying t = some (.slice e)) (hi : P.info? e = some i) (b : Nat) (A : Option Addr) (c : Nat) :
    (Builtin.append_ #[t, t] ty #[.slice (some ⟨b, 0, none⟩) 0 0, .slice A 0 c]).run P W = .ok (.slice (some ⟨b, 0, none⟩) 0 0) W := by
  cases A with
  | none => simp [Builtin.append_, run_underlying ht, sizeOf, typeInfo, hi, Builtin.lenOf, Builtin.firstCells, storeCells]
  | some ad =>
    have q := run_append_room_cells (P := P) (w := W) t ty e i ht hi b 0 0 0 ad 0 c [] (by simp) (fun j u h => by simp at h) (by simp) (by omega) (fun j h => absurd h (by simp)) (fun j h => absurd h (by simp))
    simpa [World.setCells] using q
theorem rAppE {W : World} (hw : Region.wanted o (yielded ops a.tmps) = true) (s x : Operand) (t e : TypeId)
    (ho : o.op = .call { callee := .builtin .append, args := #[s, x], argTypes := #[t, t] })
    (ht : P.underlying t = some (.slice e)) (hinfo : (P.info? e).map (fun i => (i.zero, i.size, i.bytes)) = some (some (.int .i64 0), 1, 8)) (he : e = 3) (b : Nat) (vx : Value) (l : List Int)
    (hs : a.eval s = .slice (some ⟨b, 0, none⟩) 0 0) (hx : a.eval x = vx) (hC : IntsC W vx l) (hl : l.length ≤ 1000000)
    (h : ∀ v1 w1, IntsC w1 v1 l → Quiet W w1 → Kc (a.put o.dst v1) w1) :
    if Region.wanted o (yielded ops a.tmps) = true then Oper.wp P o a W Kc Q else Kc (a.put o.dst undef) W := by
  rw [if_pos hw]
  subst he
  obtain ⟨A, c, rfl, hC, hc⟩ := hC
  obtain ⟨i, hi, hz, hsz, hby⟩ := info_parts hinfo
  by_cases h0 : l.length = 0
  · have hl0 := List.length_eq_zero_iff.1 h0
    subst hl0
    have hrun := run_append_empty (P := P) (W := W) t o.type 3 i ht hi b A c
    have q := h (.slice (some ⟨b, 0, none⟩) 0 0) W ⟨some ⟨b, 0, none⟩, 0, rfl, ⟨rfl, Nat.zero_le _, fun q => absurd q (by simp)⟩, Nat.le_refl _⟩ (Fr.refl _ _)
    unfold Oper.wp
    simp only [List.length_nil] at hx
    simp [execOp, ho, resolve, invoke, builtin, hs, hx, hrun, Result.andThen]
    exact q
  · obtain ⟨ad, rfl, hcell⟩ := hC.2.2 (by omega)
    obtain ⟨v', w', hrun, r1, r2⟩ := run_append_arg_grows (P := P) W t o.type 3 i (.int .i64 0) 1 8 ht hi hz hsz hby rfl (by decide) ⟨b, 0, none⟩ 0 0 [] rfl (fun j u hj => by simp at hj) ad l.length c (nums .i64 l) (by simp [nums]) (fun j u hu => by
      simp only [nums, List.getElem?_map] at hu
      obtain ⟨x, hx, rfl⟩ := Option.map_eq_some_iff.1 hu
      obtain ⟨cs, hcl, hK, hcc⟩ := hcell j x hx
      obtain rfl := hK
      have q := hcc 0 _ rfl
      simpa [Kd.int, Kd.scalar] using q) (by omega) (by unfold maxLen; omega) (by omega)
    rw [Nat.zero_add, List.nil_append] at r1
    have q := h v' w' (IntsC.of_own r1) ((Fr.refl _ _).grown r2 (fun k hk => by cases hk))
    unfold Oper.wp
    simp [execOp, ho, resolve, invoke, builtin, hs, hx, hrun, Result.andThen]
    exact q
end
end Go.Proofs.YtadepdeckapgcaaDoor
end

section
namespace Go.Proofs.YtadepdeckapgcaaDoor.PWitnessTells
open Go.RowKit Go.Proofs.YtadepdeckapgcaaDoorW.PrintWords Go.Proofs.YtadepdeckapgcaaDoorW.PrintLast Go.Proofs.YtadepdeckapgcaaDoorW.PrintMore
attribute [local go_sem] max2_int min2_int max_two min_two max_three min_three max_four min_four
set_option linter.unusedVariables false
set_option linter.unusedSimpArgs false
def logjamlaw37_ask.f (a0 : Int) : Option (Bool × (List (List (S96)))) := some (true, (([(([(⟨1, (([(⟨a0, 1⟩ : S108)] : List (S108)))⟩ : S96)] : List (S96)))] : List (List (S96)))))
set_option maxHeartbeats 8000000 in
set_option maxRecDepth 100000 in
theorem logjamlaw37_ask.calls (a0 : Int) (r1 : Bool) (r2 : List (List (S96))) (w : World) (h : logjamlaw37_ask.f a0 = some (r1, r2)) :
  Calls Tryd.prog 69 #[.int .i64 a0] w fun e w' => ∃ v1_ : Value, e = .returned (.agg #[.bool r1, v1_]) ∧ Kd.N (Kd.slice 96 k96) 93 w' w.heap.size (fun k_ => (w.heap.size ≤ k_)) v1_ r2 ∧ Below w.heap.size w w' := by
 have hu92 := Tryd.underlying92
 have hu108 := Tryd.underlying108
 have hu96 := Tryd.underlying96
 have HB := Aside0.mk (Below.refl w.heap.size w)
 have H : (some (true, (([(([(⟨1, (([(⟨a0, 1⟩ : S108)] : List (S108)))⟩ : S96)] : List (S96)))] : List (List (S96)))))) = some (r1, r2) := h
 clear h
 obtain ⟨y355, hy355⟩ : ∃ y_ : List (S108), y_ = (([(⟨a0, 1⟩ : S108)] : List (S108))) := ⟨_, rfl⟩
 replace H : (some (true, (([(([(⟨1, y355⟩ : S96)] : List (S96)))] : List (List (S96)))))) = some (r1, r2) := by first | (rw [hy355]; with_reducible exact H) | (have H2_ := (Option.bind_some _ _).symm.trans H; rw [hy355]; with_reducible exact H2_) | (have H2_ := (Option.bind_some _ _).symm.trans H; with_reducible exact H2_) | with_reducible exact H | (rw [hy355]; exact H) | exact H
 have Ny355 := Aside0.mk hy355
 clear hy355
 obtain ⟨y358, hy358⟩ : ∃ y_ : List (S96), y_ = (([(⟨1, y355⟩ : S96)] : List (S96))) := ⟨_, rfl⟩
 replace H : (some (true, (([y358] : List (List (S96)))))) = some (r1, r2) := by first | (rw [hy358]; with_reducible exact H) | (have H2_ := (Option.bind_some _ _).symm.trans H; rw [hy358]; with_reducible exact H2_) | (have H2_ := (Option.bind_some _ _).symm.trans H; with_reducible exact H2_) | with_reducible exact H | (rw [hy358]; exact H) | exact H
 have Ny358 := Aside0.mk hy358
 clear hy358
 obtain ⟨y361, hy361⟩ : ∃ y_ : List (List (S96)), y_ = (([y358] : List (List (S96)))) := ⟨_, rfl⟩
 replace H : (some (true, y361)) = some (r1, r2) := by first | (rw [hy361]; with_reducible exact H) | (have H2_ := (Option.bind_some _ _).symm.trans H; rw [hy361]; with_reducible exact H2_) | (have H2_ := (Option.bind_some _ _).symm.trans H; with_reducible exact H2_) | with_reducible exact H | (rw [hy361]; exact H) | exact H
 have Ny361 := Aside0.mk hy361
 clear hy361
 simp only [Option.some.injEq, Prod.mk.injEq] at H
 obtain ⟨rfl, rfl⟩ := H
 go_enter Tryd.func69, Tryd.ntmps69
 go_wp2_with (first | ((with_reducible refine gate_dst (N := 2) rfl ?_); refine box_event ?hg (N := 2) ?hd (cs := #[.bool false, .slice none 0 0]) (t := 92) ?hr ?_; (case hd => rfl); (case hg => rfl); (case hr => first | (go_simp; done) | (go_simp; rfl)); intro gb354 hg w2 hbox hb; have n0_ := Aside0.mk (below_step (by repeat (first | (with_reducible first | exact HB.out | apply below_alloc | apply pw_below_drewN | apply below_drew1) | exact HB.out)) hb); have n1_ := Aside0.mk (hbox); have n2_ := Aside0.mk ((by rw [hg]; exact (below_size (by repeat (first | (with_reducible first | exact HB.out | apply below_alloc | apply pw_below_drewN | apply below_drew1) | exact HB.out))) : w.heap.size ≤ gb354)); have n3_ := Aside0.mk ((by rw [hg]; exact (below_size (by repeat (first | (with_reducible first | exact HB.out | apply below_alloc | apply pw_below_drewN | apply below_drew1) | exact HB.out))) : w.heap.size ≤ gb354)); clear HB; have HB := n0_; have BK354 := n1_; have GW354 := n2_; have GE354 := n3_; clear n0_ n1_ n2_ n3_; clear hb hbox hg) | ((with_reducible refine gate_dst (N := 5) rfl ?_); refine Kd.R_lit k108 _ 108 ?hg (N := 5) ?hd (xs := ([(⟨a0, 1⟩ : S108)] : List (S108))) (inner := [.int .i64 a0, .int .i64 1]) (ok := fun _ => True) (okp := fun _ => True) ?hr ?hp (fun _ hk => hk) trivial (Below.refl _ _) (Nat.le_refl _) (by simp) ?_; (case hd => rfl); (case hg => rfl); (case hr => first | (go_simp; done) | (go_simp; rfl)); (case hp => exact (Reps.c2 (show Kd.M k108 _ _ _ (⟨a0, 1⟩ : S108) [.int .i64 a0, .int .i64 1] from (k108_mkM _ _ _ (⟨a0, 1⟩ : S108) )) (Reps.none _ _))); intro v356 w3 ho4 hb hg_ hnew_; clear hg_ hnew_; (first | rw [← Ny355.out] at ho4 | (simp only [Int.reduceToNat] at ho4; rw [← Ny355.out] at ho4)); have n0_ := Aside0.mk (Kd.R_lower (Kd.R_newM (M := fun k_ => (w.heap.size ≤ k_)) ho4 (below_size (by repeat (first | (with_reducible first | exact HB.out | apply below_alloc | apply pw_below_drewN | apply below_drew1 | refine below_set ?_ GE354.out) | exact HB.out))) (fun k_ h_ => h_)) (below_size (by repeat (first | (with_reducible first | exact HB.out | apply below_alloc | apply pw_below_drewN | apply below_drew1 | refine below_set ?_ GE354.out) | exact HB.out)))); have n1_ := Aside0.mk (blk_below (g := gb354) (o := .cells #[.bool false, .slice none 0 0] 92 (0, 0)) (by (with_reducible repeat (first | refine blk_drewN ?_ _ | refine blk_drew ?_ | refine blk_alloc ?_ _)); exact BK354.out) hb); have n2_ := Aside0.mk (below_step (by repeat (first | (with_reducible first | exact HB.out | apply below_alloc | apply pw_below_drewN | apply below_drew1 | refine below_set ?_ GE354.out) | exact HB.out)) hb); clear BK354; clear HB; have HO357 := n0_; have BK354 := n1_; have HB := n2_; clear n0_ n1_ n2_; clear hb ho4; obtain ⟨Ao5, co5, eo5⟩ := Kd.R_slice HO357.out; subst eo5) | ((with_reducible refine gate_dst (N := 7) rfl ?_); refine Kd.N_lit k96 _ 96 ?hg (N' := 7) ?hd (xs := ([(⟨1, y355⟩ : S96)] : List (S96))) (inner := [.int .i64 1, .slice Ao5 y355.length co5]) (ok := (fun k_ => (w.heap.size ≤ k_) ∧ k_ ≠ gb354)) (okp := (fun k_ => (w.heap.size ≤ k_) ∧ k_ ≠ gb354)) ?hr ?hp (fun _ hk => hk) ((show ∀ k_, w3.heap.size ≤ k_ → (fun k_ => (w.heap.size ≤ k_) ∧ k_ ≠ gb354) k_ from fun k_ hk => ⟨(Nat.le_trans (below_size (by repeat (first | (with_reducible first | exact HB.out | apply below_alloc | apply pw_below_drewN | apply below_drew1 | refine below_set ?_ GE354.out) | exact HB.out))) hk), Kd.freshB (g := gb354) (o := .cells #[.bool false, .slice none 0 0] 92 (0, 0)) (by (with_reducible repeat (first | refine blk_drewN ?_ _ | refine blk_drew ?_ | refine blk_alloc ?_ _)); exact BK354.out) k_ hk⟩) _ (Nat.le_refl _)) (Below.refl _ _) (Nat.le_refl _) (by simp) ?_; (case hd => rfl); (case hg => rfl); (case hr => first | (go_simp; done) | (go_simp; rfl)); (case hp => exact (Reps.c2 (show Kd.FK k96 _ _ (⟨1, y355⟩ : S96) [.int .i64 1, .slice Ao5 y355.length co5] from (k96_mkF _ _ (⟨1, y355⟩ : S96) (Kd.R_reads' (Kd.R_mono (ok' := (fun k_ => (w.heap.size ≤ k_) ∧ k_ ≠ gb354)) (Kd.R_types (HO357.out) BK354.out (by decide)) (fun k_ hk => ⟨hk.1.1, hk.2⟩))).2.1 (Kd.R_F (Kd.R_mono (ok' := (fun k_ => (w.heap.size ≤ k_) ∧ k_ ≠ gb354)) (Kd.R_types (HO357.out) BK354.out (by decide)) (fun k_ hk => ⟨hk.1.1, hk.2⟩))))) (Reps.none _ _))); intro v359 w6 ho7 hb hg_ hnew_; clear hg_ hnew_; (first | rw [← Ny358.out] at ho7 | (simp only [Int.reduceToNat] at ho7; rw [← Ny358.out] at ho7)); have n0_ := Aside0.mk (Kd.N_lower ho7 (below_size (by repeat (first | (with_reducible first | exact HB.out | apply below_alloc | apply pw_below_drewN | apply below_drew1 | refine below_set ?_ GE354.out) | exact HB.out)))); have n1_ := Aside0.mk (blk_below (g := gb354) (o := .cells #[.bool false, .slice none 0 0] 92 (0, 0)) (by (with_reducible repeat (first | refine blk_drewN ?_ _ | refine blk_drew ?_ | refine blk_alloc ?_ _)); exact BK354.out) hb); have n2_ := Aside0.mk (below_step (by repeat (first | (with_reducible first | exact HB.out | apply below_alloc | apply pw_below_drewN | apply below_drew1 | refine below_set ?_ GE354.out) | exact HB.out)) hb); clear BK354; clear HB; clear HO357; have HO360 := n0_; have BK354 := n1_; have HB := n2_; clear n0_ n1_ n2_; clear hb ho7; obtain ⟨Ao8, co8, eo8⟩ := Kd.N_slice HO360.out; subst eo8) | ((with_reducible refine gate_dst (N := 8) rfl ?_); refine Kd.N_lit (Kd.slice 96 k96) _ 93 ?hg (N' := 8) ?hd (xs := ([y358] : List (List (S96)))) (inner := [.slice Ao8 y358.length co8]) (ok := (fun k_ => (w.heap.size ≤ k_) ∧ k_ ≠ gb354)) (okp := (fun k_ => (w.heap.size ≤ k_) ∧ k_ ≠ gb354)) ?hr ?hp (fun _ hk => hk) ((show ∀ k_, w6.heap.size ≤ k_ → (fun k_ => (w.heap.size ≤ k_) ∧ k_ ≠ gb354) k_ from fun k_ hk => ⟨(Nat.le_trans (below_size (by repeat (first | (with_reducible first | exact HB.out | apply below_alloc | apply pw_below_drewN | apply below_drew1 | refine below_set ?_ GE354.out) | exact HB.out))) hk), Kd.freshB (g := gb354) (o := .cells #[.bool false, .slice none 0 0] 92 (0, 0)) (by (with_reducible repeat (first | refine blk_drewN ?_ _ | refine blk_drew ?_ | refine blk_alloc ?_ _)); exact BK354.out) k_ hk⟩) _ (Nat.le_refl _)) (Below.refl _ _) (Nat.le_refl _) (by simp) ?_; (case hd => rfl); (case hg => rfl); (case hr => first | (go_simp; done) | (go_simp; rfl)); (case hp => exact (Reps.one (show Kd.FK (Kd.slice 96 k96) _ _ y358 [.slice Ao8 y358.length co8] from (Kd.FK_slice_mk (Kd.N_reads' (Kd.N_mono (ok' := (fun k_ => (w.heap.size ≤ k_) ∧ k_ ≠ gb354)) (HO360.out) (fun k_ hk => ⟨hk.1, hk.2⟩))).2.1 (Kd.N_F (Kd.N_mono (ok' := (fun k_ => (w.heap.size ≤ k_) ∧ k_ ≠ gb354)) (HO360.out) (fun k_ hk => ⟨hk.1, hk.2⟩))))) (Reps.none _ _))); intro v362 w9 ho10 hb hg_ hnew_; clear hg_ hnew_; (first | rw [← Ny361.out] at ho10 | (simp only [Int.reduceToNat] at ho10; rw [← Ny361.out] at ho10)); have n0_ := Aside0.mk (Kd.N_lower ho10 (below_size (by repeat (first | (with_reducible first | exact HB.out | apply below_alloc | apply pw_below_drewN | apply below_drew1 | refine below_set ?_ GE354.out) | exact HB.out)))); have n1_ := Aside0.mk (blk_below (g := gb354) (o := .cells #[.bool false, .slice none 0 0] 92 (0, 0)) (by (with_reducible repeat (first | refine blk_drewN ?_ _ | refine blk_drew ?_ | refine blk_alloc ?_ _)); exact BK354.out) hb); have n2_ := Aside0.mk (below_step (by repeat (first | (with_reducible first | exact HB.out | apply below_alloc | apply pw_below_drewN | apply below_drew1 | refine below_set ?_ GE354.out) | exact HB.out)) hb); clear BK354; clear HB; clear HO360; have HO363 := n0_; have BK354 := n1_; have HB := n2_; clear n0_ n1_ n2_; clear hb ho10; obtain ⟨Ao11, co11, eo11⟩ := Kd.N_slice HO363.out; subst eo11; have hcz12_0 : w9.cell? ⟨gb354, 0, none⟩ = some (.bool false) := (blk_cell BK354.out 0).trans rfl; have hcz12_1 : w9.cell? ⟨gb354, 1, none⟩ = some (.slice none 0 0) := (blk_cell BK354.out 1).trans rfl; have hfz12_0 := blk_frozen BK354.out 0; have hfz12_1 := blk_frozen BK354.out 1))
 refine bodyPost_ret (results_cell_row rfl _ _ gb354 92 #[.bool true, .slice Ao11 y361.length co11] (0, 0) _ rfl (by (with_reducible repeat (first | refine blk_drewN ?_ _ | refine blk_drew ?_ | refine blk_alloc ?_ _)); refine blk_put (cs := #[.bool true, .slice none 0 0]) ?_ 1 _ rfl; (with_reducible repeat (first | refine blk_drewN ?_ _ | refine blk_drew ?_ | refine blk_alloc ?_ _)); refine blk_put (cs := #[.bool false, .slice none 0 0]) ?_ 0 _ rfl; (with_reducible repeat (first | refine blk_drewN ?_ _ | refine blk_drew ?_ | refine blk_alloc ?_ _)); exact BK354.out) Tryd.underlying92 rfl (by kernel_rfl)) rfl ?_
 exact ⟨_, by first | rfl | (simp [errW_none, errW_some] <;> rfl) | (simp [*, errW_none, errW_some] <;> rfl), by (with_reducible repeat (first | apply Kd.N_alloc | apply Kd.N_drewN | apply Kd.N_drew)); exact Kd.N_mono (Kd.N_far (p := ⟨gb354, 1, none⟩) (Kd.N_far (p := ⟨gb354, 0, none⟩) (Kd.N_mono HO363.out (fun k_ hk => (⟨hk, hk.2⟩ : _ ∧ k_ ≠ gb354))) (fun _ hk => hk.2) (.bool true)) (fun _ hk => hk.2) (.slice Ao11 y361.length co11)) (fun _ hk => hk.1.1), by repeat (first | (with_reducible first | exact HB.out | apply below_alloc | apply pw_below_drewN | apply below_drew1 | refine below_set ?_ GE354.out) | exact HB.out)⟩
end Go.Proofs.YtadepdeckapgcaaDoor.PWitnessTells
end

section
namespace Go.Proofs.YtadepdeckapgcaaDoor
open Go.RowKit Go.Proofs.YtadepdeckapgcaaDoorW.PrintWords Go.Proofs.YtadepdeckapgcaaDoorW.PrintLast Go.Proofs.YtadepdeckapgcaaDoorW.PrintMore PWitnessTells
set_option linter.unusedSimpArgs false
set_option linter.unusedVariables false
theorem flat_get {α : Type} {sz : Nat} : ∀ {l : List (α × List Value)} (_ : ∀ p ∈ l, p.2.length = sz) (j : Nat) (p : α × List Value) (_ : l[j]? = some p) (i : Nat) (_ : i < sz), (l.flatMap Prod.snd)[j * sz + i]? = p.2[i]?
  | [], _, j, p, hj, _, _ => by simp at hj
  | a :: r, h, 0, p, hj, i, hi => by
    simp at hj; subst hj
    rw [List.flatMap_cons, Nat.zero_mul, Nat.zero_add, List.getElem?_append_left (by rw [h a (by simp)]; exact hi)]
  | a :: r, h, j + 1, p, hj, i, hi => by
    have ha := h a (by simp)
    have ih := flat_get (l := r) (fun q hq => h q (by simp [hq])) j p (by simpa using hj) i hi
    rw [List.flatMap_cons, List.getElem?_append_right (by rw [ha, Nat.succ_mul]; omega), ha, show (j + 1) * sz + i - sz = j * sz + i by rw [Nat.succ_mul]; omega]
    exact ih
theorem C_of_blk {α : Type} (d : Kd α) {W : World} {b : Nat} {t : TypeId} (l : List (α × List Value)) (h : Blk W b (l.flatMap Prod.snd).toArray t) (hK : ∀ p ∈ l, d.K W p.1 p.2) (hm : l.length ≤ 1000000) : Kd.C d W (some ⟨b, 0, none⟩) l.length (l.map Prod.fst) := by
  refine ⟨List.length_map _, by omega, fun _ => ⟨⟨b, 0, none⟩, rfl, fun j q hj => ?_⟩⟩
  rw [List.getElem?_map] at hj
  obtain ⟨p, hp, rfl⟩ := Option.map_eq_some_iff.1 hj
  have hk := hK p (List.mem_of_getElem? hp)
  have hl := d.K_len hk
  refine ⟨p.2, hl, hk, fun i u hu => ?_⟩
  obtain ⟨hil, _⟩ := List.getElem?_eq_some_iff.1 hu
  rw [add_plain, h.cell, List.getElem?_toArray, flat_get (fun p hp => d.K_len (hK p hp)) j p hp i (by omega)]
  exact hu
def wayL (t : Int) : List (List NTerm) := [[⟨1, [⟨t, 1⟩]⟩]]
def nodeL (t : Int) : NNode := ⟨true, wayL t⟩
def nodesL : List NNode := [nodeL 1, nodeL 0, nodeL 1]
theorem cAsk (w : World) (t : Int) : Calls Tryd.prog 69 #[.int .i64 t] w fun e w' => ∃ A c, e = .returned (.agg #[.bool true, .slice A 1 c]) ∧ kWay.C w' A 1 (wayL t) ∧ 1 ≤ c ∧ Quiet w w' := by
  refine (logjamlaw37_ask.calls t true (wayL t) w rfl).mono fun e w' ⟨v, he, hN, hb⟩ => ?_
  obtain ⟨A, c, rfl, hl, hC⟩ := Kd.N_reads hN
  exact ⟨A, c, he, hC, hl, Quiet.of hb⟩
theorem lives_rep (w w1 w2 w3 : World) (A1 A2 A3 : Option Addr) (c1 c2 c3 : Nat) (q1 : Quiet (w.alloc (.cells #[.int .i64 0, .int .i64 1, .int .i64 2] 3)) w1) (h1 : kWay.C w1 A1 1 (wayL 1)) (l1 : 1 ≤ c1) (q2 : Quiet w1 w2) (h2 : kWay.C w2 A2 1 (wayL 0)) (l2 : 1 ≤ c2) (q3 : Quiet w2 w3) (h3 : kWay.C w3 A3 1 (wayL 1)) (l3 : 1 ≤ c3) (W : World)
    (qW : Quiet (w3.alloc (.cells #[.bool true, .slice A1 1 c1, .bool true, .slice A2 1 c2, .bool true, .slice A3 1 c3] 92)) W) :
    RepC W (.agg #[.int .i64 0, .slice (some ⟨w.heap.size, 0, none⟩) 3 3, .slice (some ⟨w3.heap.size, 0, none⟩) 3 3]) 0 [0, 1, 2] nodesL := by
  refine RepC.quiet ⟨some ⟨w.heap.size, 0, none⟩, 3, some ⟨w3.heap.size, 0, none⟩, 3, rfl, ?_, by decide, ?_, by decide⟩ qW
  · have b1 : Blk (w.alloc (.cells #[.int .i64 0, .int .i64 1, .int .i64 2] 3)) w.heap.size #[.int .i64 0, .int .i64 1, .int .i64 2] 3 := Blk.new _ _ _
    exact C_of_blk (Kd.int .i64) [(0, [.int .i64 0]), (1, [.int .i64 1]), (2, [.int .i64 2])] ((((b1.quiet q1).quiet q2).quiet q3).alloc _) (fun p hp => by simp at hp; rcases hp with rfl | rfl | rfl <;> rfl) (by decide)
  · have hq : Quiet w3 (w3.alloc (.cells #[.bool true, .slice A1 1 c1, .bool true, .slice A2 1 c2, .bool true, .slice A3 1 c3] 92)) := (Fr.refl _ _).alloc _
    refine C_of_blk k92 [(nodeL 1, [.bool true, .slice A1 1 c1]), (nodeL 0, [.bool true, .slice A2 1 c2]), (nodeL 1, [.bool true, .slice A3 1 c3])] (Blk.new _ _ _) (fun p hp => ?_) (by simp)
    simp at hp
    rcases hp with rfl | rfl | rfl
    · exact k92_mk _ (nodeL 1) l1 (Kd.C_below (Kd.C_below (Kd.C_below h1 q2.bel) q3.bel) hq.bel)
    · exact k92_mk _ (nodeL 0) l2 (Kd.C_below (Kd.C_below h2 q3.bel) hq.bel)
    · exact k92_mk _ (nodeL 1) l3 (Kd.C_below h3 hq.bel)
theorem lv_core : coreR 0 [0, 1, 2] nodesL 1 = [0, 1] := by decide +kernel
theorem lv_lackK : lackK 0 [0, 1, 2] nodesL 2 = 0 := by decide +kernel
theorem lv_lackB : lackB 0 [0, 1, 2] nodesL 2 = true := by decide +kernel
theorem lv_sound : soundR 0 [0, 1, 2] nodesL = true := by decide +kernel
theorem lv_match : matchR 0 [0, 1, 2] nodesL nodesL = true := by decide +kernel
theorem lv_match0 : matchR 0 [0, 1, 2] nodesL [] = false := by decide +kernel
theorem lv_part : soundR (partT 0 [0, 1, 2] nodesL) (partD (ofL 0 [0, 2]) 0 [0, 1, 2] nodesL) (partN (ofL 0 [0, 2]) 0 [0, 1, 2] nodesL) = false := by decide +kernel
theorem lv_sns : Sns nodesL := by
  refine ⟨by decide, fun x hx => ?_⟩
  have : x = nodeL 1 ∨ x = nodeL 0 := by unfold nodesL at hx; simp at hx; rcases hx with h | h | h <;> simp [h]
  rcases this with rfl | rfl
  all_goals
    refine ⟨by decide, fun y hy => ?_⟩
    simp [nodeL, wayL] at hy
    subst hy
    exact ⟨by decide, fun m hm => by simp at hm; subst hm; decide⟩
set_option maxRecDepth 100000 in
set_option maxHeartbeats 1000000 in
theorem cLives (w : World) (hT : Tb w) : Calls Tryd.prog 27 #[] w fun e w' => e = .returned (.bool true) ∧ Quiet w w' := by
  have HT := Lib.hid hT; clear hT
  go_enter Tryd.func27, Tryd.ntmps27
  go_wp2_with fail
  refine (cAsk _ 1).mono ?_
  rintro e w1 ⟨A1, c1, rfl, h1, l1, q1⟩
  have H1 := Lib.hid h1; have L1 := Lib.hid l1; have Q1 := Lib.hid q1; clear h1 l1 q1
  go_wp2_with fail
  refine (cAsk _ 0).mono ?_
  rintro e w2 ⟨A2, c2, rfl, h2, l2, q2⟩
  have H2 := Lib.hid h2; have L2 := Lib.hid l2; have Q2 := Lib.hid q2; clear h2 l2 q2
  go_wp2_with fail
  refine (cAsk _ 1).mono ?_
  rintro e w3 ⟨A3, c3, rfl, h3, l3, q3⟩
  have H3 := Lib.hid h3; have L3 := Lib.hid l3; have Q3 := Lib.hid q3; clear h3 l3 q3
  have HR := Lib.hid (lives_rep w w1 w2 w3 A1 A2 A3 c1 c2 c3 Q1.out H1.out L1.out Q2.out H2.out L2.out Q3.out H3.out L3.out)
  have HQ : Hid (Quiet w w3) := Lib.hid ((((Fr.refl _ _).alloc _).quiet Q1.out |>.quiet Q2.out).quiet Q3.out)
  clear H1 L1 Q1 H2 L2 Q2 H3 L3 Q3
  go_wp2_with fail
  obtain ⟨W4, hW4⟩ : ∃ W, W = (w3.alloc (.cells #[.bool true, .slice A1 1 c1, .bool true, .slice A2 1 c2, .bool true, .slice A3 1 c3] 92)).alloc (.cells #[.int .i64 0, .slice (some ⟨w.heap.size, 0, none⟩) 3 3, .slice (some ⟨w3.heap.size, 0, none⟩) 3 3] 25) := ⟨_, rfl⟩
  have HR4 : Hid (RepC W4 (.agg #[.int .i64 0, .slice (some ⟨w.heap.size, 0, none⟩) 3 3, .slice (some ⟨w3.heap.size, 0, none⟩) 3 3]) 0 [0, 1, 2] nodesL) := Lib.hid (HR.out W4 (by rw [hW4]; exact (Fr.refl _ _).alloc _))
  have HY4 : Hid (Blk W4 (w3.heap.size + 1) #[.int .i64 0, .slice (some ⟨w.heap.size, 0, none⟩) 3 3, .slice (some ⟨w3.heap.size, 0, none⟩) 3 3] 25) := Lib.hid (by rw [hW4]; simpa using Blk.new (w3.alloc (.cells #[.bool true, .slice A1 1 c1, .bool true, .slice A2 1 c2, .bool true, .slice A3 1 c3] 92)) #[.int .i64 0, .slice (some ⟨w.heap.size, 0, none⟩) 3 3, .slice (some ⟨w3.heap.size, 0, none⟩) 3 3] 25)
  have HQ4 : Hid (Quiet w W4) := Lib.hid (by rw [hW4]; exact (HQ.out.alloc _).alloc _)
  clear HR HQ
  rw [← hW4]
  clear hW4
  refine (cCore (HT.out.quiet HQ4.out) HR4.out 1).mono ?_
  rintro e w5 ⟨v5, rfl, hi5, q5⟩
  rw [lv_core] at hi5
  obtain ⟨Ac, cc, rfl, hC, hcc⟩ := hi5
  obtain ⟨ac, rfl, hc1⟩ := at_ints hC 1 (by decide)
  have hc1' : w5.cell? ⟨ac.block, ac.off + 1, none⟩ = some (.int .i64 1) := hc1
  have HC1 := Lib.hid hc1'
  have HR5 := Lib.hid (HR4.out.quiet q5); have HY5 := Lib.hid (HY4.out.quiet q5); have HQ5 := Lib.hid (HQ4.out.quiet q5)
  have y0 := HY5.out.cell 0; have y1 := HY5.out.cell 1; have y2 := HY5.out.cell 2
  simp at y0 y1 y2
  clear HR4 HY4 HQ4 q5 hC hcc hc1 hc1'
  go_wp2_with fail
  refine (cLack HR5.out 2).mono ?_
  rw [lv_lackK, lv_lackB]
  rintro e w6 ⟨rfl, q6⟩
  have HR6 := Lib.hid (HR5.out.quiet q6); have HY6 := Lib.hid (HY5.out.quiet q6); have HQ6 := Lib.hid (HQ5.out.quiet q6); have HC6 := Lib.hid (Quiet.cellA q6 HC1.out)
  clear HR5 HY5 HQ5 HC1 q6 y0 y1 y2
  have y0 := HY6.out.cell 0; have y1 := HY6.out.cell 1; have y2 := HY6.out.cell 2
  simp at y0 y1 y2
  go_wp2_with fail
  refine (cSound HR6.out).mono ?_
  rw [lv_sound]
  rintro e w7 ⟨rfl, q7⟩
  have HR7 := Lib.hid (HR6.out.quiet q7); have HY7 := Lib.hid (HY6.out.quiet q7); have HQ7 := Lib.hid (HQ6.out.quiet q7); have HC7 := Lib.hid (Quiet.cellA q7 HC6.out)
  clear HR6 HY6 HQ6 HC6 q7 y0 y1 y2
  have y0 := HY7.out.cell 0; have y1 := HY7.out.cell 1; have y2 := HY7.out.cell 2
  simp at y0 y1 y2
  have HN7 : Hid (NodesC w7 (.slice (some ⟨w3.heap.size, 0, none⟩) 3 3) nodesL) := Lib.hid (by
    obtain ⟨B1, b1, B2, b2, e, _, _, g1, g2⟩ := HR7.out
    injection e with e
    have e2 := congrArg (fun a : Array Value => a[2]?) e
    simp at e2
    exact ⟨B2, b2, by rw [← e2.1, ← e2.2.2]; rfl, g1, g2⟩)
  go_wp2_with fail
  refine (cMatch HR7.out HN7.out).mono ?_
  rw [lv_match]
  rintro e w8 ⟨rfl, q8⟩
  have HR8 := Lib.hid (HR7.out.quiet q8); have HY8 := Lib.hid (HY7.out.quiet q8); have HQ8 := Lib.hid (HQ7.out.quiet q8); have HC8 := Lib.hid (Quiet.cellA q8 HC7.out)
  clear HR7 HY7 HQ7 HC7 HN7 q8 y0 y1 y2
  have y0 := HY8.out.cell 0; have y1 := HY8.out.cell 1; have y2 := HY8.out.cell 2
  simp at y0 y1 y2
  have HN8 : Hid (NodesC w8 (.slice none 0 0) []) := Lib.hid ⟨none, 0, rfl, ⟨rfl, Nat.zero_le _, fun q => absurd q (by simp)⟩, Nat.le_refl _⟩
  go_wp2_with fail
  refine (cMatch HR8.out HN8.out).mono ?_
  rw [lv_match0]
  rintro e w9 ⟨rfl, q9⟩
  have HR9 := Lib.hid (HR8.out.quiet q9); have HY9 := Lib.hid (HY8.out.quiet q9); have HQ9 := Lib.hid (HQ8.out.quiet q9); have c9 := Quiet.cellA q9 HC8.out
  clear HR8 HY8 HQ8 HC8 HN8 q9 y0 y1 y2
  have y0 := HY9.out.cell 0; have y1 := HY9.out.cell 1; have y2 := HY9.out.cell 2
  simp at y0 y1 y2
  have HI9 : Hid (IntsC (w9.alloc (.cells #[.int .i64 0, .int .i64 2] 3)) (.slice (some ⟨w9.heap.size, 0, none⟩) 2 2) [0, 2]) := Lib.hid ⟨some ⟨w9.heap.size, 0, none⟩, 2, rfl, C_of_blk (Kd.int .i64) [(0, [.int .i64 0]), (2, [.int .i64 2])] (Blk.new _ _ _) (fun p hp => by simp at hp; rcases hp with rfl | rfl <;> rfl) (by decide), by decide⟩
  have HR10 := Lib.hid (HR9.out.quiet (show Quiet w9 (w9.alloc (.cells #[.int .i64 0, .int .i64 2] 3)) from (Fr.refl _ _).alloc _))
  have HQ10 := Lib.hid (HQ9.out.quiet (show Quiet w9 (w9.alloc (.cells #[.int .i64 0, .int .i64 2] 3)) from (Fr.refl _ _).alloc _))
  go_wp2_with fail
  refine (cPart HR10.out HI9.out lv_sns).mono ?_
  rintro e w11 ⟨v11, rfl, r11, q11⟩
  have HR11 := Lib.hid r11; have HQ11 := Lib.hid (HQ10.out.quiet q11)
  clear HR9 HY9 HQ9 HR10 HQ10 HI9 r11 q11 y0 y1 y2 c9
  go_wp2_with fail
  refine (cSound HR11.out).mono ?_
  rw [lv_part]
  rintro e w12 ⟨rfl, q12⟩
  have HQ12 := Lib.hid (HQ11.out.quiet q12)
  clear q12 HR11 HQ11
  go_wp2
  go_ret
  exact ⟨rfl, HQ12.out⟩
end Go.Proofs.YtadepdeckapgcaaDoor
end

section
namespace Go.Proofs.YtadepdeckapgcaaDoor
open Go.RowKit Go.Proofs.YtadepdeckapgcaaDoorW.PrintWords Go.Proofs.YtadepdeckapgcaaDoorW.PrintLast Go.Proofs.YtadepdeckapgcaaDoorW.PrintMore PWitnessTells
set_option linter.unusedSimpArgs false
set_option linter.unusedVariables false
theorem sub_zero (a b : Nat) (ha : a < B64) (hb : b < B64) (h : ∀ u, hasB a u = true → hasB b u = true) : bits .andNot .u64 (a : Int) (b : Int) = 0 := by
  rw [u64_andNot_nat _ _ ha hb]
  have e : a &&& (18446744073709551615 - b) = 0 := by
    apply Nat.eq_of_testBit_eq
    intro i
    rw [Nat.testBit_and, Nat.zero_testBit]
    have hx := Nat.testBit_two_pow_sub_succ (x := b) (n := 64) hb i
    rw [show 2 ^ 64 - (b + 1) = 18446744073709551615 - b by unfold B64 at hb; omega] at hx
    rw [hx]
    by_cases hi : i < 64
    · have q := h (i : Int)
      rw [hasB_nat a i (by omega), hasB_nat b i (by omega)] at q
      cases h1 : a.testBit i
      · rfl
      · rw [q h1]; simp
    · simp [hi]
  rw [e]; rfl
theorem ofL_listB (s : Nat) (hs : s < B64) : ofL 0 (listB s) = s := by
  refine setExt _ _ (ofL_lt _ 0 (by decide)) hs (fun u => ?_)
  rw [hasB_ofL, Bool.eq_iff_iff]
  have h0 : hasB 0 u = false := by unfold hasB; simp
  rw [h0, Bool.false_or, decide_eq_true_eq, mem_listB]
  exact ⟨fun h => h.2, fun h => ⟨hasB_vt h, h⟩⟩
theorem hasB_ofL0 (l : List Int) (u : Int) : hasB (ofL 0 l) u = true ↔ vt u ∧ u ∈ l := by
  rw [hasB_ofL]
  have h0 : hasB 0 u = false := by unfold hasB; simp
  rw [h0, Bool.false_or, decide_eq_true_eq]
theorem deadC_le : ∀ (l : List Int) (a b : Int), a ≤ b → deadC b l = true → deadC a l = true
  | [], _, _, _, _ => rfl
  | t :: r, a, b, hab, h => by
    rw [deadC_cons] at h ⊢
    split at h
    · cases h
    · rw [if_neg (by omega)]; exact h
theorem deadC_filter (p : Int × NNode → Bool) : ∀ (z : List (Int × NNode)) (last : Int), deadC last (z.map Prod.fst) = true → deadC last ((z.filter p).map Prod.fst) = true
  | [], _, _ => rfl
  | q :: r, last, h => by
    rw [List.map_cons, deadC_cons] at h
    split at h
    · cases h
    · have ih := deadC_filter p r q.1 h
      rw [List.filter_cons]
      split
      · rw [List.map_cons, deadC_cons, if_neg (by omega)]; exact ih
      · exact deadC_le _ _ _ (by omega) ih
theorem nodesC_zero (l : List NNode) : nodesC l = 0 ↔ ∀ x ∈ l, nodeC x = 0 := by
  induction l with
  | nil => simp [nodesC]
  | cons x r ih =>
    rw [nodesC_cons]
    by_cases h : nodeC x = 0
    · rw [if_pos h, ih]; simp [h]
    · rw [if_neg h]; simp [h]
theorem lacksL_some (dead : Nat) (m : NTerm) (h : comesL dead 0 m.f1 < m.f0) : ∀ (l : List NTerm) (i : Nat), m ∈ l → 0 ≤ lacksL dead i l
  | [], _, hm => by cases hm
  | a :: r, i, hm => by
    rw [lacksL_cons]
    split
    · omega
    · rcases List.mem_cons.1 hm with rfl | hm
      · contradiction
      · exact lacksL_some dead m h r (i + 1) hm
theorem lacksL_at (dead : Nat) : ∀ (l : List NTerm) (i : Nat), 0 ≤ lacksL dead i l → ∃ j : Nat, lacksL dead i l = ((i + j : Nat) : Int) ∧ j < l.length ∧ comesL dead 0 (l.getD j z96).f1 < (l.getD j z96).f0
  | [], i, h => by simp [lacksL] at h
  | a :: r, i, h => by
    rw [lacksL_cons] at h ⊢
    by_cases q : comesL dead 0 a.f1 < a.f0
    · rw [if_pos q]; exact ⟨0, by simp, by simp, by simpa using q⟩
    · rw [if_neg q] at h ⊢
      obtain ⟨j, h1, h2, h3⟩ := lacksL_at dead r (i + 1) h
      exact ⟨j + 1, by rw [h1]; congr 1; omega, by simp; omega, by simpa using h3⟩
theorem comesL_eq (a b : Nat) : ∀ (l : List NShare) (n : Int), (∀ s ∈ l, hasB a s.f0 = hasB b s.f0) → comesL a n l = comesL b n l
  | [], _, _ => rfl
  | s :: r, n, h => by
    rw [comesL_cons, comesL_cons, h s (by simp)]
    exact comesL_eq a b r _ (fun q hq => h q (by simp [hq]))
theorem mem_zip_getD (d : List Int) (n : List NNode) (hl : d.length = n.length) (p : Int × NNode) (h : p ∈ d.zip n) : ∃ i, i < d.length ∧ d.getD i 0 = p.1 ∧ n.getD i z92 = p.2 := by
  obtain ⟨i, hi, rfl⟩ := List.getElem_of_mem h
  have h1 : i < d.length := by simp at hi; omega
  refine ⟨i, h1, ?_, ?_⟩
  · simp [h1]
  · simp [show i < n.length by omega]
section
variable {time : Int} {d : List Int} {n : List NNode} {t : Int}
theorem sound_open (h : soundR time d n = true) : chkR time d n = 0 ∧ ∀ x ∈ n, ∀ w ∈ x.f1, 0 ≤ lacksL (ofL 0 d) 0 w := by
  unfold soundR at h
  simp only [Bool.and_eq_true, decide_eq_true_eq] at h
  refine ⟨h.1, fun x hx w hw => ?_⟩
  have := List.all_eq_true.1 (List.all_eq_true.1 h.2 x hx) w hw
  unfold wayOk at this
  simpa using this
theorem sound_dead (h : soundR time d n = true) (u : Int) : hasB (ofL 0 d) u = true ↔ u ∈ d := by
  obtain ⟨hl, hd, _⟩ := chkR_zero _ _ _ (sound_open h).1
  rw [hasB_ofL0]
  exact ⟨fun q => q.2, fun q => ⟨deadC_range d (-1) (by omega) hd u q, q⟩⟩
theorem part_sound (h : soundR time d n = true) (met : Nat) (hm : met < B64) (hsub : ∀ u, hasB met u = true → hasB (ofL 0 d) u = true) (hc : Closed (ofL 0 d) d n met) :
    soundR (partT time d n) (partD met time d n) (partN met time d n) = true := by
  obtain ⟨h0, hk⟩ := sound_open h
  obtain ⟨hl, hd, hn⟩ := chkR_zero _ _ _ h0
  have hN := (nodesC_zero n).1 hn
  have ez1 : (d.zip n).map Prod.fst = d := by rw [List.map_fst_zip]; omega
  have eT : partT time d n = time := if_pos h0
  have eD : partD met time d n = (partZ met d n).map Prod.fst := if_pos h0
  have eN : partN met time d n = (partZ met d n).map Prod.snd := if_pos h0
  rw [eT, eD, eN]
  have hmem : ∀ p ∈ partZ met d n, p ∈ d.zip n ∧ hasB met p.1 = true := fun p hp => by
    unfold partZ at hp; exact List.mem_filter.1 hp
  have hset : ofL 0 ((partZ met d n).map Prod.fst) = met := by
    refine setExt _ _ (ofL_lt _ 0 (by decide)) hm (fun u => ?_)
    rw [Bool.eq_iff_iff, hasB_ofL0]
    constructor
    · rintro ⟨_, q⟩
      obtain ⟨p, hp, rfl⟩ := List.mem_map.1 q
      exact (hmem p hp).2
    · intro q
      refine ⟨hasB_vt q, ?_⟩
      have hu := (sound_dead h u).1 (hsub u q)
      rw [← ez1] at hu
      obtain ⟨p, hp, rfl⟩ := List.mem_map.1 hu
      exact List.mem_map.2 ⟨p, List.mem_filter.2 ⟨hp, q⟩, rfl⟩
  have hchk : chkR time ((partZ met d n).map Prod.fst) ((partZ met d n).map Prod.snd) = 0 := by
    unfold chkR at h0 ⊢
    by_cases c : time < 0 ∨ 1073741824 < time
    · rw [if_pos c] at h0; cases h0
    · rw [if_neg c, if_neg (by simp), if_pos (show deadC (-1) ((partZ met d n).map Prod.fst) = true from deadC_filter _ _ _ (by rw [ez1]; exact hd))]
      refine (nodesC_zero _).2 (fun x hx => ?_)
      obtain ⟨p, hp, rfl⟩ := List.mem_map.1 hx
      obtain ⟨i, hi, _, e⟩ := mem_zip_getD d n hl p (hmem p hp).1
      rw [← e]
      exact hN _ (getD_mem _ _ _ (by omega))
  unfold soundR
  rw [decide_eq_true hchk, Bool.true_and, hset]
  unfold nodesOk
  refine List.all_eq_true.2 (fun x hx => List.all_eq_true.2 (fun w hw => ?_))
  obtain ⟨p, hp, rfl⟩ := List.mem_map.1 hx
  obtain ⟨hz, hb⟩ := hmem p hp
  obtain ⟨i, hi, e1, e2⟩ := mem_zip_getD d n hl p hz
  have hpn : p.2 ∈ n := by rw [← e2]; exact getD_mem _ _ _ (by omega)
  obtain ⟨j, hj, hjl, hlt⟩ := lacksL_at _ w 0 (hk p.2 hpn w hw)
  have hlo : lackOf (ofL 0 d) w = (w.getD j z96).f1 := by unfold lackOf; rw [hj]; simp
  unfold wayOk
  refine decide_eq_true (lacksL_some met (w.getD j z96) ?_ w 0 (getD_mem _ _ _ hjl))
  have hcm : comesL met 0 (w.getD j z96).f1 = comesL (ofL 0 d) 0 (w.getD j z96).f1 := by
    refine comesL_eq _ _ _ _ (fun s hs => ?_)
    rw [Bool.eq_iff_iff]
    refine ⟨fun q => hsub _ q, fun q => hc i hi (by rw [e1]; exact hb) s.f0 ?_⟩
    rw [e2]
    exact ⟨w, hw, q, s, by rw [hlo]; exact hs, rfl⟩
  rw [hcm]; exact hlt
theorem core_facts (h : soundR time d n = true) (ht : hasB (ofL 0 d) t = true) (l : List Int) (hl : CoreRes time d n t l) :
    hasB (ofL 0 l) t = true ∧ bits .andNot .u64 ((ofL 0 l : Nat) : Int) ((ofL 0 d : Nat) : Int) = 0 ∧ soundR (partT time d n) (partD (ofL 0 l) time d n) (partN (ofL 0 l) time d n) = true ∧
      ∀ u ∈ l, ∀ l2, CoreRes time d n u l2 → bits .andNot .u64 ((ofL 0 l2 : Nat) : Int) ((ofL 0 l : Nat) : Int) = 0 := by
  obtain ⟨met, hok, rfl⟩ := hl.1 h ht
  obtain ⟨hm, h1, h2, h3, h4⟩ := hok
  rw [ofL_listB met hm]
  refine ⟨h1, sub_zero _ _ hm (ofL_lt _ 0 (by decide)) h2, part_sound h met hm h2 h3, fun u hu l2 hl2 => ?_⟩
  have hbu := (mem_listB met u).1 hu
  obtain ⟨m2, hok2, rfl⟩ := hl2.1 h (h2 u hbu)
  rw [ofL_listB m2 hok2.1]
  exact sub_zero _ _ hok2.1 hm (hok2.2.2.2.2 met h3 hbu)
end
end Go.Proofs.YtadepdeckapgcaaDoor
end

section
namespace Go.Proofs.YtadepdeckapgcaaDoor
open Go.RowKit Go.Proofs.YtadepdeckapgcaaDoorW.PrintWords Go.Proofs.YtadepdeckapgcaaDoorW.PrintLast Go.Proofs.YtadepdeckapgcaaDoorW.PrintMore PWitnessTells
set_option linter.unusedSimpArgs false
set_option linter.unusedVariables false
theorem cCoreQ {w : World} {v : Value} {time : Int} {d : List Int} {n : List NNode} (hT : Tb w) (h : RepC w v time d n) (t : Int) : Calls Tryd.prog 22 #[v, .int .i64 t] w fun e w' => ∃ (l : List Int) (v' : Value), CoreRes time d n t l ∧ e = .returned v' ∧ IntsC w' v' l ∧ Quiet w w' := by
  obtain ⟨A1, c1, A2, c2, rfl, h1, h2, h3, h4⟩ := h
  exact (wCore w hT time A1 c1 d A2 c2 n h1 h2 h3 h4 t).mono fun e w' ⟨l, v', hq, he, ho, hb⟩ => ⟨l, v', hq, he, IntsC.of_own ho, Quiet.of hb⟩
theorem crOf {w : World} {v : Value} {l : List Int} (h : IntsC w v l) : Calls Tryd.prog 28 #[v] w fun e w' => e = .returned (.int .u64 (ofL 0 l : Nat)) ∧ Quiet w w' := by
  obtain ⟨A, c, rfl, h1, h2⟩ := h
  exact wROf w A c l h1 h2
theorem rAppEL {P : Program} {ops : Array Oper} {rest : List Oper} {o : Oper} {a : Act} {Q : Exit → Act → World → Prop} {W : World} (hw : Region.wanted o (yielded ops a.tmps) = true) (s x : Operand) (t e : TypeId)
    (ho : o.op = .call { callee := .builtin .append, args := #[s, x], argTypes := #[t, t] })
    (ht : P.underlying t = some (.slice e)) (hinfo : (P.info? e).map (fun i => (i.zero, i.size, i.bytes)) = some (some (.int .i64 0), 1, 8)) (he : e = 3) (b : Nat) (vx : Value) (l : List Int)
    (hs : a.eval s = .slice (some ⟨b, 0, none⟩) 0 0) (hx : a.eval x = vx) (hC : IntsC W vx l) (hl : l.length ≤ 1000000)
    (h : ∀ v1 w1, IntsC w1 v1 l → Quiet W w1 → wpList P ops Q rest (a.put o.dst v1) w1) : wpList P ops Q (o :: rest) a W :=
  wpList_step fun K hK => rAppE hw s x t e ho ht hinfo he b vx l hs hx hC hl (fun v1 w1 hi hq => hK _ _ (h v1 w1 hi hq))
structure WcLv (w0 : World) (cs : Array Value) (time : Int) (D : List Int) (N : List NNode) (Ac : Option Addr) (l : List Int) (wz : World) : Prop where
  x : Blk wz w0.heap.size cs 25
  r : RepC wz (.agg cs) time D N
  c : Kd.C (Kd.int .i64) wz Ac l.length l
  t : Tb wz
  q : Quiet w0 wz
theorem WcLv.quiet {w0 : World} {cs : Array Value} {time : Int} {D : List Int} {N : List NNode} {Ac : Option Addr} {l : List Int} {wz wy : World} (h : WcLv w0 cs time D N Ac l wz) (q : Quiet wz wy) : WcLv w0 cs time D N Ac l wy :=
  ⟨h.x.quiet q, h.r.quiet q, Kd.C_below h.c q.bel, h.t.quiet q, h.q.quiet q⟩
def WcRel (w0 : World) (cs : Array Value) (time : Int) (D : List Int) (N : List NNode) (Ac : Option Addr) (l : List Int) (i : Value) (wz : World) : Prop := ∃ k : Nat, k ≤ l.length ∧ i = .int .i64 k ∧ WcLv w0 cs time D N Ac l wz
set_option maxRecDepth 100000 in
set_option maxHeartbeats 4000000 in
theorem coresCore (w : World) (hT : Tb w) (time : Int) (A01 : Option Addr) (c01 : Nat) (d : List Int) (A02 : Option Addr) (c02 : Nat) (n : List NNode) (g1 : Kd.C (Kd.int .i64) w A01 d.length d) (g2 : d.length ≤ c01) (g3 : Kd.C k92 w A02 n.length n) (g4 : n.length ≤ c02) (t : Int) :
    Calls Tryd.prog 4 #[.agg #[.int .i64 time, .slice A01 d.length c01, .slice A02 n.length c02], .int .i64 t] w fun e w' => e = .returned (.bool true) ∧ Quiet w w' := by
  have OW := Lib.hid (fun o => wOwn36 (w.alloc o) time A01 c01 d A02 c02 n (Kd.C_below g1 (show Quiet w (w.alloc o) by (repeat (first | exact Fr.refl _ _ | assumption | (refine Fr.quiet ?_ (by assumption)) | refine Fr.quiet ?_ HF.out | refine Fr.quiet ?_ HF2.out | refine Fr.drew ?_ | refine Fr.drewN ?_ _ | refine Fr.alloc ?_ _ | refine Fr.setCell ?_ (.inr (by first | omega | (simp; done) | (simp; omega))) _))).bel) g2 (Kd.C_below g3 (show Quiet w (w.alloc o) by (repeat (first | exact Fr.refl _ _ | assumption | (refine Fr.quiet ?_ (by assumption)) | refine Fr.quiet ?_ HF.out | refine Fr.quiet ?_ HF2.out | refine Fr.drew ?_ | refine Fr.drewN ?_ _ | refine Fr.alloc ?_ _ | refine Fr.setCell ?_ (.inr (by first | omega | (simp; done) | (simp; omega))) _))).bel) g4)
  have HT := Lib.hid hT
  clear hT g1 g3
  have HX0 : Hid (Blk (w.alloc (.cells #[.int .i64 time, .slice A01 d.length c01, .slice A02 n.length c02] 25)) w.heap.size #[.int .i64 time, .slice A01 d.length c01, .slice A02 n.length c02] 25) := Lib.hid (Blk.new _ _ _)
  have HQ0 : Hid (Quiet w (w.alloc (.cells #[.int .i64 time, .slice A01 d.length c01, .slice A02 n.length c02] 25))) := Lib.hid (by (repeat (first | exact Fr.refl _ _ | assumption | (refine Fr.quiet ?_ (by assumption)) | refine Fr.quiet ?_ HF.out | refine Fr.quiet ?_ HF2.out | refine Fr.drew ?_ | refine Fr.drewN ?_ _ | refine Fr.alloc ?_ _ | refine Fr.setCell ?_ (.inr (by first | omega | (simp; done) | (simp; omega))) _)))
  go_enter Tryd.func4, Tryd.ntmps4
  go_wp2_with fail
  refine (OW.out _).mono ?_
  rintro e w1 ⟨v1, v2, rfl, hd, hn, hb⟩
  have q1 := Quiet.of hb
  obtain ⟨D, hD⟩ : ∃ D, D = d.take 70 := ⟨_, rfl⟩
  obtain ⟨N, hN⟩ : ∃ N, N = ownL n := ⟨_, rfl⟩
  rw [← hD] at hd; rw [← hN] at hn
  have HDD : Hid (D.take 70 = D) := Lib.hid (by rw [hD, take_take_same])
  have HNN : Hid (ownL N = N) := Lib.hid (by rw [hN, ownL_idem])
  have HSN : Hid (Sns N) := Lib.hid (by rw [hN]; exact ownL_sns n)
  obtain ⟨A1, c1, rfl⟩ := Kd.R_slice hd
  obtain ⟨A2, c2, rfl⟩ := Kd.R_slice hn
  have HX1 := Lib.hid (HX0.out.quiet q1); have HQ1 := Lib.hid (HQ0.out.quiet q1)
  have x0 := HX1.out.cell 0; have x1 := HX1.out.cell 1; have x2 := HX1.out.cell 2
  have f0 := HX1.out.free 0; have f1 := HX1.out.free 1; have f2 := HX1.out.free 2
  simp at x0 x1 x2
  have HD := Lib.hid hd; have HN := Lib.hid hn
  have hX2 := ((HX1.out.set 0 (.int .i64 time)).set 1 (.slice A1 D.length c1)).set 2 (.slice A2 N.length c2)
  have hR2 := Kd.R_set (Kd.R_set (Kd.R_set HD.out HX1.out (by decide) 0 (.int .i64 time)) (HX1.out.set 0 (.int .i64 time)) (by decide) 1 (.slice A1 D.length c1)) ((HX1.out.set 0 (.int .i64 time)).set 1 (.slice A1 D.length c1)) (by decide) 2 (.slice A2 N.length c2)
  have hN2 := Kd.R_set (Kd.R_set (Kd.R_set HN.out HX1.out (by decide) 0 (.int .i64 time)) (HX1.out.set 0 (.int .i64 time)) (by decide) 1 (.slice A1 D.length c1)) ((HX1.out.set 0 (.int .i64 time)).set 1 (.slice A1 D.length c1)) (by decide) 2 (.slice A2 N.length c2)
  simp at hX2
  have HQs : Hid (Quiet w (((w1.setCell ⟨w.heap.size, 0, none⟩ (.int .i64 time)).setCell ⟨w.heap.size, 1, none⟩ (.slice A1 D.length c1)).setCell ⟨w.heap.size, 2, none⟩ (.slice A2 N.length c2))) := Lib.hid (((HQ1.out.setCell (.inr (Nat.le_refl _)) _).setCell (.inr (Nat.le_refl _)) _).setCell (.inr (Nat.le_refl _)) _)
  have HV : Hid (WcLv w #[.int .i64 time, .slice A1 D.length c1, .slice A2 N.length c2] time D N none [] (((w1.setCell ⟨w.heap.size, 0, none⟩ (.int .i64 time)).setCell ⟨w.heap.size, 1, none⟩ (.slice A1 D.length c1)).setCell ⟨w.heap.size, 2, none⟩ (.slice A2 N.length c2))) := Lib.hid (by
    obtain ⟨_, r1, r2⟩ := Kd.R_reads' hR2
    obtain ⟨_, r3, r4⟩ := Kd.R_reads' hN2
    exact ⟨hX2, ⟨A1, c1, A2, c2, rfl, r2, r1, r4, r3⟩, ⟨rfl, Nat.zero_le _, fun q => absurd q (by simp)⟩, HT.out.quiet HQs.out, HQs.out⟩)
  clear hX2 hR2 hN2 hd hn hb hD hN q1 HX0 HQ0 OW HD HN HX1 HQ1 HQs HT
  have H3 : Hid (∀ W, Blk W w.heap.size #[.int .i64 time, .slice A1 D.length c1, .slice A2 N.length c2] 25 → W.cell? ⟨w.heap.size, 0, none⟩ = some (.int .i64 time) ∧ W.cell? ⟨w.heap.size, 1, none⟩ = some (.slice A1 D.length c1) ∧ W.cell? ⟨w.heap.size, 2, none⟩ = some (.slice A2 N.length c2)) := Lib.hid (fun W h => ⟨by simpa using h.cell 0, by simpa using h.cell 1, by simpa using h.cell 2⟩)
  go_wp2_with fail
  generalize ((w1.setCell ⟨w.heap.size, 0, none⟩ (.int .i64 time)).setCell ⟨w.heap.size, 1, none⟩ (.slice A1 D.length c1)).setCell ⟨w.heap.size, 2, none⟩ (.slice A2 N.length c2) = w2 at *
  clear x0 x1 x2 f0 f1 f2
  refine (cOwn36 HV.out.r).mono ?_
  rintro e w20 ⟨v10, rfl, hr, hq⟩
  have HR10 : Hid (RepC w20 v10 time D N) := Lib.hid (by have q := hr.c; rw [HDD.out, HNN.out] at q; exact q)
  have Hn := Lib.hid (HV.out.quiet hq)
  clear HV hr hq
  have HV := Hn
  clear Hn
  go_wp2_with fail
  refine (cCoreQ HV.out.t HR10.out t).mono ?_
  rintro e w21 ⟨l, v14, hl, rfl, hi, hq⟩
  obtain ⟨Ac, cc, rfl, hC, hcc⟩ := hi
  have Hn : Hid (WcLv w #[.int .i64 time, .slice A1 D.length c1, .slice A2 N.length c2] time D N Ac l w21) := Lib.hid (by have q := HV.out.quiet hq; exact ⟨q.x, q.r, hC, q.t, q.q⟩)
  have hlm := hC.2.1
  clear HV hq hC HR10
  have HV := Hn
  clear Hn
  have HL := Lib.hid hl
  clear hl
  have HDI : Hid (∀ W, WcLv w #[.int .i64 time, .slice A1 D.length c1, .slice A2 N.length c2] time D N Ac l W → IntsC W (.slice A1 D.length c1) D) := Lib.hid (fun W h => by
    obtain ⟨B1, b1, B2, b2, e, q1, q2, _, _⟩ := h.r
    injection e with e
    have e2 := congrArg (fun a : Array Value => a[1]?) e
    simp at e2
    exact ⟨B1, b1, by rw [e2.1, e2.2], q1, q2⟩)
  obtain ⟨x0, x1, x2⟩ := H3.out _ HV.out.x
  go_wp2_with fail
  refine (crOf (HDI.out _ HV.out)).mono ?_
  rintro e w22 ⟨rfl, hq⟩
  have Hn := Lib.hid (HV.out.quiet hq)
  clear HV hq x0 x1 x2
  have HV := Hn
  clear Hn
  obtain ⟨x0, x1, x2⟩ := H3.out _ HV.out.x
  go_wp2_with fail
  refine (cOwn36 HV.out.r).mono ?_
  rintro e w23 ⟨v19, rfl, hr, hq⟩
  have HR19 : Hid (RepC w23 v19 time D N) := Lib.hid (by have q := hr.c; rw [HDD.out, HNN.out] at q; exact q)
  have Hn := Lib.hid (HV.out.quiet hq)
  clear HV hr hq x0 x1 x2
  have HV := Hn
  clear Hn
  go_wp2_with fail
  refine (cSound HR19.out).mono ?_
  rintro e w24 ⟨rfl, hq⟩
  have Hn := Lib.hid (HV.out.quiet hq)
  clear HV hq HR19
  have HV := Hn
  clear Hn
  have hdl := ofL_lt D 0 (by decide)
  cases hs : soundR time D N
  · have hl0 : l = [] := HL.out.2 (by rw [hs]; rfl)
    subst hl0
    clear hs HL
    go_wp2_with fail
    refine (cLives _ HV.out.t).mono ?_
    rintro e w25 ⟨rfl, hq⟩
    have HQ := Lib.hid (HV.out.q.quiet hq)
    clear hq
    go_wp2
    go_ret
    exact ⟨rfl, HQ.out⟩
  go_wp2_with fail
  refine (wRHas _ _ hdl t).mono ?_
  rintro e w25 ⟨rfl, hq⟩
  have Hn := Lib.hid (HV.out.quiet hq)
  clear HV hq
  have HV := Hn
  clear Hn
  cases ht : hasB (ofL 0 D) t
  · have hl0 : l = [] := HL.out.2 (by rw [hs, ht]; rfl)
    subst hl0
    clear hs ht HL
    go_wp2_with fail
    refine (cLives _ HV.out.t).mono ?_
    rintro e w26 ⟨rfl, hq⟩
    have HQ := Lib.hid (HV.out.q.quiet hq)
    clear hq
    go_wp2
    go_ret
    exact ⟨rfl, HQ.out⟩
  obtain ⟨F1, F2, F3, F4⟩ := core_facts hs ht l HL.out
  have HF1 := Lib.hid F1; have HF3 := Lib.hid F3; have HF4 := Lib.hid F4
  have hll := ofL_lt l 0 (by decide)
  have hl64 : l.length ≤ 64 := by
    obtain ⟨met, _, e⟩ := HL.out.1 hs ht
    rw [e]; exact listB_len met
  clear hs ht HL F1 F3 F4
  go_wp2_with fail
  refine (crOf ⟨Ac, cc, rfl, HV.out.c, hcc⟩).mono ?_
  rintro e w26 ⟨rfl, hq⟩
  have Hn := Lib.hid (HV.out.quiet hq)
  clear HV hq
  have HV := Hn
  clear Hn
  obtain ⟨sl, hsl⟩ : ∃ x, x = ofL 0 l := ⟨_, rfl⟩
  rw [← hsl] at F2 hll
  rw [← hsl]
  have HF1' : Hid (hasB sl t = true) := Lib.hid (by rw [hsl]; exact HF1.out)
  have HF3' : Hid (soundR (partT time D N) (partD sl time D N) (partN sl time D N) = true) := Lib.hid (by rw [hsl]; exact HF3.out)
  have HF4' := HF4.out
  rw [← hsl] at HF4'
  have HSL := Lib.hid hsl.symm
  clear hsl HF1 HF3 HF4
  have HF1 := HF1'; have HF3 := HF3'; have HF4 := Lib.hid HF4'
  clear HF1' HF3' HF4'
  go_wp2_with fail
  refine (wRHas _ _ hll t).mono ?_
  rw [HF1.out]
  rintro e w27 ⟨rfl, hq⟩
  have Hn := Lib.hid (HV.out.quiet hq)
  clear HV hq HF1
  have HV := Hn
  clear Hn
  obtain ⟨x0, x1, x2⟩ := H3.out _ HV.out.x
  go_wp2_with fail
  refine (cOwn36 HV.out.r).mono ?_
  rintro e w28 ⟨v48, rfl, hr, hq⟩
  have HR48 : Hid (RepC w28 v48 time D N) := Lib.hid (by have q := hr.c; rw [HDD.out, HNN.out] at q; exact q)
  have Hn := Lib.hid (HV.out.quiet hq)
  clear HV hr hq x0 x1 x2
  have HV := Hn
  clear Hn
  have HV2 := Lib.hid (HV.out.quiet (Fr.alloc (Fr.refl _ w28) (.cells #[] 3)))
  have HR49 := Lib.hid (HR48.out.quiet (Fr.alloc (Fr.refl _ w28) (.cells #[] 3)))
  clear HV HR48
  go_wp2_with (at_builtin; refine rAppEL (by rfl) (.tmp 49) (.tmp 50) 22 3 rfl Tryd.underlying22 infoInt rfl w28.heap.size (.slice Ac l.length cc) l rfl rfl ⟨Ac, cc, rfl, HV2.out.c, hcc⟩ (by omega) ?_; intro v51 w29 hi hq; have HI51 := Lib.hid hi; have HV := Lib.hid (HV2.out.quiet hq); have HR50 := Lib.hid (HR49.out.quiet hq); clear hi hq)
  refine (cPart HR50.out HI51.out HSN.out).mono ?_
  rintro e w30 ⟨v52, rfl, hp, hq⟩
  rw [HSL.out] at hp
  have HP := Lib.hid hp
  have Hn := Lib.hid (HV.out.quiet hq)
  clear HV hq hp HR50 HI51 HV2 HR49
  have HV := Hn
  clear Hn
  go_wp2_with fail
  refine (cSound HP.out).mono ?_
  rw [HF3.out]
  rintro e w31 ⟨rfl, hq⟩
  have Hn := Lib.hid (HV.out.quiet hq)
  clear HV hq HP HF3
  have HV := Hn
  clear Hn
  go_wp2
  go_loopw [8] (fun i wr => WcRel w #[.int .i64 time, .slice A1 D.length c1, .slice A2 N.length c2] time D N Ac l i wr) (fun i _ => l.length - (intOf i).toNat)
  case atStart => exact ⟨0, Nat.zero_le _, rfl, HV.out⟩
  case round =>
    obtain ⟨k, hk, rfl, hv⟩ := hrel
    by_cases hlt : k < l.length
    · obtain ⟨ac, hA, g0⟩ := at_ints hv.c k hlt
      have hmem := getD_mem 0 l k hlt
      have H4' : Hid (∀ W, WcLv w #[.int .i64 time, .slice A1 D.length c1, .slice A2 N.length c2] time D N Ac l W → W.cell? ⟨w.heap.size, 0, none⟩ = some (.int .i64 time) ∧ W.cell? ⟨w.heap.size, 1, none⟩ = some (.slice A1 D.length c1) ∧ W.cell? ⟨w.heap.size, 2, none⟩ = some (.slice A2 N.length c2) ∧ W.cell? (ac.add k) = some (.int .i64 (l.getD k 0))) := Lib.hid (fun W h => by
        obtain ⟨q0, q1, q2⟩ := H3.out _ h.x
        obtain ⟨a2, e2, q3⟩ := at_ints h.c k hlt
        have e3 := hA.symm.trans e2
        injection e3 with e3
        rw [e3]
        exact ⟨q0, q1, q2, q3⟩)
      have HF := Lib.hid (HF4.out _ hmem)
      generalize l.getD k 0 = u at *
      subst hA
      have HV := Lib.hid hv
      have H4 := H4'
      have HJ := Lib.hid (H4.out _ HV.out)
      have hk0 : (0 : Int) ≤ (k : Int) := by omega
      have hk1 : (k : Int) < (l.length : Int) := by omega
      clear hv H4' hmem g0 F2
      go_wp2_with fail
      have Hn := Lib.hid (HV.out.quiet (Fr.drew (Fr.refl _ wr)))
      clear HV
      have HV := Hn
      clear Hn
      clear HJ
      have HJ := Lib.hid (H4.out _ HV.out)
      refine start_ (n := 11) (S := fun w' => w'.cell? ⟨w.heap.size, 0, none⟩ = some (.int .i64 time) ∧ w'.cell? ⟨w.heap.size, 1, none⟩ = some (.slice A1 D.length c1) ∧ w'.cell? ⟨w.heap.size, 2, none⟩ = some (.slice A2 N.length c2) ∧ w'.cell? (ac.add k) = some (.int .i64 u)) (ds := []) #[false, false, false, false, false, false, false, false, false, false, false] (by kernel_rfl) rfl rfl ⟨HJ.out.1, HJ.out.2.1, HJ.out.2.2.1, HJ.out.2.2.2⟩ (fun hHeld => ?_)
      generalize wr.drew = w40 at HV HJ hHeld ⊢
      refine pure_ (i := 2) (N := some 64) (v := ?_) (a' := ?_) #[false, false, true, false, false, false, false, false, false, false, false] rfl rfl (by kernel_rfl) (fun _ _ _ h => h) (Or.inl ⟨by rfl, ?_⟩) ?_ ?_
      rotate_left
      · intro w'
        go_simp
        with_reducible rfl
      rotate_left
      · simp only [Act.put, List.setIfInBounds_toArray, List.set_cons_zero, List.set_cons_succ, i64_w, i32_w]
        rfl
      refine pure_ (i := 3) (N := some 65) (v := ?_) (a' := ?_) #[false, false, true, true, false, false, false, false, false, false, false] rfl rfl (by kernel_rfl) (fun _ _ _ h => h) (Or.inl ⟨by rfl, ?_⟩) ?_ ?_
      rotate_left
      · intro w'
        go_simp
        with_reducible rfl
      rotate_left
      · simp only [Act.put, List.setIfInBounds_toArray, List.set_cons_zero, List.set_cons_succ, i64_w, i32_w]
        rfl
      refine pure_ (i := 4) (N := some 66) (v := ?_) (a' := ?_) #[false, false, true, true, true, false, false, false, false, false, false] rfl rfl (by kernel_rfl) (fun _ _ _ h => h) (Or.inl ⟨by rfl, ?_⟩) ?_ ?_
      rotate_left
      · intro w'
        go_simp
        with_reducible rfl
      rotate_left
      · simp only [Act.put, List.setIfInBounds_toArray, List.set_cons_zero, List.set_cons_succ, i64_w, i32_w]
        rfl
      refine pure_ (i := 8) (N := some 70) (v := ?_) (a' := ?_) #[false, false, true, true, true, false, false, false, true, false, false] rfl rfl (by kernel_rfl) (fun _ _ _ h => h) (Or.inl ⟨by rfl, ?_⟩) ?_ ?_
      rotate_left
      · intro w'
        go_simp
        with_reducible rfl
      rotate_left
      · simp only [Act.put, List.setIfInBounds_toArray, List.set_cons_zero, List.set_cons_succ, i64_w, i32_w]
        rfl
      refine take_ (i := 0) (N := some 62) (v := ?_) (a' := ?_) #[true, false, true, true, true, false, false, false, true, false, false] rfl rfl (by kernel_rfl) (fun _ _ _ h => h) (Or.inl ⟨by rfl, ?_⟩) hHeld ?_ ?_
      rotate_left
      · rintro w' ⟨s0, s1, s2, s3⟩
        go_simp
        with_reducible rfl
      rotate_left
      · simp only [Act.put, List.setIfInBounds_toArray, List.set_cons_zero, List.set_cons_succ, i64_w, i32_w]
        rfl
      refine take_ (i := 5) (N := some 67) (v := ?_) (a' := ?_) #[true, false, true, true, true, true, false, false, true, false, false] rfl rfl (by kernel_rfl) (fun _ _ _ h => h) (Or.inl ⟨by rfl, ?_⟩) hHeld ?_ ?_
      rotate_left
      · rintro w' ⟨s0, s1, s2, s3⟩
        go_simp
        with_reducible rfl
      rotate_left
      · simp only [Act.put, List.setIfInBounds_toArray, List.set_cons_zero, List.set_cons_succ, i64_w, i32_w]
        rfl
      refine one_ (i := 1) (N := some 63) #[true, true, true, true, true, true, false, false, true, false, false] rfl rfl (by kernel_rfl) (by decide) (fun K hK => ?_)
      refine goes_ Tryd.func13 (by kernel_rfl) rfl #[.agg #[.int .i64 time, .slice A1 D.length c1, .slice A2 N.length c2]] (by rfl) rfl rfl (by simp only [List.map_toArray, List.map_cons, List.map_nil]; rfl) ?_
      with_reducible refine (cOwn36 HV.out.r).mono ?_
      rintro e w41 ⟨v63, rfl, hr, hq⟩
      refine ⟨_, rfl, ?_⟩
      have Hn := Lib.hid (HV.out.quiet hq)
      clear HV
      have HV := Hn
      clear Hn
      have HR63 : Hid (RepC w41 v63 time D N) := Lib.hid (by have q := hr.c; rw [HDD.out, HNN.out] at q; exact q)
      clear hr
      clear HJ hq
      have HJ := Lib.hid (H4.out _ HV.out)
      refine hK.out _ _ ⟨HJ.out.1, HJ.out.2.1, HJ.out.2.2.1, HJ.out.2.2.2⟩ (fun hHeld => ?_)
      clear hK K
      refine norm_ (a' := ?_) ?_ ?_
      rotate_left
      · show Act.put _ (some 63) _ = _
        simp only [Act.put, List.setIfInBounds_toArray, List.set_cons_zero, List.set_cons_succ, i64_w, i32_w]
        rfl
      refine one_ (i := 6) (N := some 68) #[true, true, true, true, true, true, true, false, true, false, false] rfl rfl (by kernel_rfl) (by decide) (fun K hK => ?_)
      refine goes_ Tryd.func22 (by kernel_rfl) rfl #[v63, .int .i64 u] (by rfl) rfl rfl (by simp only [List.map_toArray, List.map_cons, List.map_nil]; rfl) ?_
      with_reducible refine (cCoreQ HV.out.t HR63.out u).mono ?_
      rintro e w42 ⟨l2, v68, hl2, rfl, hi, hq⟩
      refine ⟨_, rfl, ?_⟩
      have Hn := Lib.hid (HV.out.quiet hq)
      clear HV
      have HV := Hn
      clear Hn
      have HI68 := Lib.hid hi
      have hE := HF.out l2 hl2
      clear hi hl2
      clear HJ hq HR63
      have HJ := Lib.hid (H4.out _ HV.out)
      refine hK.out _ _ ⟨HJ.out.1, HJ.out.2.1, HJ.out.2.2.1, HJ.out.2.2.2⟩ (fun hHeld => ?_)
      clear hK K
      refine norm_ (a' := ?_) ?_ ?_
      rotate_left
      · show Act.put _ (some 68) _ = _
        simp only [Act.put, List.setIfInBounds_toArray, List.set_cons_zero, List.set_cons_succ, i64_w, i32_w]
        rfl
      refine one_ (i := 7) (N := some 69) #[true, true, true, true, true, true, true, true, true, false, false] rfl rfl (by kernel_rfl) (by decide) (fun K hK => ?_)
      refine goes_ Tryd.func28 (by kernel_rfl) rfl #[v68] (by rfl) rfl rfl (by simp only [List.map_toArray, List.map_cons, List.map_nil]; rfl) ?_
      with_reducible refine (crOf HI68.out).mono ?_
      rintro e w43 ⟨rfl, hq⟩
      refine ⟨_, rfl, ?_⟩
      have Hn := Lib.hid (HV.out.quiet hq)
      clear HV
      have HV := Hn
      clear Hn
      clear HJ hq HI68
      have HJ := Lib.hid (H4.out _ HV.out)
      refine hK.out _ _ ⟨HJ.out.1, HJ.out.2.1, HJ.out.2.2.1, HJ.out.2.2.2⟩ (fun hHeld => ?_)
      clear hK K
      refine norm_ (a' := ?_) ?_ ?_
      rotate_left
      · show Act.put _ (some 69) _ = _
        simp only [Act.put, List.setIfInBounds_toArray, List.set_cons_zero, List.set_cons_succ, i64_w, i32_w]
        rfl
      refine pure_ (i := 9) (N := some 71) (v := ?_) (a' := ?_) #[true, true, true, true, true, true, true, true, true, true, false] rfl rfl (by kernel_rfl) (fun _ _ _ h => h) (Or.inl ⟨by rfl, ?_⟩) ?_ ?_
      rotate_left
      · intro w'
        go_simp
        with_reducible rfl
      rotate_left
      · simp only [Act.put, List.setIfInBounds_toArray, List.set_cons_zero, List.set_cons_succ, i64_w, i32_w]
        rfl
      refine pure_ (i := 10) (N := some 72) (v := ?_) (a' := ?_) #[true, true, true, true, true, true, true, true, true, true, true] rfl rfl (by kernel_rfl) (fun _ _ _ h => h) (Or.inl ⟨by rfl, ?_⟩) ?_ ?_
      rotate_left
      · intro w'
        go_simp
        with_reducible rfl
      rotate_left
      · simp only [Act.put, List.setIfInBounds_toArray, List.set_cons_zero, List.set_cons_succ, i64_w, i32_w]
        rfl
      refine done_ (by kernel_rfl) ?_
      go_wp2
      go_roundw
      case rel => exact ⟨k + 1, by omega, by go_num, HV.out⟩
      case measure => simp [intOf]; omega
    · have HV := Lib.hid hv
      clear hv F2
      go_wp2_with fail
      refine (cLives _ HV.out.t).mono ?_
      rintro e w50 ⟨rfl, hq⟩
      have HQ := Lib.hid (HV.out.q.quiet hq)
      clear hq
      go_wp2
      go_ret
      exact ⟨rfl, HQ.out⟩
theorem witnessCoresW (W : World) (hT : Tb W) (cs0 : Array Value) (a0 : Int × List Int × List (Bool × List (List (Int × List (Int × Int))))) (e0 : shRep.rd W W.heap.size a0 cs0.toList) (a1 : Int) (r1 : -9223372036854775808 ≤ a1 ∧ a1 ≤ 9223372036854775807) :
    Calls Tryd.prog 4 #[.agg cs0, .int .i64 a1] W fun e w' => e = .returned (.bool true) ∧ Quiet W w' := by
  obtain ⟨A1, c1, A2, c2, e, g1, g2, g3, g4⟩ := rep_of e0
  rw [e]
  exact coresCore W hT _ A1 c1 _ A2 c2 _ g1 g2 g3 g4 a1
end Go.Proofs.YtadepdeckapgcaaDoor
end
