/- LawWitnessProves, part 4: what the proof stands on (merged by wip/shake.py out of the session's texts and of what the print wrote for this claim). -/
import Derived.ArgAppend
import Derived.BigQuiet
import Derived.Deep.QuietTactic
import Derived.Deep.RegionHeld3
import Derived.Deep.RegionHeldLaw
import Derived.Deep.WholeRow
import Derived.Laws.CopyOwn
import Derived.Laws.Tables
import Derived.Sort.Statements
import Derived.Test.YtadepdeckapgcaaDoorZqC

section
namespace Go.Proofs.YtadepdeckapgcaaDoor
open Go.RowKit Go.Proofs.YtadepdeckapgcaaDoorW.PrintWords Go.Proofs.YtadepdeckapgcaaDoorW.PrintLast Go.Proofs.YtadepdeckapgcaaDoorW.PrintMore PWitnessTells
set_option linter.unusedSimpArgs false
set_option linter.unusedVariables false
structure PrAt (w : World) (B R Y : Nat) (time : Int) (xs : Array Value) (vd vn : Value) (dd : List Int) (nn : List NNode) (wr : World) : Prop where
  x : Blk wr w.heap.size xs 25
  r : Blk wr R #[.int .i64 0, .slice none 0 0, .slice none 0 0] 25
  y : Blk wr Y #[.int .i64 time, vd, vn] 25
  od : (Kd.int .i64).R 3 wr w.heap.size Any_ vd dd
  on : k92.R 92 wr B Any_ vn nn
  ob : ∀ k, vn.ownBlock = some k → w.heap.size ≤ k
  b : Below w.heap.size w wr
theorem PrAt.quiet {w : World} {B R Y : Nat} {time : Int} {xs : Array Value} {vd vn : Value} {dd : List Int} {nn : List NNode} {wr wz : World} (h : PrAt w B R Y time xs vd vn dd nn wr) (q : Quiet wr wz) : PrAt w B R Y time xs vd vn dd nn wz :=
  ⟨q.blk h.x (fun x => x), q.blk h.r (fun x => x), q.blk h.y (fun x => x), Kd.R_below h.od q.bel, Kd.R_below h.on q.bel, h.ob, below_then h.b h.b.size q.bel⟩
structure PrMid (w : World) (B R Y : Nat) (time : Int) (xs : Array Value) (vd vn : Value) (v1 : Value) (de : List Int) (nn : List NNode) (wr : World) : Prop where
  x : Blk wr w.heap.size xs 25
  r : Blk wr R #[.int .i64 0, .slice none 0 0, .slice none 0 0] 25
  y : Blk wr Y #[.int .i64 time, vd, vn] 25
  od : (Kd.int .i64).R 3 wr w.heap.size Any_ v1 de
  on : k92.R 92 wr B Any_ vn nn
  ob : ∀ k, vn.ownBlock = some k → w.heap.size ≤ k
  b : Below w.heap.size w wr
theorem PrMid.quiet {w : World} {B R Y : Nat} {time : Int} {xs : Array Value} {vd vn v1 : Value} {de : List Int} {nn : List NNode} {wr wz : World} (h : PrMid w B R Y time xs vd vn v1 de nn wr) (q : Quiet wr wz) : PrMid w B R Y time xs vd vn v1 de nn wz :=
  ⟨q.blk h.x (fun x => x), q.blk h.r (fun x => x), q.blk h.y (fun x => x), Kd.R_below h.od q.bel, Kd.R_below h.on q.bel, h.ob, below_then h.b h.b.size q.bel⟩
theorem PrAt.growD {w : World} {B R Y : Nat} {time : Int} {xs : Array Value} {vd vn v1 : Value} {dd de : List Int} {nn : List NNode} {wr wz : World} (h : PrAt w B R Y time xs vd vn dd nn wr) (hg : wr.grownBy wz vd.ownBlock) (ho : (Kd.int .i64).R 3 wz w.heap.size Any_ v1 de) :
    PrMid w B R Y time xs vd vn v1 de nn wz := by
  obtain ⟨inner, own⟩ := Kd.R_own h.od
  exact ⟨grown_blk hg h.x (own_not_blk h.x own (by decide)), grown_blk hg h.r (own_not_blk h.r own (by decide)), grown_blk hg h.y (own_not_blk h.y own (by decide)), ho, Kd.R_drop (Kd.R_grown (Kd.R_apartR h.on h.od (by decide)) hg (fun k hk => hk.2)), h.ob, h.b.grown hg h.b.size (fun k hk => own_base own k hk)⟩
theorem PrMid.growN {w : World} {B R Y : Nat} {time : Int} {xs : Array Value} {vd vn v1 v2 : Value} {de : List Int} {nn ne : List NNode} {wr wz : World} (h : PrMid w B R Y time xs vd vn v1 de nn wr) (hRY : R ≠ Y) (hXY : w.heap.size < Y) (hg : wr.grownBy wz vn.ownBlock) (ho : k92.R 92 wz B Any_ v2 ne)
    (hat : v2.ownBlock = vn.ownBlock ∨ ∃ b, v2.ownBlock = some b ∧ wr.heap.size ≤ b) :
    PrAt w B R Y time xs v1 v2 de ne ((wz.setCell ⟨Y, 1, none⟩ v1).setCell ⟨Y, 2, none⟩ v2) := by
  obtain ⟨inner, own⟩ := Kd.R_own h.on
  have y2 := grown_blk hg h.y (own_not_blk h.y own (by decide))
  have y3 := y2.set 1 v1
  have o2 := Kd.R_drop (Kd.R_grown (Kd.R_apartR h.od h.on (by decide)) hg (fun k hk => hk.2))
  refine ⟨((grown_blk hg h.x (own_not_blk h.x own (by decide))).set_other (by show Y ≠ _; omega) _).set_other (by show Y ≠ _; omega) _, ((grown_blk hg h.r (own_not_blk h.r own (by decide))).set_other (by show Y ≠ _; omega) _).set_other (by show Y ≠ _; omega) _, by simpa using y3.set 2 v2, Kd.R_set (Kd.R_set o2 y2 (by decide) 1 v1) y3 (by decide) 2 v2, Kd.R_set (Kd.R_set ho y2 (by decide) 1 v1) y3 (by decide) 2 v2, fun k hk => ?_, ((h.b.grown hg h.b.size h.ob).setCell (by show w.heap.size ≤ Y; omega) _).setCell (by show w.heap.size ≤ Y; omega) _⟩
  rcases hat with e | ⟨b, e, hb⟩
  · exact h.ob k (by rw [← e]; exact hk)
  · rw [e] at hk; injection hk with hk; have := h.b.size; omega
end Go.Proofs.YtadepdeckapgcaaDoor
end

section
namespace Go.Proofs.YtadepdeckapgcaaDoor
open Go.RowKit Go.Proofs.YtadepdeckapgcaaDoorW.PrintWords Go.Proofs.YtadepdeckapgcaaDoorW.PrintLast Go.Proofs.YtadepdeckapgcaaDoorW.PrintMore PWitnessTells
set_option linter.unusedSimpArgs false
set_option linter.unusedVariables false
theorem wRHas (w : World) (s : Nat) (hs : s < B64) (t : Int) : Calls Tryd.prog 29 #[.int .u64 s, .int .i64 t] w fun e w' => e = .returned (.bool (hasB s t)) ∧ Quiet w w' := by
  obtain ⟨k, hk⟩ := (ev_has s hs t).rounds
  exact (logjamref02_Has.calls k (s : Int) t _ w hk).mono fun e w' ⟨he, m, hm⟩ => ⟨he, by rw [hm]; exact (Fr.refl _ _).drewN _⟩
end Go.Proofs.YtadepdeckapgcaaDoor
end

section
namespace Go.Proofs.YtadepdeckapgcaaDoor
open Go.RowKit Go.Proofs.YtadepdeckapgcaaDoorW.PrintWords Go.Proofs.YtadepdeckapgcaaDoorW.PrintLast Go.Proofs.YtadepdeckapgcaaDoorW.PrintMore PWitnessTells
set_option linter.unusedSimpArgs false
set_option linter.unusedVariables false
structure BothQ (a b W : World) : Prop where
  one : Quiet a W
  two : Quiet b W
theorem BothQ.quiet {a b W W' : World} (h : BothQ a b W) (q : Quiet W W') : BothQ a b W' := ⟨h.one.quiet q, h.two.quiet q⟩
theorem BothQ.bel {a b W : World} (h : BothQ a b W) : Below a.heap.size a W := Quiet.bel h.one
end Go.Proofs.YtadepdeckapgcaaDoor
end

section
namespace Go.Proofs.YtadepdeckapgcaaDoor
open Go.RowKit Go.Proofs.YtadepdeckapgcaaDoorW.PrintWords Go.Proofs.YtadepdeckapgcaaDoorW.PrintLast Go.Proofs.YtadepdeckapgcaaDoorW.PrintMore PWitnessTells
set_option linter.unusedSimpArgs false
set_option linter.unusedVariables false
def IntsC (w : World) (v : Value) (l : List Int) : Prop := ∃ A c, v = .slice A l.length c ∧ Kd.C (Kd.int .i64) w A l.length l ∧ l.length ≤ c
def NodesC (w : World) (v : Value) (l : List NNode) : Prop := ∃ A c, v = .slice A l.length c ∧ Kd.C k92 w A l.length l ∧ l.length ≤ c
def RepC (w : World) (v : Value) (time : Int) (d : List Int) (n : List NNode) : Prop :=
  ∃ A1 c1 A2 c2, v = .agg #[.int .i64 time, .slice A1 d.length c1, .slice A2 n.length c2] ∧ Kd.C (Kd.int .i64) w A1 d.length d ∧ d.length ≤ c1 ∧ Kd.C k92 w A2 n.length n ∧ n.length ≤ c2
def RepR (w : World) (B : Nat) (v : Value) (time : Int) (d : List Int) (n : List NNode) : Prop :=
  ∃ A1 c1 A2 c2, v = .agg #[.int .i64 time, .slice A1 d.length c1, .slice A2 n.length c2] ∧ Kd.C (Kd.int .i64) w A1 d.length d ∧ d.length ≤ c1 ∧ k92.R 92 w B Any_ (.slice A2 n.length c2) n
theorem IntsC.quiet {w w' : World} {v : Value} {l : List Int} (h : IntsC w v l) (q : Quiet w w') : IntsC w' v l := by
  obtain ⟨A, c, e, h1, h2⟩ := h; exact ⟨A, c, e, Kd.C_below h1 q.bel, h2⟩
theorem NodesC.quiet {w w' : World} {v : Value} {l : List NNode} (h : NodesC w v l) (q : Quiet w w') : NodesC w' v l := by
  obtain ⟨A, c, e, h1, h2⟩ := h; exact ⟨A, c, e, Kd.C_below h1 q.bel, h2⟩
theorem RepC.quiet {w w' : World} {v : Value} {time : Int} {d : List Int} {n : List NNode} (h : RepC w v time d n) (q : Quiet w w') : RepC w' v time d n := by
  obtain ⟨A1, c1, A2, c2, e, h1, h2, h3, h4⟩ := h; exact ⟨A1, c1, A2, c2, e, Kd.C_below h1 q.bel, h2, Kd.C_below h3 q.bel, h4⟩
theorem RepR.quiet {w w' : World} {B : Nat} {v : Value} {time : Int} {d : List Int} {n : List NNode} (h : RepR w B v time d n) (q : Quiet w w') : RepR w' B v time d n := by
  obtain ⟨A1, c1, A2, c2, e, h1, h2, h3⟩ := h; exact ⟨A1, c1, A2, c2, e, Kd.C_below h1 q.bel, h2, Kd.R_below h3 q.bel⟩
theorem RepR.c {w : World} {B : Nat} {v : Value} {time : Int} {d : List Int} {n : List NNode} (h : RepR w B v time d n) : RepC w v time d n := by
  obtain ⟨A1, c1, A2, c2, e, h1, h2, h3⟩ := h
  obtain ⟨_, h4, h5⟩ := Kd.R_reads' h3
  exact ⟨A1, c1, A2, c2, e, h1, h2, h5, h4⟩
theorem Blk.quiet {w w' : World} {b : Nat} {cs : Array Value} {t : TypeId} (h : Blk w b cs t) (q : Quiet w w') : Blk w' b cs t := q.blk h (fun x => x)
theorem IntsC.of_R {w : World} {base : Nat} {ok : Nat → Prop} {v : Value} {l : List Int} (h : (Kd.int .i64).R 3 w base ok v l) : IntsC w v l := by
  obtain ⟨A, c, e, h1, h2⟩ := Kd.R_reads h; exact ⟨A, c, e, h2, h1⟩
theorem IntsC.of_own {w : World} {base : Nat} {v : Value} {l : List Int} (h : w.ownsRow base 3 1 v l.length (nums .i64 l)) : IntsC w v l := by
  obtain ⟨A, c, rfl, hr⟩ := own_reads h
  have hR : (Kd.int .i64).R 3 w base (fun _ => True) (.slice A l.length c) l := Kd.R_of_own (enc := Value.int .i64) (h1 := fun _ => rfl) h (fun _ _ => trivial)
  exact IntsC.of_R hR
section
variable {w : World} {v v2 : Value} {time : Int} {d : List Int} {n l : List NNode} {s : List Int} {B : Nat}
theorem cOwn36 (h : RepC w v time d n) : Calls Tryd.prog 13 #[v] w fun e w' => ∃ v', e = .returned v' ∧ RepR w' w.heap.size v' time (d.take 70) (ownL n) ∧ Quiet w w' := by
  obtain ⟨A1, c1, A2, c2, rfl, h1, h2, h3, h4⟩ := h
  refine (wOwn36 w time A1 c1 d A2 c2 n h1 h2 h3 h4).mono fun e w' ⟨v1, v2, he, hd, hn, hb⟩ => ?_
  obtain ⟨A, c, rfl, hl, hc⟩ := Kd.R_reads hd
  obtain ⟨A', c', rfl⟩ := Kd.R_slice hn
  exact ⟨_, he, ⟨A, c, A', c', rfl, hc, hl, hn⟩, Quiet.of hb⟩
theorem cOwn26 (h : NodesC w v l) : Calls Tryd.prog 14 #[v] w fun e w' => ∃ v', e = .returned v' ∧ NodesC w' v' (ownL l) ∧ Quiet w w' := by
  obtain ⟨A, c, rfl, h1, h2⟩ := h
  refine (wOwn26 w A c l h1 h2).mono fun e w' ⟨v', he, hn, hb⟩ => ?_
  obtain ⟨A', c', e', h3, h4⟩ := Kd.R_reads hn
  exact ⟨v', he, ⟨A', c', e', h4, h3⟩, Quiet.of hb⟩
theorem cSound (h : RepC w v time d n) : Calls Tryd.prog 17 #[v] w fun e w' => e = .returned (.bool (soundR time d n)) ∧ Quiet w w' := by
  obtain ⟨A1, c1, A2, c2, rfl, h1, h2, h3, h4⟩ := h
  exact wSound w time A1 c1 d A2 c2 n h1 h2 h3 h4
theorem cMatch (h : RepC w v time d n) (hl : NodesC w v2 l) : Calls Tryd.prog 19 #[v, v2] w fun e w' => e = .returned (.bool (matchR time d n l)) ∧ Quiet w w' := by
  obtain ⟨A1, c1, A2, c2, rfl, h1, h2, h3, h4⟩ := h
  obtain ⟨A3, c3, rfl, h5, h6⟩ := hl
  exact wMatch w time A1 c1 d A2 c2 n h1 h2 h3 h4 A3 c3 l h5 h6
theorem cLack (h : RepC w v time d n) (t : Int) : Calls Tryd.prog 15 #[v, .int .i64 t] w fun e w' => e = .returned (.tuple #[.int .i64 0, .int .i64 (lackK time d n t), .bool (lackB time d n t)]) ∧ Quiet w w' := by
  obtain ⟨A1, c1, A2, c2, rfl, h1, h2, h3, h4⟩ := h
  exact wLack w time A1 c1 d A2 c2 n h1 h2 h3 h4 t
theorem cCore (hT : Tb w) (h : RepC w v time d n) (t : Int) : Calls Tryd.prog 22 #[v, .int .i64 t] w fun e w' => ∃ v', e = .returned v' ∧ IntsC w' v' (coreR time d n t) ∧ Quiet w w' := by
  obtain ⟨A1, c1, A2, c2, rfl, h1, h2, h3, h4⟩ := h
  refine (wCore w hT time A1 c1 d A2 c2 n h1 h2 h3 h4 t).mono fun e w' ⟨q, v', hq, he, ho, hb⟩ => ?_
  have := core_eq time d n t q hq
  subst this
  exact ⟨v', he, IntsC.of_own ho, Quiet.of hb⟩
theorem cPart (h : RepC w v time d n) (hs : IntsC w v2 s) (hS : Sns n) : Calls Tryd.prog 25 #[v, v2] w fun e w' => ∃ v', e = .returned v' ∧ RepC w' v' (partT time d n) (partD (ofL 0 s) time d n) (partN (ofL 0 s) time d n) ∧ Quiet w w' := by
  obtain ⟨A1, c1, A2, c2, rfl, h1, h2, h3, h4⟩ := h
  obtain ⟨A3, c3, rfl, h5, h6⟩ := hs
  refine (wPart w time A1 c1 d A2 c2 n h1 h2 h3 h4 A3 c3 s h5 h6 hS).mono fun e w' ⟨v1, v2, he, hd, hn, hb⟩ => ?_
  obtain ⟨A, c, rfl, hl, hc⟩ := Kd.R_reads hd
  obtain ⟨A', c', rfl, hl', hc'⟩ := Kd.R_reads hn
  exact ⟨_, he, ⟨A, c, A', c', rfl, hc, hl, hc', hl'⟩, Quiet.of hb⟩
end
theorem take_take_same {α : Type} (l : List α) (k : Nat) : (l.take k).take k = l.take k := by rw [List.take_take, Nat.min_self]
theorem map_take_ {α β : Type} (f : α → β) (l : List α) (k : Nat) : (l.map f).take k = (l.take k).map f := by rw [List.map_take]
theorem ownM_idem (m : NTerm) : ownM (ownM m) = ownM m := by simp only [ownM, take_take_same]
theorem ownW_idem (w : List NTerm) : ownW (ownW w) = ownW w := by
  unfold ownW; rw [map_take_, take_take_same, List.map_map]; exact List.map_congr_left fun m _ => ownM_idem m
theorem ownN_idem (x : NNode) : ownN (ownN x) = ownN x := by
  unfold ownN; simp only [map_take_, take_take_same, List.map_map]
  congr 1; exact List.map_congr_left fun m _ => ownW_idem m
theorem ownL_idem (l : List NNode) : ownL (ownL l) = ownL l := by
  unfold ownL; rw [map_take_, take_take_same, List.map_map]; exact List.map_congr_left fun m _ => ownN_idem m
theorem C_of_sh {α β : Type} {S : Sh α} {d : Kd β} (f : α → β) (hsz : d.sz = S.n) {w : World} (hK : ∀ a cs, S.rd w w.heap.size a cs → d.K w (f a) cs) {l : List α} {v : Value} (h : (shL S).rd w w.heap.size l [v]) :
    ∃ A c, v = .slice A (l.map f).length c ∧ Kd.C d w A (l.map f).length (l.map f) ∧ (l.map f).length ≤ c := by
  rcases h with ⟨rfl, a, h⟩ | ⟨b, o, cap, hb, hl, hm, h, hi⟩
  · simp at h; exact ⟨a, 0, h, ⟨rfl, Nat.zero_le _, fun q => absurd q (by simp)⟩, Nat.le_refl _⟩
  · simp at h
    unfold maxLen at hm
    refine ⟨some ⟨b, o, none⟩, cap, by rw [h, List.length_map], ⟨rfl, by rw [List.length_map]; omega, fun _ => ⟨⟨b, o, none⟩, rfl, fun j q hj => ?_⟩⟩, by rw [List.length_map]; exact hl⟩
    rw [List.getElem?_map] at hj
    obtain ⟨x, hx, rfl⟩ := Option.map_eq_some_iff.1 hj
    obtain ⟨hjl, rfl⟩ := List.getElem?_eq_some_iff.1 hx
    obtain ⟨ci, hr, hcl, hcell⟩ := hi j hjl
    refine ⟨ci, hcl.trans hsz.symm, hK _ _ hr, fun i u hu => ?_⟩
    obtain ⟨hil, _⟩ := List.getElem?_eq_some_iff.1 hu
    rw [addr_add, hsz, ← Nat.add_assoc, hcell i (by omega)]
    exact hu
abbrev shShare : Sh (Int × Int) := shP shInt shInt
abbrev shTerm : Sh (Int × List (Int × Int)) := shP shInt (shL shShare)
abbrev shNode : Sh (Bool × List (List (Int × List (Int × Int)))) := shP shBool (shL (shL shTerm))
abbrev shRep : Sh (Int × List Int × List (Bool × List (List (Int × List (Int × Int))))) := shP shInt (shP (shL shInt) (shL shNode))
def toS (x : Int × Int) : NShare := ⟨x.1, x.2⟩
def toM (x : Int × List (Int × Int)) : NTerm := ⟨x.1, x.2.map toS⟩
def toN (x : Bool × List (List (Int × List (Int × Int)))) : NNode := ⟨x.1, x.2.map (·.map toM)⟩
theorem share_of {w : World} (a : Int × Int) (cs : List Value) (h : shShare.rd w w.heap.size a cs) : k108.K w (toS a) cs := by
  obtain ⟨c1, c2, rfl, _, ⟨rfl, _⟩, ⟨rfl, _⟩⟩ := h
  exact k108_mk w (toS a)
theorem term_of {w : World} (a : Int × List (Int × Int)) (cs : List Value) (h : shTerm.rd w w.heap.size a cs) : k96.K w (toM a) cs := by
  obtain ⟨c1, c2, rfl, _, ⟨rfl, _⟩, h2⟩ := h
  have hc : ∃ v, c2 = [v] := by
    rcases h2 with ⟨_, a, e⟩ | ⟨b, o, cap, _, _, _, e, _⟩
    · exact ⟨_, e⟩
    · exact ⟨_, e⟩
  obtain ⟨v, rfl⟩ := hc
  obtain ⟨A, c, rfl, h3, h4⟩ := C_of_sh (S := shShare) (d := k108) toS rfl share_of h2
  exact k96_mk w (toM a) h4 h3
theorem one_of_sh {α : Type} {S : Sh α} {w : World} {l : List α} {cs : List Value} (h : (shL S).rd w w.heap.size l cs) : ∃ v, cs = [v] := by
  rcases h with ⟨_, a, e⟩ | ⟨b, o, cap, _, _, _, e, _⟩
  · exact ⟨_, e⟩
  · exact ⟨_, e⟩
theorem way_of {w : World} (a : List (Int × List (Int × Int))) (cs : List Value) (h : (shL shTerm).rd w w.heap.size a cs) : kWay.K w (a.map toM) cs := by
  obtain ⟨v, rfl⟩ := one_of_sh h
  obtain ⟨A, c, rfl, h3, h4⟩ := C_of_sh (S := shTerm) (d := k96) toM rfl term_of h
  exact ⟨A, c, rfl, h4, h3⟩
theorem node_of {w : World} (a : Bool × List (List (Int × List (Int × Int)))) (cs : List Value) (h : shNode.rd w w.heap.size a cs) : k92.K w (toN a) cs := by
  obtain ⟨c1, c2, rfl, _, h1, h2⟩ := h
  obtain rfl : c1 = [.bool a.1] := h1
  obtain ⟨v, rfl⟩ := one_of_sh h2
  obtain ⟨A, c, rfl, h3, h4⟩ := C_of_sh (S := shL shTerm) (d := kWay) (·.map toM) rfl way_of h2
  exact k92_mk w (toN a) h4 h3
theorem ints_of {w : World} {l : List Int} {v : Value} (h : (shL shInt).rd w w.heap.size l [v]) : IntsC w v l := by
  have q := C_of_sh (S := shInt) (d := Kd.int .i64) id rfl (fun a cs h => by obtain ⟨rfl, _⟩ := h; rfl) h
  rw [List.map_id] at q; exact q
theorem nodes_of {w : World} {l : List (Bool × List (List (Int × List (Int × Int))))} {v : Value} (h : (shL shNode).rd w w.heap.size l [v]) : NodesC w v (l.map toN) :=
  C_of_sh (S := shNode) (d := k92) toN rfl node_of h
theorem rep_of {w : World} {a : Int × List Int × List (Bool × List (List (Int × List (Int × Int))))} {cs : Array Value} (h : shRep.rd w w.heap.size a cs.toList) : RepC w (.agg cs) a.1 a.2.1 (a.2.2.map toN) := by
  obtain ⟨c1, c2, e, _, ⟨rfl, _⟩, ⟨c3, c4, rfl, _, h2, h3⟩⟩ := h
  obtain ⟨v, rfl⟩ := one_of_sh h2
  obtain ⟨u, rfl⟩ := one_of_sh h3
  obtain ⟨A1, d1, rfl, h4, h5⟩ := ints_of h2
  obtain ⟨A2, d2, rfl, h6, h7⟩ := nodes_of h3
  have e2 : cs = #[.int .i64 a.1, .slice A1 a.2.1.length d1, .slice A2 (a.2.2.map toN).length d2] := by apply Array.ext'; rw [e]; rfl
  exact ⟨A1, d1, A2, d2, by rw [e2], h4, h5, h6, h7⟩
end Go.Proofs.YtadepdeckapgcaaDoor
end

section
namespace Go.Proofs.YtadepdeckapgcaaDoor.PWitnessTells
open Go.RowKit Go.Proofs.YtadepdeckapgcaaDoorW.PrintWords Go.Proofs.YtadepdeckapgcaaDoorW.PrintLast Go.Proofs.YtadepdeckapgcaaDoorW.PrintMore
attribute [local go_sem] max2_int min2_int max_two min_two max_three min_three max_four min_four
set_option linter.unusedVariables false
set_option linter.unusedSimpArgs false
def logjamlaw37_ask.f (a0 : Int) : Option (Bool × (List (List (S96)))) := some (true, (([(([(⟨1, (([(⟨a0, 1⟩ : S108)] : List (S108)))⟩ : S96)] : List (S96)))] : List (List (S96)))))
set_option maxHeartbeats 8000000 in
set_option maxRecDepth 100000 in
theorem logjamlaw37_ask.calls (a0 : Int) (r1 : Bool) (r2 : List (List (S96))) (w : World) (h : logjamlaw37_ask.f a0 = some (r1, r2)) :
  Calls Tryd.prog 69 #[.int .i64 a0] w fun e w' => ∃ v1_ : Value, e = .returned (.agg #[.bool r1, v1_]) ∧ Kd.N (Kd.slice 96 k96) 93 w' w.heap.size (fun k_ => (w.heap.size ≤ k_)) v1_ r2 ∧ Below w.heap.size w w' := by
 have hu92 := Tryd.underlying92
 have hu108 := Tryd.underlying108
 have hu96 := Tryd.underlying96
 have HB := Aside0.mk (Below.refl w.heap.size w)
 have H : (some (true, (([(([(⟨1, (([(⟨a0, 1⟩ : S108)] : List (S108)))⟩ : S96)] : List (S96)))] : List (List (S96)))))) = some (r1, r2) := h
 clear h
 obtain ⟨y355, hy355⟩ : ∃ y_ : List (S108), y_ = (([(⟨a0, 1⟩ : S108)] : List (S108))) := ⟨_, rfl⟩
 replace H : (some (true, (([(([(⟨1, y355⟩ : S96)] : List (S96)))] : List (List (S96)))))) = some (r1, r2) := by first | (rw [hy355]; with_reducible exact H) | (have H2_ := (Option.bind_some _ _).symm.trans H; rw [hy355]; with_reducible exact H2_) | (have H2_ := (Option.bind_some _ _).symm.trans H; with_reducible exact H2_) | with_reducible exact H | (rw [hy355]; exact H) | exact H
 have Ny355 := Aside0.mk hy355
 clear hy355
 obtain ⟨y358, hy358⟩ : ∃ y_ : List (S96), y_ = (([(⟨1, y355⟩ : S96)] : List (S96))) := ⟨_, rfl⟩
 replace H : (some (true, (([y358] : List (List (S96)))))) = some (r1, r2) := by first | (rw [hy358]; with_reducible exact H) | (have H2_ := (Option.bind_some _ _).symm.trans H; rw [hy358]; with_reducible exact H2_) | (have H2_ := (Option.bind_some _ _).symm.trans H; with_reducible exact H2_) | with_reducible exact H | (rw [hy358]; exact H) | exact H
 have Ny358 := Aside0.mk hy358
 clear hy358
 obtain ⟨y361, hy361⟩ : ∃ y_ : List (List (S96)), y_ = (([y358] : List (List (S96)))) := ⟨_, rfl⟩
 replace H : (some (true, y361)) = some (r1, r2) := by first | (rw [hy361]; with_reducible exact H) | (have H2_ := (Option.bind_some _ _).symm.trans H; rw [hy361]; with_reducible exact H2_) | (have H2_ := (Option.bind_some _ _).symm.trans H; with_reducible exact H2_) | with_reducible exact H | (rw [hy361]; exact H) | exact H
 have Ny361 := Aside0.mk hy361
 clear hy361
 simp only [Option.some.injEq, Prod.mk.injEq] at H
 obtain ⟨rfl, rfl⟩ := H
 go_enter Tryd.func69, Tryd.ntmps69
 go_wp2_with (first | ((with_reducible refine gate_dst (N := 2) rfl ?_); refine box_event ?hg (N := 2) ?hd (cs := #[.bool false, .slice none 0 0]) (t := 92) ?hr ?_; (case hd => rfl); (case hg => rfl); (case hr => first | (go_simp; done) | (go_simp; rfl)); intro gb354 hg w2 hbox hb; have n0_ := Aside0.mk (below_step (by repeat (first | (with_reducible first | exact HB.out | apply below_alloc | apply pw_below_drewN | apply below_drew1) | exact HB.out)) hb); have n1_ := Aside0.mk (hbox); have n2_ := Aside0.mk ((by rw [hg]; exact (below_size (by repeat (first | (with_reducible first | exact HB.out | apply below_alloc | apply pw_below_drewN | apply below_drew1) | exact HB.out))) : w.heap.size ≤ gb354)); have n3_ := Aside0.mk ((by rw [hg]; exact (below_size (by repeat (first | (with_reducible first | exact HB.out | apply below_alloc | apply pw_below_drewN | apply below_drew1) | exact HB.out))) : w.heap.size ≤ gb354)); clear HB; have HB := n0_; have BK354 := n1_; have GW354 := n2_; have GE354 := n3_; clear n0_ n1_ n2_ n3_; clear hb hbox hg) | ((with_reducible refine gate_dst (N := 5) rfl ?_); refine Kd.R_lit k108 _ 108 ?hg (N := 5) ?hd (xs := ([(⟨a0, 1⟩ : S108)] : List (S108))) (inner := [.int .i64 a0, .int .i64 1]) (ok := fun _ => True) (okp := fun _ => True) ?hr ?hp (fun _ hk => hk) trivial (Below.refl _ _) (Nat.le_refl _) (by simp) ?_; (case hd => rfl); (case hg => rfl); (case hr => first | (go_simp; done) | (go_simp; rfl)); (case hp => exact (Reps.c2 (show Kd.M k108 _ _ _ (⟨a0, 1⟩ : S108) [.int .i64 a0, .int .i64 1] from (k108_mkM _ _ _ (⟨a0, 1⟩ : S108) )) (Reps.none _ _))); intro v356 w3 ho4 hb hg_ hnew_; clear hg_ hnew_; (first | rw [← Ny355.out] at ho4 | (simp only [Int.reduceToNat] at ho4; rw [← Ny355.out] at ho4)); have n0_ := Aside0.mk (Kd.R_lower (Kd.R_newM (M := fun k_ => (w.heap.size ≤ k_)) ho4 (below_size (by repeat (first | (with_reducible first | exact HB.out | apply below_alloc | apply pw_below_drewN | apply below_drew1 | refine below_set ?_ GE354.out) | exact HB.out))) (fun k_ h_ => h_)) (below_size (by repeat (first | (with_reducible first | exact HB.out | apply below_alloc | apply pw_below_drewN | apply below_drew1 | refine below_set ?_ GE354.out) | exact HB.out)))); have n1_ := Aside0.mk (blk_below (g := gb354) (o := .cells #[.bool false, .slice none 0 0] 92 (0, 0)) (by (with_reducible repeat (first | refine blk_drewN ?_ _ | refine blk_drew ?_ | refine blk_alloc ?_ _)); exact BK354.out) hb); have n2_ := Aside0.mk (below_step (by repeat (first | (with_reducible first | exact HB.out | apply below_alloc | apply pw_below_drewN | apply below_drew1 | refine below_set ?_ GE354.out) | exact HB.out)) hb); clear BK354; clear HB; have HO357 := n0_; have BK354 := n1_; have HB := n2_; clear n0_ n1_ n2_; clear hb ho4; obtain ⟨Ao5, co5, eo5⟩ := Kd.R_slice HO357.out; subst eo5) | ((with_reducible refine gate_dst (N := 7) rfl ?_); refine Kd.N_lit k96 _ 96 ?hg (N' := 7) ?hd (xs := ([(⟨1, y355⟩ : S96)] : List (S96))) (inner := [.int .i64 1, .slice Ao5 y355.length co5]) (ok := (fun k_ => (w.heap.size ≤ k_) ∧ k_ ≠ gb354)) (okp := (fun k_ => (w.heap.size ≤ k_) ∧ k_ ≠ gb354)) ?hr ?hp (fun _ hk => hk) ((show ∀ k_, w3.heap.size ≤ k_ → (fun k_ => (w.heap.size ≤ k_) ∧ k_ ≠ gb354) k_ from fun k_ hk => ⟨(Nat.le_trans (below_size (by repeat (first | (with_reducible first | exact HB.out | apply below_alloc | apply pw_below_drewN | apply below_drew1 | refine below_set ?_ GE354.out) | exact HB.out))) hk), Kd.freshB (g := gb354) (o := .cells #[.bool false, .slice none 0 0] 92 (0, 0)) (by (with_reducible repeat (first | refine blk_drewN ?_ _ | refine blk_drew ?_ | refine blk_alloc ?_ _)); exact BK354.out) k_ hk⟩) _ (Nat.le_refl _)) (Below.refl _ _) (Nat.le_refl _) (by simp) ?_; (case hd => rfl); (case hg => rfl); (case hr => first | (go_simp; done) | (go_simp; rfl)); (case hp => exact (Reps.c2 (show Kd.FK k96 _ _ (⟨1, y355⟩ : S96) [.int .i64 1, .slice Ao5 y355.length co5] from (k96_mkF _ _ (⟨1, y355⟩ : S96) (Kd.R_reads' (Kd.R_mono (ok' := (fun k_ => (w.heap.size ≤ k_) ∧ k_ ≠ gb354)) (Kd.R_types (HO357.out) BK354.out (by decide)) (fun k_ hk => ⟨hk.1.1, hk.2⟩))).2.1 (Kd.R_F (Kd.R_mono (ok' := (fun k_ => (w.heap.size ≤ k_) ∧ k_ ≠ gb354)) (Kd.R_types (HO357.out) BK354.out (by decide)) (fun k_ hk => ⟨hk.1.1, hk.2⟩))))) (Reps.none _ _))); intro v359 w6 ho7 hb hg_ hnew_; clear hg_ hnew_; (first | rw [← Ny358.out] at ho7 | (simp only [Int.reduceToNat] at ho7; rw [← Ny358.out] at ho7)); have n0_ := Aside0.mk (Kd.N_lower ho7 (below_size (by repeat (first | (with_reducible first | exact HB.out | apply below_alloc | apply pw_below_drewN | apply below_drew1 | refine below_set ?_ GE354.out) | exact HB.out)))); have n1_ := Aside0.mk (blk_below (g := gb354) (o := .cells #[.bool false, .slice none 0 0] 92 (0, 0)) (by (with_reducible repeat (first | refine blk_drewN ?_ _ | refine blk_drew ?_ | refine blk_alloc ?_ _)); exact BK354.out) hb); have n2_ := Aside0.mk (below_step (by repeat (first | (with_reducible first | exact HB.out | apply below_alloc | apply pw_below_drewN | apply below_drew1 | refine below_set ?_ GE354.out) | exact HB.out)) hb); clear BK354; clear HB; clear HO357; have HO360 := n0_; have BK354 := n1_; have HB := n2_; clear n0_ n1_ n2_; clear hb ho7; obtain ⟨Ao8, co8, eo8⟩ := Kd.N_slice HO360.out; subst eo8) | ((with_reducible refine gate_dst (N := 8) rfl ?_); refine Kd.N_lit (Kd.slice 96 k96) _ 93 ?hg (N' := 8) ?hd (xs := ([y358] : List (List (S96)))) (inner := [.slice Ao8 y358.length co8]) (ok := (fun k_ => (w.heap.size ≤ k_) ∧ k_ ≠ gb354)) (okp := (fun k_ => (w.heap.size ≤ k_) ∧ k_ ≠ gb354)) ?hr ?hp (fun _ hk => hk) ((show ∀ k_, w6.heap.size ≤ k_ → (fun k_ => (w.heap.size ≤ k_) ∧ k_ ≠ gb354) k_ from fun k_ hk => ⟨(Nat.le_trans (below_size (by repeat (first | (with_reducible first | exact HB.out | apply below_alloc | apply pw_below_drewN | apply below_drew1 | refine below_set ?_ GE354.out) | exact HB.out))) hk), Kd.freshB (g := gb354) (o := .cells #[.bool false, .slice none 0 0] 92 (0, 0)) (by (with_reducible repeat (first | refine blk_drewN ?_ _ | refine blk_drew ?_ | refine blk_alloc ?_ _)); exact BK354.out) k_ hk⟩) _ (Nat.le_refl _)) (Below.refl _ _) (Nat.le_refl _) (by simp) ?_; (case hd => rfl); (case hg => rfl); (case hr => first | (go_simp; done) | (go_simp; rfl)); (case hp => exact (Reps.one (show Kd.FK (Kd.slice 96 k96) _ _ y358 [.slice Ao8 y358.length co8] from (Kd.FK_slice_mk (Kd.N_reads' (Kd.N_mono (ok' := (fun k_ => (w.heap.size ≤ k_) ∧ k_ ≠ gb354)) (HO360.out) (fun k_ hk => ⟨hk.1, hk.2⟩))).2.1 (Kd.N_F (Kd.N_mono (ok' := (fun k_ => (w.heap.size ≤ k_) ∧ k_ ≠ gb354)) (HO360.out) (fun k_ hk => ⟨hk.1, hk.2⟩))))) (Reps.none _ _))); intro v362 w9 ho10 hb hg_ hnew_; clear hg_ hnew_; (first | rw [← Ny361.out] at ho10 | (simp only [Int.reduceToNat] at ho10; rw [← Ny361.out] at ho10)); have n0_ := Aside0.mk (Kd.N_lower ho10 (below_size (by repeat (first | (with_reducible first | exact HB.out | apply below_alloc | apply pw_below_drewN | apply below_drew1 | refine below_set ?_ GE354.out) | exact HB.out)))); have n1_ := Aside0.mk (blk_below (g := gb354) (o := .cells #[.bool false, .slice none 0 0] 92 (0, 0)) (by (with_reducible repeat (first | refine blk_drewN ?_ _ | refine blk_drew ?_ | refine blk_alloc ?_ _)); exact BK354.out) hb); have n2_ := Aside0.mk (below_step (by repeat (first | (with_reducible first | exact HB.out | apply below_alloc | apply pw_below_drewN | apply below_drew1 | refine below_set ?_ GE354.out) | exact HB.out)) hb); clear BK354; clear HB; clear HO360; have HO363 := n0_; have BK354 := n1_; have HB := n2_; clear n0_ n1_ n2_; clear hb ho10; obtain ⟨Ao11, co11, eo11⟩ := Kd.N_slice HO363.out; subst eo11; have hcz12_0 : w9.cell? ⟨gb354, 0, none⟩ = some (.bool false) := (blk_cell BK354.out 0).trans rfl; have hcz12_1 : w9.cell? ⟨gb354, 1, none⟩ = some (.slice none 0 0) := (blk_cell BK354.out 1).trans rfl; have hfz12_0 := blk_frozen BK354.out 0; have hfz12_1 := blk_frozen BK354.out 1))
 refine bodyPost_ret (results_cell_row rfl _ _ gb354 92 #[.bool true, .slice Ao11 y361.length co11] (0, 0) _ rfl (by (with_reducible repeat (first | refine blk_drewN ?_ _ | refine blk_drew ?_ | refine blk_alloc ?_ _)); refine blk_put (cs := #[.bool true, .slice none 0 0]) ?_ 1 _ rfl; (with_reducible repeat (first | refine blk_drewN ?_ _ | refine blk_drew ?_ | refine blk_alloc ?_ _)); refine blk_put (cs := #[.bool false, .slice none 0 0]) ?_ 0 _ rfl; (with_reducible repeat (first | refine blk_drewN ?_ _ | refine blk_drew ?_ | refine blk_alloc ?_ _)); exact BK354.out) Tryd.underlying92 rfl (by kernel_rfl)) rfl ?_
 exact ⟨_, by first | rfl | (simp [errW_none, errW_some] <;> rfl) | (simp [*, errW_none, errW_some] <;> rfl), by (with_reducible repeat (first | apply Kd.N_alloc | apply Kd.N_drewN | apply Kd.N_drew)); exact Kd.N_mono (Kd.N_far (p := ⟨gb354, 1, none⟩) (Kd.N_far (p := ⟨gb354, 0, none⟩) (Kd.N_mono HO363.out (fun k_ hk => (⟨hk, hk.2⟩ : _ ∧ k_ ≠ gb354))) (fun _ hk => hk.2) (.bool true)) (fun _ hk => hk.2) (.slice Ao11 y361.length co11)) (fun _ hk => hk.1.1), by repeat (first | (with_reducible first | exact HB.out | apply below_alloc | apply pw_below_drewN | apply below_drew1 | refine below_set ?_ GE354.out) | exact HB.out)⟩
end Go.Proofs.YtadepdeckapgcaaDoor.PWitnessTells
end

section
namespace Go.Proofs.YtadepdeckapgcaaDoor
open Go.RowKit Go.Proofs.YtadepdeckapgcaaDoorW.PrintWords Go.Proofs.YtadepdeckapgcaaDoorW.PrintLast Go.Proofs.YtadepdeckapgcaaDoorW.PrintMore PWitnessTells
set_option linter.unusedSimpArgs false
set_option linter.unusedVariables false
theorem flat_get {α : Type} {sz : Nat} : ∀ {l : List (α × List Value)} (_ : ∀ p ∈ l, p.2.length = sz) (j : Nat) (p : α × List Value) (_ : l[j]? = some p) (i : Nat) (_ : i < sz), (l.flatMap Prod.snd)[j * sz + i]? = p.2[i]?
  | [], _, j, p, hj, _, _ => by simp at hj
  | a :: r, h, 0, p, hj, i, hi => by
    simp at hj; subst hj
    rw [List.flatMap_cons, Nat.zero_mul, Nat.zero_add, List.getElem?_append_left (by rw [h a (by simp)]; exact hi)]
  | a :: r, h, j + 1, p, hj, i, hi => by
    have ha := h a (by simp)
    have ih := flat_get (l := r) (fun q hq => h q (by simp [hq])) j p (by simpa using hj) i hi
    rw [List.flatMap_cons, List.getElem?_append_right (by rw [ha, Nat.succ_mul]; omega), ha, show (j + 1) * sz + i - sz = j * sz + i by rw [Nat.succ_mul]; omega]
    exact ih
theorem C_of_blk {α : Type} (d : Kd α) {W : World} {b : Nat} {t : TypeId} (l : List (α × List Value)) (h : Blk W b (l.flatMap Prod.snd).toArray t) (hK : ∀ p ∈ l, d.K W p.1 p.2) (hm : l.length ≤ 1000000) : Kd.C d W (some ⟨b, 0, none⟩) l.length (l.map Prod.fst) := by
  refine ⟨List.length_map _, by omega, fun _ => ⟨⟨b, 0, none⟩, rfl, fun j q hj => ?_⟩⟩
  rw [List.getElem?_map] at hj
  obtain ⟨p, hp, rfl⟩ := Option.map_eq_some_iff.1 hj
  have hk := hK p (List.mem_of_getElem? hp)
  have hl := d.K_len hk
  refine ⟨p.2, hl, hk, fun i u hu => ?_⟩
  obtain ⟨hil, _⟩ := List.getElem?_eq_some_iff.1 hu
  rw [add_plain, h.cell, List.getElem?_toArray, flat_get (fun p hp => d.K_len (hK p hp)) j p hp i (by omega)]
  exact hu
def wayL (t : Int) : List (List NTerm) := [[⟨1, [⟨t, 1⟩]⟩]]
def nodeL (t : Int) : NNode := ⟨true, wayL t⟩
def nodesL : List NNode := [nodeL 1, nodeL 0, nodeL 1]
theorem cAsk (w : World) (t : Int) : Calls Tryd.prog 69 #[.int .i64 t] w fun e w' => ∃ A c, e = .returned (.agg #[.bool true, .slice A 1 c]) ∧ kWay.C w' A 1 (wayL t) ∧ 1 ≤ c ∧ Quiet w w' := by
  refine (logjamlaw37_ask.calls t true (wayL t) w rfl).mono fun e w' ⟨v, he, hN, hb⟩ => ?_
  obtain ⟨A, c, rfl, hl, hC⟩ := Kd.N_reads hN
  exact ⟨A, c, he, hC, hl, Quiet.of hb⟩
theorem lives_rep (w w1 w2 w3 : World) (A1 A2 A3 : Option Addr) (c1 c2 c3 : Nat) (q1 : Quiet (w.alloc (.cells #[.int .i64 0, .int .i64 1, .int .i64 2] 3)) w1) (h1 : kWay.C w1 A1 1 (wayL 1)) (l1 : 1 ≤ c1) (q2 : Quiet w1 w2) (h2 : kWay.C w2 A2 1 (wayL 0)) (l2 : 1 ≤ c2) (q3 : Quiet w2 w3) (h3 : kWay.C w3 A3 1 (wayL 1)) (l3 : 1 ≤ c3) (W : World)
    (qW : Quiet (w3.alloc (.cells #[.bool true, .slice A1 1 c1, .bool true, .slice A2 1 c2, .bool true, .slice A3 1 c3] 92)) W) :
    RepC W (.agg #[.int .i64 0, .slice (some ⟨w.heap.size, 0, none⟩) 3 3, .slice (some ⟨w3.heap.size, 0, none⟩) 3 3]) 0 [0, 1, 2] nodesL := by
  refine RepC.quiet ⟨some ⟨w.heap.size, 0, none⟩, 3, some ⟨w3.heap.size, 0, none⟩, 3, rfl, ?_, by decide, ?_, by decide⟩ qW
  · have b1 : Blk (w.alloc (.cells #[.int .i64 0, .int .i64 1, .int .i64 2] 3)) w.heap.size #[.int .i64 0, .int .i64 1, .int .i64 2] 3 := Blk.new _ _ _
    exact C_of_blk (Kd.int .i64) [(0, [.int .i64 0]), (1, [.int .i64 1]), (2, [.int .i64 2])] ((((b1.quiet q1).quiet q2).quiet q3).alloc _) (fun p hp => by simp at hp; rcases hp with rfl | rfl | rfl <;> rfl) (by decide)
  · have hq : Quiet w3 (w3.alloc (.cells #[.bool true, .slice A1 1 c1, .bool true, .slice A2 1 c2, .bool true, .slice A3 1 c3] 92)) := (Fr.refl _ _).alloc _
    refine C_of_blk k92 [(nodeL 1, [.bool true, .slice A1 1 c1]), (nodeL 0, [.bool true, .slice A2 1 c2]), (nodeL 1, [.bool true, .slice A3 1 c3])] (Blk.new _ _ _) (fun p hp => ?_) (by simp)
    simp at hp
    rcases hp with rfl | rfl | rfl
    · exact k92_mk _ (nodeL 1) l1 (Kd.C_below (Kd.C_below (Kd.C_below h1 q2.bel) q3.bel) hq.bel)
    · exact k92_mk _ (nodeL 0) l2 (Kd.C_below (Kd.C_below h2 q3.bel) hq.bel)
    · exact k92_mk _ (nodeL 1) l3 (Kd.C_below h3 hq.bel)
theorem lv_core : coreR 0 [0, 1, 2] nodesL 1 = [0, 1] := by decide +kernel
theorem lv_lackK : lackK 0 [0, 1, 2] nodesL 2 = 0 := by decide +kernel
theorem lv_lackB : lackB 0 [0, 1, 2] nodesL 2 = true := by decide +kernel
theorem lv_sound : soundR 0 [0, 1, 2] nodesL = true := by decide +kernel
theorem lv_match : matchR 0 [0, 1, 2] nodesL nodesL = true := by decide +kernel
theorem lv_match0 : matchR 0 [0, 1, 2] nodesL [] = false := by decide +kernel
theorem lv_part : soundR (partT 0 [0, 1, 2] nodesL) (partD (ofL 0 [0, 2]) 0 [0, 1, 2] nodesL) (partN (ofL 0 [0, 2]) 0 [0, 1, 2] nodesL) = false := by decide +kernel
theorem lv_sns : Sns nodesL := by
  refine ⟨by decide, fun x hx => ?_⟩
  have : x = nodeL 1 ∨ x = nodeL 0 := by unfold nodesL at hx; simp at hx; rcases hx with h | h | h <;> simp [h]
  rcases this with rfl | rfl
  all_goals
    refine ⟨by decide, fun y hy => ?_⟩
    simp [nodeL, wayL] at hy
    subst hy
    exact ⟨by decide, fun m hm => by simp at hm; subst hm; decide⟩
set_option maxRecDepth 100000 in
set_option maxHeartbeats 1000000 in
theorem cLives (w : World) (hT : Tb w) : Calls Tryd.prog 27 #[] w fun e w' => e = .returned (.bool true) ∧ Quiet w w' := by
  have HT := Lib.hid hT; clear hT
  go_enter Tryd.func27, Tryd.ntmps27
  go_wp2_with fail
  refine (cAsk _ 1).mono ?_
  rintro e w1 ⟨A1, c1, rfl, h1, l1, q1⟩
  have H1 := Lib.hid h1; have L1 := Lib.hid l1; have Q1 := Lib.hid q1; clear h1 l1 q1
  go_wp2_with fail
  refine (cAsk _ 0).mono ?_
  rintro e w2 ⟨A2, c2, rfl, h2, l2, q2⟩
  have H2 := Lib.hid h2; have L2 := Lib.hid l2; have Q2 := Lib.hid q2; clear h2 l2 q2
  go_wp2_with fail
  refine (cAsk _ 1).mono ?_
  rintro e w3 ⟨A3, c3, rfl, h3, l3, q3⟩
  have H3 := Lib.hid h3; have L3 := Lib.hid l3; have Q3 := Lib.hid q3; clear h3 l3 q3
  have HR := Lib.hid (lives_rep w w1 w2 w3 A1 A2 A3 c1 c2 c3 Q1.out H1.out L1.out Q2.out H2.out L2.out Q3.out H3.out L3.out)
  have HQ : Hid (Quiet w w3) := Lib.hid ((((Fr.refl _ _).alloc _).quiet Q1.out |>.quiet Q2.out).quiet Q3.out)
  clear H1 L1 Q1 H2 L2 Q2 H3 L3 Q3
  go_wp2_with fail
  obtain ⟨W4, hW4⟩ : ∃ W, W = (w3.alloc (.cells #[.bool true, .slice A1 1 c1, .bool true, .slice A2 1 c2, .bool true, .slice A3 1 c3] 92)).alloc (.cells #[.int .i64 0, .slice (some ⟨w.heap.size, 0, none⟩) 3 3, .slice (some ⟨w3.heap.size, 0, none⟩) 3 3] 25) := ⟨_, rfl⟩
  have HR4 : Hid (RepC W4 (.agg #[.int .i64 0, .slice (some ⟨w.heap.size, 0, none⟩) 3 3, .slice (some ⟨w3.heap.size, 0, none⟩) 3 3]) 0 [0, 1, 2] nodesL) := Lib.hid (HR.out W4 (by rw [hW4]; exact (Fr.refl _ _).alloc _))
  have HY4 : Hid (Blk W4 (w3.heap.size + 1) #[.int .i64 0, .slice (some ⟨w.heap.size, 0, none⟩) 3 3, .slice (some ⟨w3.heap.size, 0, none⟩) 3 3] 25) := Lib.hid (by rw [hW4]; simpa using Blk.new (w3.alloc (.cells #[.bool true, .slice A1 1 c1, .bool true, .slice A2 1 c2, .bool true, .slice A3 1 c3] 92)) #[.int .i64 0, .slice (some ⟨w.heap.size, 0, none⟩) 3 3, .slice (some ⟨w3.heap.size, 0, none⟩) 3 3] 25)
  have HQ4 : Hid (Quiet w W4) := Lib.hid (by rw [hW4]; exact (HQ.out.alloc _).alloc _)
  clear HR HQ
  rw [← hW4]
  clear hW4
  refine (cCore (HT.out.quiet HQ4.out) HR4.out 1).mono ?_
  rintro e w5 ⟨v5, rfl, hi5, q5⟩
  rw [lv_core] at hi5
  obtain ⟨Ac, cc, rfl, hC, hcc⟩ := hi5
  obtain ⟨ac, rfl, hc1⟩ := at_ints hC 1 (by decide)
  have hc1' : w5.cell? ⟨ac.block, ac.off + 1, none⟩ = some (.int .i64 1) := hc1
  have HC1 := Lib.hid hc1'
  have HR5 := Lib.hid (HR4.out.quiet q5); have HY5 := Lib.hid (HY4.out.quiet q5); have HQ5 := Lib.hid (HQ4.out.quiet q5)
  have y0 := HY5.out.cell 0; have y1 := HY5.out.cell 1; have y2 := HY5.out.cell 2
  simp at y0 y1 y2
  clear HR4 HY4 HQ4 q5 hC hcc hc1 hc1'
  go_wp2_with fail
  refine (cLack HR5.out 2).mono ?_
  rw [lv_lackK, lv_lackB]
  rintro e w6 ⟨rfl, q6⟩
  have HR6 := Lib.hid (HR5.out.quiet q6); have HY6 := Lib.hid (HY5.out.quiet q6); have HQ6 := Lib.hid (HQ5.out.quiet q6); have HC6 := Lib.hid (Quiet.cellA q6 HC1.out)
  clear HR5 HY5 HQ5 HC1 q6 y0 y1 y2
  have y0 := HY6.out.cell 0; have y1 := HY6.out.cell 1; have y2 := HY6.out.cell 2
  simp at y0 y1 y2
  go_wp2_with fail
  refine (cSound HR6.out).mono ?_
  rw [lv_sound]
  rintro e w7 ⟨rfl, q7⟩
  have HR7 := Lib.hid (HR6.out.quiet q7); have HY7 := Lib.hid (HY6.out.quiet q7); have HQ7 := Lib.hid (HQ6.out.quiet q7); have HC7 := Lib.hid (Quiet.cellA q7 HC6.out)
  clear HR6 HY6 HQ6 HC6 q7 y0 y1 y2
  have y0 := HY7.out.cell 0; have y1 := HY7.out.cell 1; have y2 := HY7.out.cell 2
  simp at y0 y1 y2
  have HN7 : Hid (NodesC w7 (.slice (some ⟨w3.heap.size, 0, none⟩) 3 3) nodesL) := Lib.hid (by
    obtain ⟨B1, b1, B2, b2, e, _, _, g1, g2⟩ := HR7.out
    injection e with e
    have e2 := congrArg (fun a : Array Value => a[2]?) e
    simp at e2
    exact ⟨B2, b2, by rw [← e2.1, ← e2.2.2]; rfl, g1, g2⟩)
  go_wp2_with fail
  refine (cMatch HR7.out HN7.out).mono ?_
  rw [lv_match]
  rintro e w8 ⟨rfl, q8⟩
  have HR8 := Lib.hid (HR7.out.quiet q8); have HY8 := Lib.hid (HY7.out.quiet q8); have HQ8 := Lib.hid (HQ7.out.quiet q8); have HC8 := Lib.hid (Quiet.cellA q8 HC7.out)
  clear HR7 HY7 HQ7 HC7 HN7 q8 y0 y1 y2
  have y0 := HY8.out.cell 0; have y1 := HY8.out.cell 1; have y2 := HY8.out.cell 2
  simp at y0 y1 y2
  have HN8 : Hid (NodesC w8 (.slice none 0 0) []) := Lib.hid ⟨none, 0, rfl, ⟨rfl, Nat.zero_le _, fun q => absurd q (by simp)⟩, Nat.le_refl _⟩
  go_wp2_with fail
  refine (cMatch HR8.out HN8.out).mono ?_
  rw [lv_match0]
  rintro e w9 ⟨rfl, q9⟩
  have HR9 := Lib.hid (HR8.out.quiet q9); have HY9 := Lib.hid (HY8.out.quiet q9); have HQ9 := Lib.hid (HQ8.out.quiet q9); have c9 := Quiet.cellA q9 HC8.out
  clear HR8 HY8 HQ8 HC8 HN8 q9 y0 y1 y2
  have y0 := HY9.out.cell 0; have y1 := HY9.out.cell 1; have y2 := HY9.out.cell 2
  simp at y0 y1 y2
  have HI9 : Hid (IntsC (w9.alloc (.cells #[.int .i64 0, .int .i64 2] 3)) (.slice (some ⟨w9.heap.size, 0, none⟩) 2 2) [0, 2]) := Lib.hid ⟨some ⟨w9.heap.size, 0, none⟩, 2, rfl, C_of_blk (Kd.int .i64) [(0, [.int .i64 0]), (2, [.int .i64 2])] (Blk.new _ _ _) (fun p hp => by simp at hp; rcases hp with rfl | rfl <;> rfl) (by decide), by decide⟩
  have HR10 := Lib.hid (HR9.out.quiet (show Quiet w9 (w9.alloc (.cells #[.int .i64 0, .int .i64 2] 3)) from (Fr.refl _ _).alloc _))
  have HQ10 := Lib.hid (HQ9.out.quiet (show Quiet w9 (w9.alloc (.cells #[.int .i64 0, .int .i64 2] 3)) from (Fr.refl _ _).alloc _))
  go_wp2_with fail
  refine (cPart HR10.out HI9.out lv_sns).mono ?_
  rintro e w11 ⟨v11, rfl, r11, q11⟩
  have HR11 := Lib.hid r11; have HQ11 := Lib.hid (HQ10.out.quiet q11)
  clear HR9 HY9 HQ9 HR10 HQ10 HI9 r11 q11 y0 y1 y2 c9
  go_wp2_with fail
  refine (cSound HR11.out).mono ?_
  rw [lv_part]
  rintro e w12 ⟨rfl, q12⟩
  have HQ12 := Lib.hid (HQ11.out.quiet q12)
  clear q12 HR11 HQ11
  go_wp2
  go_ret
  exact ⟨rfl, HQ12.out⟩
end Go.Proofs.YtadepdeckapgcaaDoor
end

section
namespace Go.Proofs.YtadepdeckapgcaaDoor
open Go.RowKit Go.Proofs.YtadepdeckapgcaaDoorW.PrintWords Go.Proofs.YtadepdeckapgcaaDoorW.PrintLast Go.Proofs.YtadepdeckapgcaaDoorW.PrintMore PWitnessTells
set_option linter.unusedSimpArgs false
set_option linter.unusedVariables false
def shareI (n : Int) : Int := min (max n 0) 1048576
set_option maxRecDepth 100000 in
theorem wShare (w : World) (t n : Int) : Calls Tryd.prog 169 #[.agg #[.int .i64 t, .int .i64 n]] w fun e w' => e = .returned (.int .i64 (shareI n)) ∧ Quiet w w' := by
  have E1 : Hid (1048576 ≤ n → shareI n = 1048576) := Lib.hid (by unfold shareI; omega)
  have E2 : Hid (0 < n → n < 1048576 → shareI n = n) := Lib.hid (by unfold shareI; omega)
  have E3 : Hid (n ≤ 0 → shareI n = 0) := Lib.hid (by unfold shareI; omega)
  by_cases h0 : 0 < n
  · by_cases h1 : n < 1048576
    · rw [← E2.out h0 h1]
      have E := Lib.hid (E2.out h0 h1)
      rw [E.out]
      go_enter Tryd.func169, Tryd.ntmps169
      go_wp2
      go_ret
      rw [E.out]; exact ⟨rfl, by (repeat (first | exact Fr.refl _ _ | assumption | (refine Fr.quiet ?_ (by assumption)) | refine Fr.quiet ?_ HF.out | refine Fr.quiet ?_ HF2.out | refine Fr.drew ?_ | refine Fr.drewN ?_ _ | refine Fr.alloc ?_ _ | refine Fr.setCell ?_ (.inr (by first | omega | (simp; done) | (simp; omega))) _))⟩
    · have E := Lib.hid (E1.out (by omega))
      by_cases h2 : n = 1048576
      · subst h2
        go_enter Tryd.func169, Tryd.ntmps169
        go_wp2
        go_ret
        rw [E.out]; exact ⟨rfl, by (repeat (first | exact Fr.refl _ _ | assumption | (refine Fr.quiet ?_ (by assumption)) | refine Fr.quiet ?_ HF.out | refine Fr.quiet ?_ HF2.out | refine Fr.drew ?_ | refine Fr.drewN ?_ _ | refine Fr.alloc ?_ _ | refine Fr.setCell ?_ (.inr (by first | omega | (simp; done) | (simp; omega))) _))⟩
      · have h3 : 1048576 < n := by omega
        go_enter Tryd.func169, Tryd.ntmps169
        go_wp2
        go_ret
        rw [E.out]; exact ⟨rfl, by (repeat (first | exact Fr.refl _ _ | assumption | (refine Fr.quiet ?_ (by assumption)) | refine Fr.quiet ?_ HF.out | refine Fr.quiet ?_ HF2.out | refine Fr.drew ?_ | refine Fr.drewN ?_ _ | refine Fr.alloc ?_ _ | refine Fr.setCell ?_ (.inr (by first | omega | (simp; done) | (simp; omega))) _))⟩
  · have E := Lib.hid (E3.out (by omega))
    by_cases h2 : n = 0
    · subst h2
      go_enter Tryd.func169, Tryd.ntmps169
      go_wp2
      go_ret
      rw [E.out]; exact ⟨rfl, by (repeat (first | exact Fr.refl _ _ | assumption | (refine Fr.quiet ?_ (by assumption)) | refine Fr.quiet ?_ HF.out | refine Fr.quiet ?_ HF2.out | refine Fr.drew ?_ | refine Fr.drewN ?_ _ | refine Fr.alloc ?_ _ | refine Fr.setCell ?_ (.inr (by first | omega | (simp; done) | (simp; omega))) _))⟩
    · have h3 : n < 0 := by omega
      go_enter Tryd.func169, Tryd.ntmps169
      go_wp2
      go_ret
      rw [E.out]; exact ⟨rfl, by (repeat (first | exact Fr.refl _ _ | assumption | (refine Fr.quiet ?_ (by assumption)) | refine Fr.quiet ?_ HF.out | refine Fr.quiet ?_ HF2.out | refine Fr.drew ?_ | refine Fr.drewN ?_ _ | refine Fr.alloc ?_ _ | refine Fr.setCell ?_ (.inr (by first | omega | (simp; done) | (simp; omega))) _))⟩
def comesG (free : Nat) : Int → List NShare → Int
  | n, [] => n
  | n, s :: r => comesG free (if hasB free s.f0 then wrap64 (n + shareI s.f1) else n) r
theorem comesG_cons (free : Nat) (n : Int) (s : NShare) (r : List NShare) : comesG free n (s :: r) = comesG free (if hasB free s.f0 then wrap64 (n + shareI s.f1) else n) r := rfl
def CgRel (w : World) (K : Int) (A : Option Addr) (l : List NShare) (c free : Nat) (n i : Value) (wr : World) : Prop :=
  ∃ (k : Nat) (x : Int), k ≤ l.length ∧ i = .int .i64 k ∧ n = .int .i64 x ∧ comesG free x (l.drop k) = comesG free 0 l ∧ Blk wr w.heap.size #[.int .i64 K, .slice A l.length c] 96 ∧ Quiet w wr
set_option maxRecDepth 100000 in
theorem wComesG (w : World) (K : Int) (A : Option Addr) (c : Nat) (l : List NShare) (hC : Kd.C k108 w A l.length l) (hc : l.length ≤ c) (free : Nat) (hd : free < B64) :
    Calls Tryd.prog 142 #[.agg #[.int .i64 K, .slice A l.length c], .int .u64 free] w fun e w' => e = .returned (.bool (decide (K ≤ comesG free 0 l))) ∧ Quiet w w' := by
  have hm := hC.2.1
  have HC := Lib.hid hC; clear hC
  have HB := Lib.hid (Blk.new w #[.int .i64 K, .slice A l.length c] 96)
  go_enter Tryd.func142, Tryd.ntmps142
  go_wp2
  go_loopw [5, 11] (fun n i wr => CgRel w K A l c free n i wr) (fun _ i _ => l.length - (intOf i).toNat)
  case atStart => exact ⟨0, 0, Nat.zero_le _, rfl, rfl, rfl, HB.out, by (repeat (first | exact Fr.refl _ _ | assumption | (refine Fr.quiet ?_ (by assumption)) | refine Fr.quiet ?_ HF.out | refine Fr.quiet ?_ HF2.out | refine Fr.drew ?_ | refine Fr.drewN ?_ _ | refine Fr.alloc ?_ _ | refine Fr.setCell ?_ (.inr (by first | omega | (simp; done) | (simp; omega))) _))⟩
  case round =>
    obtain ⟨k, x, hk, rfl, rfl, hx, hB, hQ⟩ := hrel
    clear HB
    by_cases hlt : k < l.length
    · have hC' := Kd.C_below HC.out hQ.bel
      obtain ⟨ad, hA, h0, h1⟩ := at_T108 hC' k (by omega) (by omega)
      have hdr := drop_cons z108 l k hlt
      have hrd : rd_T108 l (k : Int) = l.getD k z108 := rfl
      rw [hrd] at h0 h1
      rw [hdr] at hx
      generalize l.getD k z108 = s at *
      obtain ⟨t, nn⟩ := s
      have HX := Lib.hid hx; have HQ := Lib.hid hQ; have HB := Lib.hid hB
      simp only [Int.toNat_natCast] at h0 h1
      subst hA
      clear hx hQ hC' hdr hrd hB
      cases hb : hasB free t
      · have HX2 : Hid (comesG free x (l.drop (k + 1)) = comesG free 0 l) := by
          have q := HX.out; rw [comesG_cons] at q; simp only [hb] at q; exact q
        go_wp2_with (go_at_call 62; refine (wHas _ _ hd _).mono ?_; rintro e w' ⟨rfl, rfl⟩)
        go_roundw
        case rel => exact ⟨k + 1, x, by omega, by go_num, rfl, HX2.out, HB.out.alloc _, by have q := HQ.out; (repeat (first | exact Fr.refl _ _ | assumption | (refine Fr.quiet ?_ (by assumption)) | refine Fr.quiet ?_ HF.out | refine Fr.quiet ?_ HF2.out | refine Fr.drew ?_ | refine Fr.drewN ?_ _ | refine Fr.alloc ?_ _ | refine Fr.setCell ?_ (.inr (by first | omega | (simp; done) | (simp; omega))) _))⟩
        case measure => simp [intOf]; omega
      · have HX2 : Hid (comesG free (wrap64 (x + shareI nn)) (l.drop (k + 1)) = comesG free 0 l) := by
          have q := HX.out; rw [comesG_cons] at q; simp only [hb, if_true] at q; exact q
        go_wp2_with (first | (go_at_call 62; refine (wHas _ _ hd _).mono ?_; rintro e w' ⟨rfl, rfl⟩) | (go_at_call 169; refine (wShare _ _ _).mono ?_; rintro e w' ⟨rfl, hf⟩; have HF := Lib.hid hf; clear hf))
        go_roundw
        case rel => exact ⟨k + 1, _, by omega, by go_num, rfl, HX2.out, (HB.out.alloc _).quiet HF.out, by have q := HQ.out; exact (q.quiet ((Fr.refl _ _).alloc _)).quiet HF.out⟩
        case measure => simp [intOf]; omega
    · have hx' : x = comesG free 0 l := by rw [← hx, List.drop_of_length_le (by omega)]; rfl
      subst hx'
      clear hx
      have c0 := hB.cell 0
      simp at c0
      have HQ := Lib.hid hQ
      clear hQ hB
      go_wp2
      go_ret
      exact ⟨rfl, HQ.out⟩
end Go.Proofs.YtadepdeckapgcaaDoor
end

section
namespace Go.Proofs.YtadepdeckapgcaaDoor
open Go.RowKit Go.Proofs.YtadepdeckapgcaaDoorW.PrintWords Go.Proofs.YtadepdeckapgcaaDoorW.PrintLast Go.Proofs.YtadepdeckapgcaaDoorW.PrintMore PWitnessTells
set_option linter.unusedSimpArgs false
set_option linter.unusedVariables false
def idxP {α : Type} (p : α → Bool) : Nat → List α → Int
  | _, [] => -1
  | i, x :: r => if p x then (i : Int) else idxP p (i + 1) r
theorem idxP_cons {α : Type} (p : α → Bool) (i : Nat) (x : α) (r : List α) : idxP p i (x :: r) = if p x then (i : Int) else idxP p (i + 1) r := rfl
theorem idxP_any {α : Type} (p : α → Bool) : ∀ (l : List α) (i : Nat), decide (0 ≤ idxP p i l) = l.any p
  | [], i => by simp [idxP]
  | x :: r, i => by
    rw [idxP_cons, List.any_cons]
    cases h : p x
    · rw [if_neg (by simp)]; simpa using idxP_any p r (i + 1)
    · rw [if_pos rfl]; simp
def lackG (free : Nat) (m : NTerm) : Bool := !decide (m.f0 ≤ comesG free 0 m.f1)
def wayG (free : Nat) (l : List NTerm) : Bool := !l.any (lackG free)
def metG (free : Nat) (x : NNode) : Bool := !x.f0 || x.f1.any (wayG free)
set_option maxRecDepth 100000 in
theorem wMet1 (w : World) (m : NTerm) (A : Option Addr) (c : Nat) (hC : Kd.C k108 w A m.f1.length m.f1) (hc : m.f1.length ≤ c) (free : Nat) (hd : free < B64) (b : Nat) (hcell : w.cell? ⟨b, 0, none⟩ = some (.int .u64 free)) :
    Calls Tryd.prog 141 #[.agg #[.int .i64 m.f0, .slice A m.f1.length c], .pointer (some ⟨b, 0, none⟩)] w fun e w' => e = .returned (.bool (lackG free m)) ∧ Quiet w w' := by
  have hC1 := Kd.C_below hC (Below.alloc (Below.refl w.heap.size w) (Nat.le_refl _) (.cells #[.int .i64 m.f0, .slice A m.f1.length c] 96))
  have hB := Blk.new w #[.int .i64 m.f0, .slice A m.f1.length c] 96
  have hQ0 : Quiet w (w.alloc (.cells #[.int .i64 m.f0, .slice A m.f1.length c] 96)) := by (repeat (first | exact Fr.refl _ _ | assumption | (refine Fr.quiet ?_ (by assumption)) | refine Fr.quiet ?_ HF.out | refine Fr.quiet ?_ HF2.out | refine Fr.drew ?_ | refine Fr.drewN ?_ _ | refine Fr.alloc ?_ _ | refine Fr.setCell ?_ (.inr (by first | omega | (simp; done) | (simp; omega))) _))
  have hcell1 := hQ0.cell hcell (fun x => x)
  have CM := Lib.hid (wComesG _ m.f0 A c m.f1 hC1 hc free hd)
  have HQ := Lib.hid hQ0
  have E : Hid (lackG free m = !decide (m.f0 ≤ comesG free 0 m.f1)) := Lib.hid rfl
  clear hC hC1 hB hQ0 hcell
  go_enter Tryd.func141, Tryd.ntmps141
  go_wp2_with fail
  refine CM.out.mono ?_
  rintro e w2 ⟨rfl, hq⟩
  have HF := Lib.hid (HQ.out.quiet hq)
  clear hq
  go_wp2
  go_ret
  rw [E.out]
  exact ⟨rfl, HF.out⟩
def IpRel {α : Type} (w : World) (p : α → Bool) (l : List α) (i : Value) (wr : World) : Prop :=
  ∃ k : Nat, k ≤ l.length ∧ i = .int .i64 k ∧ idxP p k (l.drop k) = idxP p 0 l ∧ Quiet w wr
set_option maxRecDepth 100000 in
theorem wIdx1 (w : World) (l : List NTerm) (A : Option Addr) (c : Nat) (hC : Kd.C k96 w A l.length l) (hc : l.length ≤ c) (free : Nat) (hd : free < B64) (b : Nat) (hcell : w.cell? ⟨b, 0, none⟩ = some (.int .u64 free)) :
    Calls Tryd.prog 101 #[.slice A l.length c, .func (.func 141) #[] #[.pointer (some ⟨b, 0, none⟩)]] w fun e w' => e = .returned (.int .i64 (idxP (lackG free) 0 l)) ∧ Quiet w w' := by
  have hm := hC.2.1
  have HC := Lib.hid hC; clear hC
  have HCell := Lib.hid hcell; clear hcell
  have eg : ∀ args w, (callFunc 141 args).run Tryd.prog w = .ok (.enter 141 args) w := enters_of Tryd.func141 (by kernel_rfl) rfl
  go_enter Tryd.func101, Tryd.ntmps101
  go_wp2
  go_loopw [8] (fun i wr => IpRel w (lackG free) l i wr) (fun i _ => l.length - (intOf i).toNat)
  case atStart => exact ⟨0, Nat.zero_le _, rfl, rfl, by (repeat (first | exact Fr.refl _ _ | assumption | (refine Fr.quiet ?_ (by assumption)) | refine Fr.quiet ?_ HF.out | refine Fr.quiet ?_ HF2.out | refine Fr.drew ?_ | refine Fr.drewN ?_ _ | refine Fr.alloc ?_ _ | refine Fr.setCell ?_ (.inr (by first | omega | (simp; done) | (simp; omega))) _))⟩
  case round =>
    obtain ⟨k, hk, rfl, hx, hQ⟩ := hrel
    by_cases hlt : k < l.length
    · have hC' := Kd.C_below HC.out hQ.bel
      obtain ⟨ad, A1, c1, hA, h0, h1, hl1, hC1⟩ := at_T96 hC' k (by omega) (by omega)
      have hdr := drop_cons z96 l k hlt
      have hrd : rd_T96 l (k : Int) = l.getD k z96 := rfl
      rw [hrd] at h0 h1 hl1 hC1
      rw [hdr] at hx
      generalize l.getD k z96 = m at *
      simp only [Int.toNat_natCast] at h0 h1
      subst hA
      have hcell' := hQ.cell HCell.out (fun x => x)
      have LK := Lib.hid (wMet1 wr m A1 c1 hC1 hl1 free hd b hcell')
      have HQ := Lib.hid hQ
      rw [idxP_cons] at hx
      clear hC' hC1 hcell' hQ hdr hrd
      cases ht : lackG free m
      · rw [ht] at hx LK
        rw [if_neg (by simp)] at hx
        have HX := Lib.hid hx
        clear ht hx hl1
        go_wp2_with ((go_at_call 141; refine LK.out.mono ?_; rintro e w' ⟨rfl, hf⟩; have HF := Lib.hid hf; clear hf))
        go_roundw
        case rel => exact ⟨k + 1, by omega, by go_num, HX.out, HQ.out.quiet HF.out⟩
        case measure => simp [intOf]; omega
      · rw [ht] at hx LK
        rw [if_pos rfl] at hx
        have HX := Lib.hid hx
        clear ht hx hl1
        go_wp2_with ((go_at_call 141; refine LK.out.mono ?_; rintro e w' ⟨rfl, hf⟩; have HF := Lib.hid hf; clear hf))
        go_ret
        rw [← HX.out]
        exact ⟨rfl, HQ.out.quiet HF.out⟩
    · have hx' : idxP (lackG free) 0 l = -1 := by rw [← hx, List.drop_of_length_le (by omega)]; rfl
      have HX := Lib.hid hx'
      clear hx hx'
      go_wp2
      go_ret
      rw [HX.out]
      exact ⟨rfl, hQ⟩
theorem wCont1 (w : World) (l : List NTerm) (A : Option Addr) (c : Nat) (hC : Kd.C k96 w A l.length l) (hc : l.length ≤ c) (free : Nat) (hd : free < B64) (b : Nat) (hcell : w.cell? ⟨b, 0, none⟩ = some (.int .u64 free)) :
    Calls Tryd.prog 144 #[.slice A l.length c, .func (.func 141) #[] #[.pointer (some ⟨b, 0, none⟩)]] w fun e w' => e = .returned (.bool (l.any (lackG free))) ∧ Quiet w w' := by
  have IX := Lib.hid (wIdx1 w l A c hC hc free hd b hcell)
  have E := Lib.hid (idxP_any (lackG free) l 0)
  clear hC hcell
  go_enter Tryd.func144, Tryd.ntmps144
  go_wp2_with fail
  refine IX.out.mono ?_
  rintro e w2 ⟨rfl, hq⟩
  have HF := Lib.hid hq
  clear hq
  go_wp2
  go_ret
  rw [← E.out]
  exact ⟨rfl, HF.out⟩
end Go.Proofs.YtadepdeckapgcaaDoor
end

section
namespace Go.Proofs.YtadepdeckapgcaaDoor
open Go.RowKit Go.Proofs.YtadepdeckapgcaaDoorW.PrintWords Go.Proofs.YtadepdeckapgcaaDoorW.PrintLast Go.Proofs.YtadepdeckapgcaaDoorW.PrintMore PWitnessTells
set_option linter.unusedSimpArgs false
set_option linter.unusedVariables false
set_option maxRecDepth 100000 in
theorem wMet2 (w : World) (l : List NTerm) (A : Option Addr) (c : Nat) (hC : Kd.C k96 w A l.length l) (hc : l.length ≤ c) (free : Nat) (hd : free < B64) (b g : Nat) (hcell : w.cell? ⟨b, 0, none⟩ = some (.int .u64 free))
    (hg : w.cell? ⟨g, 0, none⟩ = some (.func (.func 141) #[] #[.pointer (some ⟨b, 0, none⟩)])) :
    Calls Tryd.prog 143 #[.slice A l.length c, .pointer (some ⟨g, 0, none⟩)] w fun e w' => e = .returned (.bool (wayG free l)) ∧ Quiet w w' := by
  have CF := Lib.hid (wCont1 w l A c hC hc free hd b hcell)
  have E : Hid (wayG free l = !l.any (lackG free)) := Lib.hid rfl
  generalize l.any (lackG free) = q at *
  clear hC hcell
  go_enter Tryd.func143, Tryd.ntmps143
  go_wp2_with fail
  refine CF.out.mono ?_
  rintro e w2 ⟨rfl, hq⟩
  have HF := Lib.hid hq
  clear hq
  go_wp2
  go_ret
  rw [E.out]
  exact ⟨rfl, HF.out⟩
set_option maxRecDepth 100000 in
theorem wIdx2 (w : World) (l : List (List NTerm)) (A : Option Addr) (c : Nat) (hC : Kd.C (Kd.slice 96 k96) w A l.length l) (hc : l.length ≤ c) (free : Nat) (hd : free < B64) (b g : Nat) (hcell : w.cell? ⟨b, 0, none⟩ = some (.int .u64 free))
    (hg : w.cell? ⟨g, 0, none⟩ = some (.func (.func 141) #[] #[.pointer (some ⟨b, 0, none⟩)])) :
    Calls Tryd.prog 170 #[.slice A l.length c, .func (.func 143) #[] #[.pointer (some ⟨g, 0, none⟩)]] w fun e w' => e = .returned (.int .i64 (idxP (wayG free) 0 l)) ∧ Quiet w w' := by
  have hm := hC.2.1
  have HC := Lib.hid hC; clear hC
  have HCell := Lib.hid hcell; have HG := Lib.hid hg; clear hcell hg
  have eg : ∀ args w, (callFunc 143 args).run Tryd.prog w = .ok (.enter 143 args) w := enters_of Tryd.func143 (by kernel_rfl) rfl
  go_enter Tryd.func170, Tryd.ntmps170
  go_wp2
  go_loopw [8] (fun i wr => IpRel w (wayG free) l i wr) (fun i _ => l.length - (intOf i).toNat)
  case atStart => exact ⟨0, Nat.zero_le _, rfl, rfl, by (repeat (first | exact Fr.refl _ _ | assumption | (refine Fr.quiet ?_ (by assumption)) | refine Fr.quiet ?_ HF.out | refine Fr.quiet ?_ HF2.out | refine Fr.drew ?_ | refine Fr.drewN ?_ _ | refine Fr.alloc ?_ _ | refine Fr.setCell ?_ (.inr (by first | omega | (simp; done) | (simp; omega))) _))⟩
  case round =>
    obtain ⟨k, hk, rfl, hx, hQ⟩ := hrel
    by_cases hlt : k < l.length
    · obtain ⟨ad, A1, c1, hA, h0, hl1, hC1⟩ := at_L5 (Kd.C_below HC.out hQ.bel) k (by omega) (by omega)
      have hdr := drop_cons [] l k hlt
      have hrd : rd_L5 l (k : Int) = l.getD k [] := rfl
      rw [hrd] at h0 hl1 hC1
      rw [hdr] at hx
      generalize l.getD k [] = m at *
      simp only [Int.toNat_natCast] at h0
      subst hA
      have LK := Lib.hid (wMet2 wr m A1 c1 hC1 hl1 free hd b g (hQ.cell HCell.out (fun x => x)) (hQ.cell HG.out (fun x => x)))
      have HQ := Lib.hid hQ
      rw [idxP_cons] at hx
      clear hC1 hQ hdr hrd
      cases ht : wayG free m
      · rw [ht] at hx LK
        rw [if_neg (by simp)] at hx
        have HX := Lib.hid hx
        clear ht hx hl1
        go_wp2_with ((go_at_call 143; refine LK.out.mono ?_; rintro e w' ⟨rfl, hf⟩; have HF := Lib.hid hf; clear hf))
        go_roundw
        case rel => exact ⟨k + 1, by omega, by go_num, HX.out, HQ.out.quiet HF.out⟩
        case measure => simp [intOf]; omega
      · rw [ht] at hx LK
        rw [if_pos rfl] at hx
        have HX := Lib.hid hx
        clear ht hx hl1
        go_wp2_with ((go_at_call 143; refine LK.out.mono ?_; rintro e w' ⟨rfl, hf⟩; have HF := Lib.hid hf; clear hf))
        go_ret
        rw [← HX.out]
        exact ⟨rfl, HQ.out.quiet HF.out⟩
    · have hx' : idxP (wayG free) 0 l = -1 := by rw [← hx, List.drop_of_length_le (by omega)]; rfl
      have HX := Lib.hid hx'
      clear hx hx'
      go_wp2
      go_ret
      rw [HX.out]
      exact ⟨rfl, hQ⟩
theorem wCont2 (w : World) (l : List (List NTerm)) (A : Option Addr) (c : Nat) (hC : Kd.C (Kd.slice 96 k96) w A l.length l) (hc : l.length ≤ c) (free : Nat) (hd : free < B64) (b g : Nat) (hcell : w.cell? ⟨b, 0, none⟩ = some (.int .u64 free))
    (hg : w.cell? ⟨g, 0, none⟩ = some (.func (.func 141) #[] #[.pointer (some ⟨b, 0, none⟩)])) :
    Calls Tryd.prog 145 #[.slice A l.length c, .func (.func 143) #[] #[.pointer (some ⟨g, 0, none⟩)]] w fun e w' => e = .returned (.bool (l.any (wayG free))) ∧ Quiet w w' := by
  have IX := Lib.hid (wIdx2 w l A c hC hc free hd b g hcell hg)
  have E := Lib.hid (idxP_any (wayG free) l 0)
  clear hC hcell hg
  go_enter Tryd.func145, Tryd.ntmps145
  go_wp2_with fail
  refine IX.out.mono ?_
  rintro e w2 ⟨rfl, hq⟩
  have HF := Lib.hid hq
  clear hq
  go_wp2
  go_ret
  rw [← E.out]
  exact ⟨rfl, HF.out⟩
set_option maxRecDepth 100000 in
theorem wMet (w : World) (x : NNode) (A : Option Addr) (c : Nat) (hC : Kd.C (Kd.slice 96 k96) w A x.f1.length x.f1) (hc : x.f1.length ≤ c) (free : Nat) (hd : free < B64) :
    Calls Tryd.prog 115 #[.agg #[.bool x.f0, .slice A x.f1.length c], .int .u64 free] w fun e w' => e = .returned (.bool (metG free x)) ∧ Quiet w w' := by
  have CF := Lib.hid (fun wz (q : Quiet w wz) b g hb hg => wCont2 wz x.f1 A c (Kd.C_below hC q.bel) hc free hd b g hb hg)
  have E : Hid (metG free x = (!x.f0 || x.f1.any (wayG free))) := Lib.hid rfl
  generalize x.f1.any (wayG free) = r at *
  clear hC
  cases e0 : x.f0
  · have HX : Hid (metG free x = true) := Lib.hid (by rw [E.out, e0]; rfl)
    go_enter Tryd.func115, Tryd.ntmps115
    go_wp2
    go_ret
    rw [HX.out]
    exact ⟨rfl, by (repeat (first | exact Fr.refl _ _ | assumption | (refine Fr.quiet ?_ (by assumption)) | refine Fr.quiet ?_ HF.out | refine Fr.quiet ?_ HF2.out | refine Fr.drew ?_ | refine Fr.drewN ?_ _ | refine Fr.alloc ?_ _ | refine Fr.setCell ?_ (.inr (by first | omega | (simp; done) | (simp; omega))) _))⟩
  · have HX : Hid (metG free x = r) := Lib.hid (by rw [E.out, e0]; rfl)
    go_enter Tryd.func115, Tryd.ntmps115
    go_wp2_with fail
    refine (CF.out _ ?hq (w.heap.size + 1) (w.heap.size + 1 + 1) ?h1 ?h2).mono ?hk
    case hq => (repeat (first | exact Fr.refl _ _ | assumption | (refine Fr.quiet ?_ (by assumption)) | refine Fr.quiet ?_ HF.out | refine Fr.quiet ?_ HF2.out | refine Fr.drew ?_ | refine Fr.drewN ?_ _ | refine Fr.alloc ?_ _ | refine Fr.setCell ?_ (.inr (by first | omega | (simp; done) | (simp; omega))) _))
    case h1 => go_simp
    case h2 => go_simp
    rintro e w' ⟨rfl, hf⟩
    have HF := Lib.hid hf
    clear hf
    go_wp2
    go_ret
    rw [HX.out]
    exact ⟨rfl, by have q := HF.out; (repeat (first | exact Fr.refl _ _ | assumption | (refine Fr.quiet ?_ (by assumption)) | refine Fr.quiet ?_ HF.out | refine Fr.quiet ?_ HF2.out | refine Fr.drew ?_ | refine Fr.drewN ?_ _ | refine Fr.alloc ?_ _ | refine Fr.setCell ?_ (.inr (by first | omega | (simp; done) | (simp; omega))) _))⟩
end Go.Proofs.YtadepdeckapgcaaDoor
end

section
namespace Go.Proofs.YtadepdeckapgcaaDoor
open Go.RowKit Go.Proofs.YtadepdeckapgcaaDoorW.PrintWords Go.Proofs.YtadepdeckapgcaaDoorW.PrintLast Go.Proofs.YtadepdeckapgcaaDoorW.PrintMore PWitnessTells
set_option linter.unusedSimpArgs false
set_option linter.unusedVariables false
abbrev NInfo := NShare
abbrev kInfo : Kd NInfo := k108
def InfC (w : World) (v : Value) (l : List NInfo) : Prop := ∃ A c, v = .slice A l.length c ∧ kInfo.C w A l.length l ∧ l.length ≤ c
theorem InfC.quiet {w w' : World} {v : Value} {l : List NInfo} (h : InfC w v l) (q : Quiet w w') : InfC w' v l := by
  obtain ⟨A, c, e, h1, h2⟩ := h; exact ⟨A, c, e, Kd.C_below h1 q.bel, h2⟩
end Go.Proofs.YtadepdeckapgcaaDoor
end

section
namespace Go.Proofs.YtadepdeckapgcaaDoor
open Go.RowKit Go.Proofs.YtadepdeckapgcaaDoorW.PrintWords Go.Proofs.YtadepdeckapgcaaDoorW.PrintLast Go.Proofs.YtadepdeckapgcaaDoorW.PrintMore PWitnessTells
set_option linter.unusedSimpArgs false
set_option linter.unusedVariables false
theorem mem_range (s : Nat) (x : Int) (h : x ∈ listB s) : 0 ≤ x ∧ x ≤ 63 := by
  have := hasB_vt ((mem_listB s x).1 h)
  unfold vt at this; exact this
end Go.Proofs.YtadepdeckapgcaaDoor
end

section
namespace Go.Proofs.YtadepdeckapgcaaDoor
open Go.RowKit Go.Proofs.YtadepdeckapgcaaDoorW.PrintWords Go.Proofs.YtadepdeckapgcaaDoorW.PrintLast Go.Proofs.YtadepdeckapgcaaDoorW.PrintMore PWitnessTells
set_option linter.unusedSimpArgs false
set_option linter.unusedVariables false
section
variable {P : Program}
theorem load_agg {o : Oper} {a : Act} {w : World} {ty t : TypeId} {x : Operand} {b : Nat} {cs : Array Value} {d : TypeDesc} (ho : o.op = .load ty x) (hx : a.eval x = .pointer (some ⟨b, 0, none⟩)) (h : Blk w b cs t)
    (hu : P.underlying ty = some d) (hd : (match d with | .struct _ | .array _ _ => true | _ => false) = true) (hi : (P.info? ty).map (·.size) = some cs.size) : (execOp a.eval o).run P w = .ok (.value (.agg cs)) w := by
  unfold execOp
  simp only [ho, hx, Instr.loadAt, Instr.sureAddr, Sem.run_bind, Sem.run_pure, Result.andThen_ok, run_loadVar_row w b t ty cs (0, 0) d h hu hd hi]
end
structure RkLv (w : World) (cs : Array Value) (b1 g : Nat) (vl : Value) (l out : List Int) (wz : World) : Prop where
  x : Blk wz w.heap.size cs 52
  l : (Kd.int .i64).R 3 wz b1 (fun k => Any_ k ∧ k ≠ g) vl l
  o : wz.ownsRow (w.heap.size + 1) 3 1 (.slice (some ⟨g, 0, none⟩) out.length out.length) out.length (nums .i64 out)
  b : Below w.heap.size w wz
theorem own_quiet {w w' : World} {base : Nat} {e : TypeId} {size n : Nat} {v : Value} {xs : List Value} (h : w.ownsRow base e size v n xs) (q : Quiet w w') : w'.ownsRow base e size v n xs :=
  own_move h (fun k hk => by
    obtain ⟨cells, hc⟩ := own_typed h k hk
    exact q.block k (Array.getElem?_eq_some_iff.1 hc).1 (fun x => x))
theorem RkLv.quiet {w : World} {cs : Array Value} {b1 g : Nat} {vl : Value} {l out : List Int} {wz wy : World} (h : RkLv w cs b1 g vl l out wz) (q : Quiet wz wy) : RkLv w cs b1 g vl l out wy :=
  ⟨h.x.quiet q, Kd.R_below h.l q.bel, own_quiet h.o q, below_then h.b h.b.size q.bel⟩
theorem RkLv.set {w : World} {cs : Array Value} {b1 g : Nat} {vl : Value} {l out : List Int} {wz : World} (h : RkLv w cs b1 g vl l out wz) (hg : w.heap.size + 1 ≤ g) (i : Nat) (x : Int) : RkLv w cs b1 g vl l (out.set i x) (wz.setCell ⟨g, i, none⟩ (.int .i64 x)) := by
  refine ⟨h.x.set_other (by show g ≠ _; omega) _, Kd.R_far h.l (fun k hk => hk.2) _, ?_, h.b.setCell (by show w.heap.size ≤ g; omega) _⟩
  have q := own_put h.o (i : Int) x
  simp only [Int.toNat_natCast] at q
  rw [List.length_set] at q ⊢
  exact q
end Go.Proofs.YtadepdeckapgcaaDoor
end

section
namespace Go.Proofs.YtadepdeckapgcaaDoor
open Go.RowKit Go.Proofs.YtadepdeckapgcaaDoorW.PrintWords Go.Proofs.YtadepdeckapgcaaDoorW.PrintLast Go.Proofs.YtadepdeckapgcaaDoorW.PrintMore PWitnessTells
set_option linter.unusedSimpArgs false
set_option linter.unusedVariables false
section
variable {P : Program}
theorem wp_load_agg {o : Oper} {a : Act} {w : World} {ty t : TypeId} {x : Operand} {b : Nat} {cs : Array Value} {d : TypeDesc} {K : Act → World → Prop} {Q : Exit → Act → World → Prop} (h : Blk w b cs t) (ho : o.op = .load ty x) (hx : a.eval x = .pointer (some ⟨b, 0, none⟩))
    (hu : P.underlying ty = some d) (hd : (match d with | .struct _ | .array _ _ => true | _ => false) = true) (hi : (P.info? ty).map (·.size) = some cs.size) (hk : K (a.put o.dst (.agg cs)) w) : o.wp P a w K Q := by
  unfold Oper.wp
  rw [load_agg ho hx h hu hd hi]
  exact hk
end
end Go.Proofs.YtadepdeckapgcaaDoor
end

section
namespace Go.Proofs.YtadepdeckapgcaaDoor
open Go.RowKit Go.Proofs.YtadepdeckapgcaaDoorW.PrintWords Go.Proofs.YtadepdeckapgcaaDoorW.PrintLast Go.Proofs.YtadepdeckapgcaaDoorW.PrintMore PWitnessTells
set_option linter.unusedSimpArgs false
set_option linter.unusedVariables false
def BitsLt (n s : Nat) : Prop := s < B64 ∧ ∀ j, s.testBit j = true → j < n
structure BitArr (n : Nat) (cs : Array Value) : Prop where
  sz : cs.size = 64
  at_ : ∀ i, i < 64 → ∃ s, BitsLt n s ∧ cs[i]? = some (.int .u64 (s : Nat))
theorem bitsLt_zero (n : Nat) : BitsLt n 0 := ⟨by decide, fun j h => by simp at h⟩
theorem bitsLt_with {n s : Nat} (h : BitsLt n s) (t : Nat) (ht : t < n) : BitsLt n (withB s t) := by
  refine ⟨withB_lt' s h.1 _, fun j hj => ?_⟩
  unfold withB at hj
  split at hj
  · rw [Nat.testBit_or, Bool.or_eq_true] at hj
    rcases hj with hj | hj
    · exact h.2 j hj
    · rw [Int.toNat_natCast, Nat.testBit_two_pow] at hj
      simp at hj
      omega
  · exact h.2 j hj
theorem bitArr_zero (n : Nat) : BitArr n (Array.replicate 64 (.int .u64 0)) :=
  ⟨by simp, fun i h => ⟨0, bitsLt_zero n, by rw [Array.getElem?_replicate, if_pos h]; rfl⟩⟩
theorem bitArr_set {n : Nat} {cs : Array Value} (h : BitArr n cs) (i s : Nat) (hs : BitsLt n s) : BitArr n (cs.setIfInBounds i (.int .u64 (s : Nat))) := by
  refine ⟨by simp [h.sz], fun j hj => ?_⟩
  by_cases e : i = j
  · subst e
    exact ⟨s, hs, by rw [Array.getElem?_setIfInBounds_self_of_lt (by rw [h.sz]; exact hj)]⟩
  · obtain ⟨s', h1, h2⟩ := h.at_ j hj
    exact ⟨s', h1, by rw [Array.getElem?_setIfInBounds_ne e]; exact h2⟩
def zeroS : Array Value := #[.int .u64 0, .int .u64 0, .int .u64 0, .int .u64 0, .int .u64 0, .int .u64 0, .int .u64 0, .int .u64 0, .int .u64 0, .int .u64 0, .int .u64 0, .int .u64 0, .int .u64 0, .int .u64 0, .int .u64 0, .int .u64 0, .int .u64 0, .int .u64 0, .int .u64 0, .int .u64 0, .int .u64 0, .int .u64 0, .int .u64 0, .int .u64 0, .int .u64 0, .int .u64 0, .int .u64 0, .int .u64 0, .int .u64 0, .int .u64 0, .int .u64 0, .int .u64 0, .int .u64 0, .int .u64 0, .int .u64 0, .int .u64 0, .int .u64 0, .int .u64 0, .int .u64 0, .int .u64 0, .int .u64 0, .int .u64 0, .int .u64 0, .int .u64 0, .int .u64 0, .int .u64 0, .int .u64 0, .int .u64 0, .int .u64 0, .int .u64 0, .int .u64 0, .int .u64 0, .int .u64 0, .int .u64 0, .int .u64 0, .int .u64 0, .int .u64 0, .int .u64 0, .int .u64 0, .int .u64 0, .int .u64 0, .int .u64 0, .int .u64 0, .int .u64 0]
theorem zerosS : zeroS = Array.replicate 64 (.int .u64 0) := by kernel_rfl
structure AsSt (w : World) (n : Nat) (cs : Array Value) (wz : World) : Prop where
  r : Blk wz w.heap.size zeroS 159
  y : Blk wz (w.heap.size + 1) cs 159
  a : BitArr n cs
  b : Below w.heap.size w wz
theorem AsSt.quiet {w : World} {n : Nat} {cs : Array Value} {wz wy : World} (h : AsSt w n cs wz) (q : Quiet wz wy) : AsSt w n cs wy :=
  ⟨h.r.quiet q, h.y.quiet q, h.a, below_then h.b h.b.size q.bel⟩
theorem AsSt.put {w : World} {n : Nat} {cs : Array Value} {wz : World} (h : AsSt w n cs wz) (i s : Nat) (hs : BitsLt n s) : AsSt w n (cs.setIfInBounds i (.int .u64 (s : Nat))) (wz.setCell ⟨w.heap.size + 1, i, none⟩ (.int .u64 (s : Nat))) :=
  ⟨h.r.set_other (by show w.heap.size + 1 ≠ _; omega) _, h.y.set i _, bitArr_set h.a i s hs, h.b.setCell (by show w.heap.size ≤ w.heap.size + 1; omega) _⟩
structure AsB (w : World) (n : Nat) (cs : Array Value) (g tn : Nat) (nn : Int) (wz : World) : Prop where
  x : Blk wz g #[.int .i64 (tn : Int), .int .i64 nn] 108
  st : AsSt w n cs wz
theorem AsB.quiet {w : World} {n : Nat} {cs : Array Value} {g tn : Nat} {nn : Int} {wz wy : World} (h : AsB w n cs g tn nn wz) (q : Quiet wz wy) : AsB w n cs g tn nn wy := ⟨h.x.quiet q, h.st.quiet q⟩
def AsRel (w : World) (n lim : Nat) (i : Value) (wz : World) : Prop := ∃ k : Nat, k ≤ lim ∧ i = .int .i64 k ∧ ∃ cs, AsSt w n cs wz
set_option maxRecDepth 100000 in
set_option maxHeartbeats 1000000 in
theorem wAsks (w : World) (A : Option Addr) (c : Nat) (l : List NNode) (hC : k92.C w A l.length l) (hn : l.length ≤ 64) :
    Calls Tryd.prog 114 #[.slice A l.length c] w fun e w' => ∃ cs, e = .returned (.agg cs) ∧ BitArr l.length cs ∧ Quiet w w' := by
  have HC := Lib.hid hC; clear hC
  have HS : Hid (AsSt w l.length zeroS ((w.alloc (.cells zeroS 159)).alloc (.cells zeroS 159))) := Lib.hid (by
    have y := Blk.new (w.alloc (.cells zeroS 159)) zeroS 159
    rw [show (w.alloc (.cells zeroS 159)).heap.size = w.heap.size + 1 by simp] at y
    exact ⟨(Blk.new w _ _).alloc _, y, by rw [zerosS]; exact bitArr_zero _, ((Below.refl _ w).alloc (Nat.le_refl _) _).alloc (by simp) _⟩)
  go_enter Tryd.func114, Tryd.ntmps114
  go_wp2
  rw [show (#[.int .u64 0, .int .u64 0, .int .u64 0, .int .u64 0, .int .u64 0, .int .u64 0, .int .u64 0, .int .u64 0, .int .u64 0, .int .u64 0, .int .u64 0, .int .u64 0, .int .u64 0, .int .u64 0, .int .u64 0, .int .u64 0, .int .u64 0, .int .u64 0, .int .u64 0, .int .u64 0, .int .u64 0, .int .u64 0, .int .u64 0, .int .u64 0, .int .u64 0, .int .u64 0, .int .u64 0, .int .u64 0, .int .u64 0, .int .u64 0, .int .u64 0, .int .u64 0, .int .u64 0, .int .u64 0, .int .u64 0, .int .u64 0, .int .u64 0, .int .u64 0, .int .u64 0, .int .u64 0, .int .u64 0, .int .u64 0, .int .u64 0, .int .u64 0, .int .u64 0, .int .u64 0, .int .u64 0, .int .u64 0, .int .u64 0, .int .u64 0, .int .u64 0, .int .u64 0, .int .u64 0, .int .u64 0, .int .u64 0, .int .u64 0, .int .u64 0, .int .u64 0, .int .u64 0, .int .u64 0, .int .u64 0, .int .u64 0, .int .u64 0, .int .u64 0] : Array Value) = zeroS from rfl]
  generalize (w.alloc (.cells zeroS 159)).alloc (.cells zeroS 159) = w2 at HS ⊢
  go_loopw [14] (fun i wr => AsRel w l.length l.length i wr) (fun i _ => l.length - (intOf i).toNat)
  case atStart => exact ⟨0, Nat.zero_le _, rfl, _, HS.out⟩
  case round =>
    obtain ⟨wo, hwo⟩ : ∃ x, x = wr := ⟨_, rfl⟩
    subst hwo
    obtain ⟨k, hk, rfl, cs, hv⟩ := hrel
    clear HS
    by_cases hlt : k < l.length
    · obtain ⟨ad, B1, d1, hA, g1, g2, hl1, hC1⟩ := at_T92 HC.out k (by omega) (by omega)
      have hrd : rd_T92 l (k : Int) = l.getD k z92 := rfl
      rw [hrd] at g1 g2 hl1 hC1
      generalize l.getD k z92 = x at *
      obtain ⟨xs, xw⟩ := x
      subst hA
      simp only [Int.toNat_natCast] at g1 g2
      dsimp only at g1 g2 hl1 hC1
      have g1' := pw_cell_below hv.b g1
      have g2' := pw_cell_below hv.b g2
      have HV := Lib.hid hv; have HC1 := Lib.hid hC1
      clear hv hC1 g1 g2 hrd
      have hm1 := HC1.out.2.1
      go_wp2
      go_loopw [22] (fun i wr => AsRel w l.length xw.length i wr) (fun i _ => xw.length - (intOf i).toNat)
      case atStart => exact ⟨0, Nat.zero_le _, rfl, _, HV.out.quiet ((Fr.refl _ _).alloc _)⟩
      case round =>
        obtain ⟨wp, hwp⟩ : ∃ x, x = wr := ⟨_, rfl⟩
        subst hwp
        obtain ⟨k1, hk1, rfl, cs1, hv⟩ := hrel
        clear HV
        by_cases hlt1 : k1 < xw.length
        · obtain ⟨ad1, A1, c1, hA, x0, l1, h1⟩ := at_L5 HC1.out k1 (by omega) (by omega)
          have r1 : rd_L5 xw (k1 : Int) = xw.getD k1 [] := rfl
          rw [r1] at x0 l1 h1
          generalize xw.getD k1 [] = s1 at *
          subst hA
          simp only [Int.toNat_natCast] at x0
          have x0' := pw_cell_below hv.b x0
          have HV := Lib.hid hv; have HC2 := Lib.hid h1
          clear hv h1 x0 r1
          have hm2 := HC2.out.2.1
          go_wp2
          go_loopw [28] (fun i wr => AsRel w l.length s1.length i wr) (fun i _ => s1.length - (intOf i).toNat)
          case atStart => exact ⟨0, Nat.zero_le _, rfl, _, HV.out⟩
          case round =>
            obtain ⟨wq, hwq⟩ : ∃ x, x = wr := ⟨_, rfl⟩
            subst hwq
            obtain ⟨k2, hk2, rfl, cs2, hv⟩ := hrel
            clear HV
            by_cases hlt2 : k2 < s1.length
            · obtain ⟨ad2, A2, c2, hA, y0, y1, l2, h2⟩ := at_T96 HC2.out k2 (by omega) (by omega)
              have r2 : rd_T96 s1 (k2 : Int) = s1.getD k2 z96 := rfl
              rw [r2] at y0 y1 l2 h2
              generalize s1.getD k2 z96 = m at *
              obtain ⟨mk, mf⟩ := m
              subst hA
              simp only [Int.toNat_natCast] at y0 y1
              dsimp only at y0 y1 l2 h2
              have y0' := pw_cell_below hv.b y0
              have y1' := pw_cell_below hv.b y1
              have HV := Lib.hid hv; have HC3 := Lib.hid h2
              clear hv h2 y0 y1 r2
              have hm3 := HC3.out.2.1
              go_wp2
              go_loopw [35] (fun i wr => AsRel w l.length mf.length i wr) (fun i _ => mf.length - (intOf i).toNat)
              case atStart => exact ⟨0, Nat.zero_le _, rfl, _, HV.out.quiet ((Fr.refl _ _).alloc _)⟩
              case round =>
                obtain ⟨ws, hws⟩ : ∃ x, x = wr := ⟨_, rfl⟩
                subst hws
                obtain ⟨k3, hk3, rfl, cs3, hv⟩ := hrel
                clear HV
                by_cases hlt3 : k3 < mf.length
                · obtain ⟨ad3, hA, u0, u1⟩ := at_T108 HC3.out k3 (by omega) (by omega)
                  have r3 : rd_T108 mf (k3 : Int) = mf.getD k3 z108 := rfl
                  rw [r3] at u0 u1
                  generalize mf.getD k3 z108 = sh at *
                  obtain ⟨t, nn⟩ := sh
                  subst hA
                  simp only [Int.toNat_natCast] at u0 u1
                  have u0' := pw_cell_below hv.b u0
                  have u1' := pw_cell_below hv.b u1
                  clear u0 u1 r3
                  by_cases ht : 0 ≤ t ∧ t < (l.length : Int)
                  · obtain ⟨ht0, ht1⟩ := ht
                    obtain ⟨tn, rfl⟩ := Int.eq_ofNat_of_zero_le ht0
                    obtain ⟨sn, hsn, hcs⟩ := hv.a.at_ tn (by omega)
                    have HSN1 := Lib.hid hsn.1
                    have HSW := Lib.hid (bitsLt_with hsn k hlt)
                    have HV : Hid (AsB w l.length cs3 ws.heap.size tn nn (ws.alloc (.cells #[.int .i64 tn, .int .i64 nn] 108))) := Lib.hid ⟨Blk.new _ _ _, hv.quiet ((Fr.refl _ _).alloc _)⟩
                    have HS4 : Hid (∀ W, AsB w l.length cs3 ws.heap.size tn nn W → W.cell? ⟨ws.heap.size, 0, none⟩ = some (.int .i64 (tn : Int)) ∧ W.cell? ⟨w.heap.size + 1, tn, none⟩ = some (.int .u64 (sn : Int))) := Lib.hid (fun W h => ⟨by have q := h.x.cell 0; simp at q; exact q, by rw [h.st.y.cell tn]; exact hcs⟩)
                    have ht64 : (tn : Int) < 64 := by omega
                    clear hv hsn hcs
                    go_upto_region 15 with fail
                    generalize ws.alloc (.cells #[.int .i64 tn, .int .i64 nn] 108) = wb at HV ⊢
                    have HJ := Lib.hid (HS4.out _ HV.out)
                    have Hn := Lib.hid (HV.out.quiet (Fr.drew (Fr.refl _ wb)))
                    clear HV HJ
                    have HV := Hn
                    clear Hn
                    have HJ := Lib.hid (HS4.out _ HV.out)
                    refine start_ (n := 10) (S := fun w' => w'.cell? ⟨ws.heap.size, 0, none⟩ = some (.int .i64 (tn : Int)) ∧ w'.cell? ⟨w.heap.size + 1, tn, none⟩ = some (.int .u64 (sn : Int))) (ds := [9]) #[false, false, false, false, false, false, false, false, false, false] (by kernel_rfl) rfl rfl ⟨HJ.out.1, HJ.out.2⟩ (fun hHeld => ?_)
                    generalize wb.drew = wA at HV HJ hHeld ⊢
                    refine pure_ (i := 0) (N := some 49) (v := ?_) (a' := ?_) #[true, false, false, false, false, false, false, false, false, false] rfl rfl (by kernel_rfl) (fun _ _ _ h => h) (Or.inl ⟨by rfl, ?_⟩) ?_ ?_
                    rotate_left
                    · intro w'
                      go_simp
                      with_reducible rfl
                    rotate_left
                    · simp only [Act.put, List.setIfInBounds_toArray, List.set_cons_zero, List.set_cons_succ, i64_w, i32_w]
                      rfl
                    refine pure_ (i := 2) (N := some 51) (v := ?_) (a' := ?_) #[true, false, true, false, false, false, false, false, false, false] rfl rfl (by kernel_rfl) (fun _ _ _ h => h) (Or.inl ⟨by rfl, ?_⟩) ?_ ?_
                    rotate_left
                    · intro w'
                      go_simp
                      with_reducible rfl
                    rotate_left
                    · simp only [Act.put, List.setIfInBounds_toArray, List.set_cons_zero, List.set_cons_succ, i64_w, i32_w]
                      rfl
                    refine pure_ (i := 6) (N := some 55) (v := ?_) (a' := ?_) #[true, false, true, false, false, false, true, false, false, false] rfl rfl (by kernel_rfl) (fun _ _ _ h => h) (Or.inl ⟨by rfl, ?_⟩) ?_ ?_
                    rotate_left
                    · intro w'
                      go_simp
                      with_reducible rfl
                    rotate_left
                    · simp only [Act.put, List.setIfInBounds_toArray, List.set_cons_zero, List.set_cons_succ, i64_w, i32_w]
                      rfl
                    refine take_ (i := 1) (N := some 50) (v := ?_) (a' := ?_) #[true, true, true, false, false, false, true, false, false, false] rfl rfl (by kernel_rfl) (fun _ _ _ h => h) (Or.inl ⟨by rfl, ?_⟩) hHeld ?_ ?_
                    rotate_left
                    · rintro w' ⟨s0, s1⟩
                      go_simp
                      with_reducible rfl
                    rotate_left
                    · simp only [Act.put, List.setIfInBounds_toArray, List.set_cons_zero, List.set_cons_succ, i64_w, i32_w]
                      rfl
                    refine take_ (i := 3) (N := some 52) (v := ?_) (a' := ?_) #[true, true, true, true, false, false, true, false, false, false] rfl rfl (by kernel_rfl) (fun _ _ _ h => h) (Or.inl ⟨by rfl, ?_⟩) hHeld ?_ ?_
                    rotate_left
                    · rintro w' ⟨s0, s1⟩
                      go_simp
                      with_reducible rfl
                    rotate_left
                    · simp only [Act.put, List.setIfInBounds_toArray, List.set_cons_zero, List.set_cons_succ, i64_w, i32_w]
                      rfl
                    refine pure_ (i := 4) (N := some 53) (v := ?_) (a' := ?_) #[true, true, true, true, true, false, true, false, false, false] rfl rfl (by kernel_rfl) (fun _ _ _ h => h) (Or.inl ⟨by rfl, ?_⟩) ?_ ?_
                    rotate_left
                    · intro w'
                      go_simp
                      with_reducible rfl
                    rotate_left
                    · simp only [Act.put, List.setIfInBounds_toArray, List.set_cons_zero, List.set_cons_succ, i64_w, i32_w]
                      rfl
                    refine take_ (i := 5) (N := some 54) (v := ?_) (a' := ?_) #[true, true, true, true, true, true, true, false, false, false] rfl rfl (by kernel_rfl) (fun _ _ _ h => h) (Or.inl ⟨by rfl, ?_⟩) hHeld ?_ ?_
                    rotate_left
                    · rintro w' ⟨s0, s1⟩
                      go_simp
                      with_reducible rfl
                    rotate_left
                    · simp only [Act.put, List.setIfInBounds_toArray, List.set_cons_zero, List.set_cons_succ, i64_w, i32_w]
                      rfl
                    refine one_ (i := 7) (N := some 56) #[true, true, true, true, true, true, true, true, false, false] rfl rfl (by kernel_rfl) (by decide) (fun K hK => ?_)
                    refine goes_ Tryd.func65 (by kernel_rfl) rfl #[.int .u64 sn, .int .i64 k] (by rfl) rfl rfl (by simp only [List.map_toArray, List.map_cons, List.map_nil]; rfl) ?_
                    with_reducible refine (wWith _ _ HSN1.out _).mono ?_
                    rintro e w9 ⟨rfl, rfl⟩
                    refine ⟨_, rfl, ?_⟩
                    refine hK.out _ _ ⟨HJ.out.1, HJ.out.2⟩ (fun hHeld => ?_)
                    clear hK K
                    refine norm_ (a' := ?_) ?_ ?_
                    rotate_left
                    · show Act.put _ (some 56) _ = _
                      simp only [Act.put, List.setIfInBounds_toArray, List.set_cons_zero, List.set_cons_succ, i64_w, i32_w]
                      rfl
                    refine pure_ (i := 8) (N := some 57) (v := ?_) (a' := ?_) #[true, true, true, true, true, true, true, true, true, false] rfl rfl (by kernel_rfl) (fun _ _ _ h => h) (Or.inl ⟨by rfl, ?_⟩) ?_ ?_
                    rotate_left
                    · intro w'
                      go_simp
                      with_reducible rfl
                    rotate_left
                    · simp only [Act.put, List.setIfInBounds_toArray, List.set_cons_zero, List.set_cons_succ, i64_w, i32_w]
                      rfl
                    refine last_ (i := 9) (N := none) #[true, true, true, true, true, true, true, true, true, true] rfl rfl (by kernel_rfl) (by decide) (fun K hK => ?_)
                    have qf := HV.out.st.y.free tn
                    have qc := HJ.out.2
                    refine skip_ (w1 := ?_) (by rfl) rfl ?_ ?_
                    rotate_left
                    · go_simp
                      rfl
                    refine hK.out _ _ ?_
                    clear hK K
                    refine done_ (by kernel_rfl) ?_
                    go_wp2
                    go_roundw
                    case rel => exact ⟨k3 + 1, by omega, by go_num, _, HV.out.st.put tn _ HSW.out⟩
                    case measure => simp [intOf]; omega
                  · have HV := Lib.hid hv
                    clear hv
                    by_cases ht0 : 0 ≤ t
                    · have ht1 : ¬ t < (l.length : Int) := fun q => ht ⟨ht0, q⟩
                      clear ht
                      go_wp2
                      go_roundw
                      case rel => exact ⟨k3 + 1, by omega, by go_num, _, HV.out.quiet ((Fr.refl _ _).alloc _)⟩
                      case measure => simp [intOf]; omega
                    · clear ht
                      go_wp2
                      go_roundw
                      case rel => exact ⟨k3 + 1, by omega, by go_num, _, HV.out.quiet ((Fr.refl _ _).alloc _)⟩
                      case measure => simp [intOf]; omega
                · have HV := Lib.hid hv
                  clear hv
                  go_wp2
                  go_roundw
                  case rel => exact ⟨k2 + 1, by omega, by go_num, _, HV.out⟩
                  case measure => simp [intOf]; omega
            · have HV := Lib.hid hv
              clear hv
              go_wp2
              go_roundw
              case rel => exact ⟨k1 + 1, by omega, by go_num, _, HV.out⟩
              case measure => simp [intOf]; omega
        · have HV := Lib.hid hv
          clear hv
          go_wp2
          go_roundw
          case rel => exact ⟨k + 1, by omega, by go_num, _, HV.out⟩
          case measure => simp [intOf]; omega
    · have hsz : cs.size = 64 := hv.a.sz
      have h1 : ∀ v ∈ cs.toList, v.oneCell' = true := fun v hm => by
        obtain ⟨i, hi, e⟩ := List.getElem_of_mem hm
        rw [Array.length_toList] at hi
        obtain ⟨s, _, q⟩ := hv.a.at_ i (by omega)
        rw [Array.getElem?_eq_getElem hi] at q
        injection q with q
        rw [Array.getElem_toList] at e
        rw [← e, q]; rfl
      have hst := run_storeCells_from (P := Tryd.prog) w.heap.size 159 cs.toList 0 zeroS wo hv.r (by rw [Array.length_toList, hsz]; rfl) h1
      simp only [List.take_zero, List.nil_append, Array.toArray_toList] at hst
      have HB : Hid (Blk wo (w.heap.size + 1) cs 159) := Lib.hid hv.y
      have HZ : Hid ((Tryd.prog.info? 159).map (·.size) = some cs.size) := Lib.hid (by rw [hsz]; kernel_rfl)
      have HV := Lib.hid hv
      clear hv h1
      go_upto_region 20 with fail
      refine wp_region_lit ?_
      refine wpList_plain rfl fun K1 hK1 => ?_
      refine wp_load_agg HB.out rfl rfl Tryd.underlying159 rfl HZ.out ?_
      refine hK1 _ _ ?_
      clear hK1
      go_wp2_with fail
      have hrow : (wo.setRow w.heap.size cs).heap[w.heap.size]? = some (.cells cs 159 (0, 0)) := setRow_heap wo w.heap.size _ cs _ _ HV.out.r
      exact bodyPost_ret (v := .agg cs) (results_cell_row rfl _ _ w.heap.size _ cs _ _ rfl hrow Tryd.underlying159 rfl HZ.out) rfl ⟨cs, rfl, HV.out.a, Quiet.of (below_setRow HV.out.b (Nat.le_refl _) cs)⟩
end Go.Proofs.YtadepdeckapgcaaDoor
end

section
namespace Go.Proofs.YtadepdeckapgcaaDoor
open Go.RowKit Go.Proofs.YtadepdeckapgcaaDoorW.PrintWords Go.Proofs.YtadepdeckapgcaaDoorW.PrintLast Go.Proofs.YtadepdeckapgcaaDoorW.PrintMore PWitnessTells
set_option linter.unusedSimpArgs false
set_option linter.unusedVariables false
def Safe (l : List NNode) (D : Int → Prop) : Prop :=
  ∀ d, D d → 0 ≤ d → d < l.length → (l.getD d.toNat z92).f0 = true ∧ ∀ free, free < B64 → (∀ x, D x → hasB free x = false) → metG free (l.getD d.toNat z92) = false
structure Off (n : Nat) (D : Int → Prop) (s : Nat) : Prop where
  lt : s < B64
  in_ : ∀ u, hasB s u = true → u < n
  off : ∀ x, D x → hasB s x = false
theorem off_zero (n : Nat) (D : Int → Prop) : Off n D 0 := ⟨by decide, fun u h => by unfold hasB at h; simp at h, fun x _ => by unfold hasB; simp⟩
theorem Off.with_ {n : Nat} {D : Int → Prop} {s : Nat} (h : Off n D s) (t : Int) (ht : t < n) (hD : ¬ D t) : Off n D (withB s t) where
  lt := withB_lt' s h.lt t
  in_ := fun u hu => by
    rw [hasB_withB, Bool.or_eq_true] at hu
    rcases hu with hu | hu
    · exact h.in_ u hu
    · rw [of_decide_eq_true hu |>.2]; exact ht
  off := fun x hx => by
    rw [hasB_withB, h.off x hx, Bool.false_or, decide_eq_false]
    rintro ⟨_, rfl⟩
    exact hD hx
theorem Off.wout {n : Nat} {D : Int → Prop} {s : Nat} (h : Off n D s) (t : Int) : Off n D (woutB s t) where
  lt := woutB_lt' s h.lt t
  in_ := fun u hu => by
    rw [hasB_woutB s h.lt, Bool.and_eq_true] at hu
    exact h.in_ u hu.1
  off := fun x hx => by rw [hasB_woutB s h.lt, h.off x hx, Bool.false_and]
def Apart (a b : Nat) : Prop := ∀ u, hasB a u = true → hasB b u = false
theorem apart_move {a b : Nat} (hb : b < B64) (h : Apart a b) (t : Int) : Apart (withB a t) (woutB b t) := fun u hu => by
  rw [hasB_withB, Bool.or_eq_true] at hu
  rw [hasB_woutB b hb]
  rcases hu with hu | hu
  · rw [h u hu, Bool.false_and]
  · rw [of_decide_eq_true hu |>.2]; simp
theorem apart_with {a b : Nat} (h : Apart a b) (t : Int) (ht : hasB a t = false) : Apart a (withB b t) := fun u hu => by
  rw [hasB_withB, h u hu, Bool.false_or, decide_eq_false]
  rintro ⟨_, rfl⟩
  rw [ht] at hu; cases hu
theorem safe_met {l : List NNode} {D : Int → Prop} (hS : Safe l D) {free : Nat} (hf : Off l.length D free) (t : Int) (h0 : 0 ≤ t) (h1 : t < l.length) (hm : metG free (l.getD t.toNat z92) = true) : ¬ D t := fun q => by
  have e := (hS t q h0 h1).2 free hf.lt hf.off
  rw [e] at hm; cases hm
theorem safe_stuck {l : List NNode} {D : Int → Prop} (hS : Safe l D) (t : Int) (h0 : 0 ≤ t) (h1 : t < l.length) (hm : (l.getD t.toNat z92).f0 = false) : ¬ D t := fun q => by
  rw [(hS t q h0 h1).1] at hm; cases hm
def diffB (a b : Nat) : Nat := a &&& (18446744073709551615 - b)
theorem diffB_lt (a b : Nat) (ha : a < B64) : diffB a b < B64 := Nat.lt_of_le_of_lt Nat.and_le_left ha
theorem hasB_diffB (a b : Nat) (hb : b < B64) (u : Int) : hasB (diffB a b) u = (hasB a u && !hasB b u) := by
  unfold hasB diffB
  by_cases hu : vt u
  · have q := Nat.testBit_two_pow_sub_succ (x := b) (n := 64) (by unfold B64 at hb; omega) u.toNat
    rw [show 2 ^ 64 - (b + 1) = 18446744073709551615 - b by omega] at q
    rw [Nat.testBit_and, q, decide_eq_true hu]
    unfold vt at hu
    rw [decide_eq_true (by omega)]
    simp
  · rw [decide_eq_false hu]; simp
theorem andNot_diff (a b : Nat) (ha : a < B64) (hb : b < B64) : bits .andNot .u64 (a : Int) (b : Int) = ((diffB a b : Nat) : Int) := u64_andNot_nat a b ha hb
structure L1 (l : List NNode) (D : Int → Prop) (k free n : Nat) : Prop where
  f : Off l.length D free
  lt : ∀ u, hasB free u = true → u < k
  go : ∀ u, hasB free u = true → (l.getD u.toNat z92).f0 = false
  n : n = card free
theorem l1_zero (l : List NNode) (D : Int → Prop) : L1 l D 0 0 0 := ⟨off_zero _ _, fun u h => by unfold hasB at h; simp at h, fun u h => by unfold hasB at h; simp at h, by decide⟩
theorem l1_skip {l : List NNode} {D : Int → Prop} {k free n : Nat} (h : L1 l D k free n) : L1 l D (k + 1) free n := ⟨h.f, fun u q => by have := h.lt u q; omega, h.go, h.n⟩
theorem l1_with {l : List NNode} {D : Int → Prop} {k free n : Nat} (hS : Safe l D) (h : L1 l D k free n) (hk : k < l.length) (hl : l.length ≤ 64) (hx : (l.getD k z92).f0 = false) : L1 l D (k + 1) (withB free k) (n + 1) where
  f := h.f.with_ k (by omega) (safe_stuck hS k (by omega) (by omega) (by rw [Int.toNat_natCast]; exact hx))
  lt := fun u q => by
    rw [hasB_withB, Bool.or_eq_true] at q
    rcases q with q | q
    · have := h.lt u q; omega
    · rw [of_decide_eq_true q |>.2]; omega
  go := fun u q => by
    rw [hasB_withB, Bool.or_eq_true] at q
    rcases q with q | q
    · exact h.go u q
    · rw [of_decide_eq_true q |>.2, Int.toNat_natCast]; exact hx
  n := by
    rw [card_with free k (by unfold vt; omega) (by
      cases q : hasB free k
      · rfl
      · have := h.lt k q; omega), h.n]
structure L3 (l : List NNode) (D : Int → Prop) (free todo n : Nat) : Prop where
  f : Off l.length D free
  t : Off l.length D todo
  a : Apart free todo
  n : n = card free
theorem l3_start {l : List NNode} {D : Int → Prop} {k free n : Nat} (h : L1 l D k free n) : L3 l D free 0 n := ⟨h.f, off_zero _ _, fun u _ => by unfold hasB; simp, h.n⟩
theorem l3_todo {l : List NNode} {D : Int → Prop} {free todo n : Nat} (hS : Safe l D) (h : L3 l D free todo n) (u : Int) (h0 : 0 ≤ u) (h1 : u < l.length) (hf : hasB free u = false) (hm : metG free (l.getD u.toNat z92) = true) : L3 l D free (withB todo u) n :=
  ⟨h.f, h.t.with_ u h1 (safe_met hS h.f u h0 h1 hm), apart_with h.a u hf, h.n⟩
theorem l3_step {l : List NNode} {D : Int → Prop} {free todo n : Nat} (h : L3 l D free todo n) (h0 : todo ≠ 0) : L3 l D (withB free (firstB todo)) (woutB todo (firstB todo)) (n + 1) := by
  have hh := firstB_has todo h0 h.t.lt
  refine ⟨h.f.with_ _ (h.t.in_ _ hh) (fun q => ?_), h.t.wout _, apart_move h.t.lt h.a _, ?_⟩
  · rw [h.t.off _ q] at hh; cases hh
  · rw [card_with free _ (hasB_vt hh) (by
      cases q : hasB free (firstB todo)
      · rfl
      · rw [h.a _ q] at hh; cases hh), h.n]
theorem l3_more {l : List NNode} {D : Int → Prop} {free todo n : Nat} (h : L3 l D free todo n) (h0 : todo ≠ 0) : 64 - card (withB free (firstB todo)) < 64 - card free := by
  have q := l3_step h h0
  have c := card_le (withB free (firstB todo))
  have e1 := q.n
  have e2 := h.n
  omega
end Go.Proofs.YtadepdeckapgcaaDoor
end

section
namespace Go.Proofs.YtadepdeckapgcaaDoor
open Go.RowKit Go.Proofs.YtadepdeckapgcaaDoorW.PrintWords Go.Proofs.YtadepdeckapgcaaDoorW.PrintLast Go.Proofs.YtadepdeckapgcaaDoorW.PrintMore PWitnessTells
set_option linter.unusedSimpArgs false
set_option linter.unusedVariables false
structure OrSt (w : World) (g : Nat) (cs : Array Value) (v : Value) (out : List Int) (wz : World) : Prop where
  y : Blk wz g cs 159
  o : (Kd.int .i64).R 3 wz w.heap.size Any_ v out
  b : Below w.heap.size w wz
theorem OrSt.quiet {w : World} {g : Nat} {cs : Array Value} {v : Value} {out : List Int} {wz wy : World} (h : OrSt w g cs v out wz) (q : Quiet wz wy) : OrSt w g cs v out wy :=
  ⟨h.y.quiet q, Kd.R_below h.o q.bel, below_then h.b h.b.size q.bel⟩
theorem OrSt.grow {w : World} {g : Nat} {cs : Array Value} {v v1 : Value} {out o1 : List Int} {wz wy : World} (h : OrSt w g cs v out wz) (hg : wz.grownBy wy v.ownBlock) (ho : (Kd.int .i64).R 3 wy w.heap.size Any_ v1 o1) : OrSt w g cs v1 o1 wy := by
  obtain ⟨inner, own⟩ := Kd.R_own h.o
  exact ⟨grown_blk hg h.y (own_not_blk h.y own (by decide)), ho, h.b.grown hg h.b.size (fun k hk => own_base own k hk)⟩
def Or1 (w : World) (g : Nat) (cs : Array Value) (l : List NNode) (D : Int → Prop) (fr v i : Value) (wz : World) : Prop :=
  ∃ (k free : Nat) (out : List Int), k ≤ l.length ∧ i = .int .i64 k ∧ fr = .int .u64 (free : Nat) ∧ L1 l D k free out.length ∧ OrSt w g cs v out wz
def Or2 (w : World) (g : Nat) (cs : Array Value) (l : List NNode) (D : Int → Prop) (free : Nat) (v : Value) (out : List Int) (td i : Value) (wz : World) : Prop :=
  ∃ (k todo : Nat), k ≤ l.length ∧ i = .int .i64 k ∧ td = .int .u64 (todo : Nat) ∧ L3 l D free todo out.length ∧ OrSt w g cs v out wz
def Or3 (w : World) (g : Nat) (cs : Array Value) (l : List NNode) (D : Int → Prop) (fr v td : Value) (wz : World) : Prop :=
  ∃ (free todo : Nat) (out : List Int), fr = .int .u64 (free : Nat) ∧ td = .int .u64 (todo : Nat) ∧ L3 l D free todo out.length ∧ OrSt w g cs v out wz
def Or4 (w : World) (g : Nat) (cs : Array Value) (l : List NNode) (D : Int → Prop) (free : Nat) (v : Value) (out : List Int) (ls : List Int) (w5 : World) (td i : Value) (wz : World) : Prop :=
  ∃ (k todo : Nat), k ≤ ls.length ∧ i = .int .i64 k ∧ td = .int .u64 (todo : Nat) ∧ L3 l D free todo out.length ∧ OrSt w g cs v out wz ∧ Quiet w5 wz
set_option maxRecDepth 100000 in
set_option maxHeartbeats 1000000 in
theorem wOrder (w : World) (hT : Tb w) (A : Option Addr) (c : Nat) (l : List NNode) (hC : k92.C w A l.length l) (hn : l.length ≤ 64) (D : Int → Prop) (hS : Safe l D) :
    Calls Tryd.prog 71 #[.slice A l.length c] w fun e w' => ∃ v free, e = .returned (.tuple #[v, .int .u64 (free : Nat)]) ∧ Off l.length D free ∧ Quiet w w' := by
  have HT := Lib.hid hT; have HC := Lib.hid hC; have HSf := Lib.hid hS
  have AK := Lib.hid (wAsks w A c l hC hn)
  clear hT hC hS
  go_enter Tryd.func71, Tryd.ntmps71
  go_wp2_with fail
  refine AK.out.mono ?_
  rintro e w1 ⟨cs, rfl, hba, hq⟩
  have hb1 : Below w.heap.size w w1 := Quiet.bel hq
  have hst : (storeCells ⟨w1.heap.size, 0, none⟩ cs.toList).run Tryd.prog (w1.alloc (.cells zeroS 159)) = .ok () (w1.alloc (.cells cs 159)) :=
    run_storeCells_new (P := Tryd.prog) w1 159 zeroS cs (by rw [hba.sz]; kernel_rfl) (by rw [hba.sz]; rfl) (by
      rw [Array.all_eq_true]
      intro i hi
      obtain ⟨s, _, q⟩ := hba.at_ i (by rw [← hba.sz]; exact hi)
      rw [Array.getElem?_eq_getElem hi] at q
      injection q with q
      rw [q]; rfl)
  have hst2 : (storeCells ⟨w1.heap.size, 0, none⟩ cs.toList).run Tryd.prog (w1.alloc (.cells #[.int .u64 0, .int .u64 0, .int .u64 0, .int .u64 0, .int .u64 0, .int .u64 0, .int .u64 0, .int .u64 0, .int .u64 0, .int .u64 0, .int .u64 0, .int .u64 0, .int .u64 0, .int .u64 0, .int .u64 0, .int .u64 0, .int .u64 0, .int .u64 0, .int .u64 0, .int .u64 0, .int .u64 0, .int .u64 0, .int .u64 0, .int .u64 0, .int .u64 0, .int .u64 0, .int .u64 0, .int .u64 0, .int .u64 0, .int .u64 0, .int .u64 0, .int .u64 0, .int .u64 0, .int .u64 0, .int .u64 0, .int .u64 0, .int .u64 0, .int .u64 0, .int .u64 0, .int .u64 0, .int .u64 0, .int .u64 0, .int .u64 0, .int .u64 0, .int .u64 0, .int .u64 0, .int .u64 0, .int .u64 0, .int .u64 0, .int .u64 0, .int .u64 0, .int .u64 0, .int .u64 0, .int .u64 0, .int .u64 0, .int .u64 0, .int .u64 0, .int .u64 0, .int .u64 0, .int .u64 0, .int .u64 0, .int .u64 0, .int .u64 0, .int .u64 0] 159)) = .ok () (w1.alloc (.cells cs 159)) := hst
  have hsz : cs.size = 64 := hba.sz
  have HV : Hid (OrSt w w1.heap.size cs (.slice none 0 0) [] (w1.alloc (.cells cs 159))) := Lib.hid ⟨Blk.new _ _ _, Kd.R_nil _ _ _ _ _, hb1.alloc hb1.size _⟩
  have HBA := Lib.hid hba
  clear hst hq hba hb1 AK
  go_wp2
  clear hst2
  generalize w1.alloc (.cells cs 159) = w2 at HV ⊢
  generalize w1.heap.size = g at *
  clear hsz
  go_loopw [4, 5, 19] (fun f v i wr => Or1 w g cs l D f v i wr) (fun _ _ i _ => l.length - (intOf i).toNat)
  case atStart => exact ⟨0, 0, [], Nat.zero_le _, rfl, rfl, l1_zero l D, HV.out⟩
  case round =>
    obtain ⟨wo, hwo⟩ : ∃ x, x = wr := ⟨_, rfl⟩
    subst hwo
    obtain ⟨k, free, out, hk, rfl, rfl, hL, hv⟩ := hrel
    clear HV
    by_cases hlt : k < l.length
    · obtain ⟨ad, B1, d1, hA, g1, g2, hl1, hC1⟩ := at_T92 HC.out k (by omega) (by omega)
      have hrd : rd_T92 l (k : Int) = l.getD k z92 := rfl
      rw [hrd] at g1 g2 hl1 hC1
      have hW := fun e => l1_with HSf.out hL hlt hn e
      generalize l.getD k z92 = x at *
      obtain ⟨xs, xw⟩ := x
      subst hA
      simp only [Int.toNat_natCast] at g1 g2
      dsimp only at g1 g2 hW
      have g1' := pw_cell_below hv.b g1
      have g2' := pw_cell_below hv.b g2
      have HV := Lib.hid hv; have HL := Lib.hid hL; have HWi := Lib.hid hW; have HF := Lib.hid hL.f.lt
      have hol : out.length ≤ 64 := by rw [hL.n]; exact card_le _
      have HOL := Lib.hid hol
      clear hv hC1 g1 g2 hrd hL hW hol
      cases xs
      · obtain ⟨Av, cv, hvv⟩ := Kd.R_slice HV.out.o
        subst hvv
        have HV1 : Hid (OrSt w g cs (.slice Av out.length cv) out (wo.alloc (.cells #[.bool false, .slice B1 xw.length d1] 92))) := Lib.hid (HV.out.quiet ((Fr.refl _ _).alloc _))
        go_upto_region 7 with fail
        generalize wo.alloc (.cells #[.bool false, .slice B1 xw.length d1] 92) = wx at HV1 ⊢
        go_wp2_with (first
          | (go_at_call 65; refine (wWith _ _ HF.out _).mono ?_; rintro e w' ⟨rfl, rfl⟩)
          | (at_builtin; refine rApp (Kd.int .i64) (w0 := w) w.heap.size rfl _ _ 22 3 (.int .i64 0) 8 rfl Tryd.underlying22 infoInt rfl (by decide) (by decide) (.slice Av out.length cv) out (k : Int) _ rfl rfl rfl (by intro q hq; simp [Kd.int, Kd.scalar] at hq) HV1.out.o HV1.out.b HV1.out.b.size (by have := HOL.out; omega) ?_; intro v1 w4 ho _ hg _; have HVn := Lib.hid (HV1.out.grow hg ho); clear ho hg))
        go_roundw
        case rel => exact ⟨k + 1, withB free k, out ++ [(k : Int)], by omega, by go_num, rfl, by simpa using HWi.out trivial, HVn.out⟩
        case measure => simp [intOf]; omega
      · go_wp2
        go_roundw
        case rel => exact ⟨k + 1, free, out, by omega, by go_num, rfl, l1_skip HL.out, HV.out.quiet ((Fr.refl _ _).alloc _)⟩
        case measure => simp [intOf]; omega
    · have hL3 := l3_start hL
      have HGo := Lib.hid hL.go
      have HV := Lib.hid hv
      clear hL hv
      go_wp2
      go_loopw [6, 37] (fun td i wr => Or2 w g cs l D free u5 out td i wr) (fun _ i _ => l.length - (intOf i).toNat)
      case atStart => exact ⟨0, 0, Nat.zero_le _, rfl, rfl, hL3, HV.out⟩
      case round =>
        obtain ⟨wp, hwp⟩ : ∃ x, x = wr := ⟨_, rfl⟩
        subst hwp
        obtain ⟨k, todo, hk, rfl, rfl, hL, hv⟩ := hrel
        clear HV
        by_cases hlt : k < l.length
        · obtain ⟨ad, B1, d1, hA, g1, g2, hl1, hC1⟩ := at_T92 HC.out k (by omega) (by omega)
          have hrd : rd_T92 l (k : Int) = l.getD k z92 := rfl
          rw [hrd] at g1 g2 hl1 hC1
          have hW := fun e1 e2 => l3_todo HSf.out hL (k : Int) (by omega) (by omega) e1 e2
          have hg0 := HGo.out (k : Int)
          simp only [Int.toNat_natCast] at hW hg0
          generalize l.getD k z92 = x at *
          obtain ⟨xs, xw⟩ := x
          subst hA
          simp only [Int.toNat_natCast] at g1 g2
          dsimp only at g1 g2 hg0 hl1 hC1
          have g1' := pw_cell_below hv.b g1
          have g2' := pw_cell_below hv.b g2
          have HV := Lib.hid hv; have HL := Lib.hid hL; have HWi := Lib.hid hW; have HF := Lib.hid hL.f.lt; have HFt := Lib.hid hL.t.lt
          have HC1 := Lib.hid (Kd.C_below hC1 hv.b)
          have HG0 := Lib.hid hg0
          clear hv hC1 g1 g2 hrd hL hW hg0
          cases xs
          · go_wp2
            go_roundw
            case rel => exact ⟨k + 1, todo, by omega, by go_num, rfl, HL.out, HV.out.quiet ((Fr.refl _ _).alloc _)⟩
            case measure => simp [intOf]; omega
          · have ME : Hid (∀ W, Quiet wp W → Calls Tryd.prog 115 #[.agg #[.bool true, .slice B1 xw.length d1], .int .u64 free] W fun e w' => e = .returned (.bool (metG free ⟨true, xw⟩)) ∧ Quiet W w') := Lib.hid (fun W q => wMet W ⟨true, xw⟩ B1 d1 (Kd.C_below HC1.out q.bel) hl1 free HF.out)
            have HNF : Hid (hasB free (k : Int) = false) := Lib.hid (by
              cases q : hasB free (k : Int)
              · rfl
              · have := HG0.out q; cases this)
            cases hm : metG free ⟨true, xw⟩
            · rw [hm] at ME
              clear hm
              go_wp2_with ((go_at_call 115; refine (ME.out _ ((Fr.refl _ _).alloc _)).mono ?_; rintro e w5 ⟨rfl, hq⟩; have HQ5 := Lib.hid hq; clear hq))
              go_roundw
              case rel => exact ⟨k + 1, todo, by omega, by go_num, rfl, HL.out, (HV.out.quiet ((Fr.refl _ _).alloc _)).quiet HQ5.out⟩
              case measure => simp [intOf]; omega
            · rw [hm] at ME
              have HW2 := Lib.hid (HWi.out HNF.out hm)
              clear hm
              go_wp2_with (first
                | (go_at_call 115; refine (ME.out _ ((Fr.refl _ _).alloc _)).mono ?_; rintro e w5 ⟨rfl, hq⟩; have HQ5 := Lib.hid hq; clear hq)
                | (go_at_call 65; refine (wWith _ _ HFt.out _).mono ?_; rintro e w' ⟨rfl, rfl⟩))
              go_roundw
              case rel => exact ⟨k + 1, withB todo k, by omega, by go_num, rfl, HW2.out, (HV.out.quiet ((Fr.refl _ _).alloc _)).quiet HQ5.out⟩
              case measure => simp [intOf]; omega
        · have HV := Lib.hid hv; have HL := Lib.hid hL
          clear hv hL
          go_wp2
          go_loopw [4, 5, 6] (fun f v td wr => Or3 w g cs l D f v td wr) (fun f _ _ _ => 64 - card (intOf f).toNat)
          case atStart => exact ⟨free, todo, out, rfl, rfl, HL.out, HV.out⟩
          case round =>
            obtain ⟨wq, hwq⟩ : ∃ x, x = wr := ⟨_, rfl⟩
            subst hwq
            obtain ⟨fr, td, ou, rfl, rfl, hL, hv⟩ := hrel
            clear HV HL
            by_cases h0 : td = 0
            · subst h0
              have HV := Lib.hid hv; have HL := Lib.hid hL
              clear hL hv
              go_wp2
              go_ret2
              exact ⟨_, fr, rfl, HL.out.f, Quiet.of HV.out.b⟩
            · have hL2 := l3_step hL h0
              have hme := l3_more hL h0
              have hft := firstB_has td h0 hL.t.lt
              have h0' : ((td : Nat) : Int) ≠ 0 := by omega
              have hol : ou.length ≤ 64 := by rw [hL.n]; exact card_le _
              have FI := Lib.hid (fun W (q : Below w.heap.size w W) => wFirst W td hL.t.lt (HT.out.quiet (Quiet.of q)))
              have htn := hL.t.in_ _ hft
              have htv := hasB_vt hft
              obtain ⟨Av, cv, hvv⟩ := Kd.R_slice hv.o
              subst hvv
              generalize firstB td = t at *
              obtain ⟨tn, rfl⟩ := Int.eq_ofNat_of_zero_le htv.1
              obtain ⟨sn, hsn, hcs⟩ := HBA.out.at_ tn (by omega)
              have hd1 : bits .andNot .u64 ((sn : Nat) : Int) ((withB fr tn : Nat) : Int) = ((diffB sn (withB fr tn) : Nat) : Int) := andNot_diff _ _ hsn.1 hL2.f.lt
              have hd2 : bits .andNot .u64 ((diffB sn (withB fr tn) : Nat) : Int) ((woutB td tn : Nat) : Int) = ((diffB (diffB sn (withB fr tn)) (woutB td tn) : Nat) : Int) := andNot_diff _ _ (diffB_lt _ _ hsn.1) hL2.t.lt
              have hsl : diffB (diffB sn (withB fr tn)) (woutB td tn) < B64 := diffB_lt _ _ (diffB_lt _ _ hsn.1)
              have hmem : ∀ u ∈ listB (diffB (diffB sn (withB fr tn)) (woutB td tn)), hasB (withB fr tn) u = false ∧ 0 ≤ u ∧ u < l.length := fun u hu => by
                rw [mem_listB, hasB_diffB _ _ hL2.t.lt, hasB_diffB _ _ hL2.f.lt] at hu
                simp only [Bool.and_eq_true, Bool.not_eq_true'] at hu
                have hv := hasB_vt hu.1.1
                refine ⟨hu.1.2, hv.1, ?_⟩
                have q := hu.1.1
                unfold hasB at q
                rw [Bool.and_eq_true] at q
                have := hsn.2 _ q.2
                unfold vt at hv
                omega
              generalize diffB (diffB sn (withB fr tn)) (woutB td tn) = ss at *
              generalize diffB sn (withB fr tn) = s1 at *
              have HMem := Lib.hid hmem; have HSL := Lib.hid hsl; have HCS := Lib.hid hcs
              have HOL := Lib.hid hol; have HV := Lib.hid hv; have HL2 := Lib.hid hL2; have HMe := Lib.hid hme
              have HFr := Lib.hid hL.f.lt; have HTd := Lib.hid hL.t.lt
              have ht64 : (tn : Int) < 64 := by omega
              clear hmem hsl hcs hol hv hL2 hme hL hft htn htv hsn
              go_wp2_with fail
              refine (FI.out _ HV.out.b).mono ?_
              rintro e w' ⟨rfl, rfl⟩
              go_wp2_with (first
                | (go_at_call 65; refine (wWith _ _ HFr.out _).mono ?_; rintro e w' ⟨rfl, rfl⟩)
                | (go_at_call 64; refine (wWithout _ _ HTd.out _).mono ?_; rintro e w' ⟨rfl, rfl⟩)
                | (at_builtin; refine rApp (Kd.int .i64) (w0 := w) w.heap.size rfl _ _ 22 3 (.int .i64 0) 8 rfl Tryd.underlying22 infoInt rfl (by decide) (by decide) (.slice Av ou.length cv) ou (tn : Int) _ rfl rfl rfl (by intro q hq; simp [Kd.int, Kd.scalar] at hq) HV.out.o HV.out.b HV.out.b.size (by have := HOL.out; omega) ?_; intro v1 w4 ho _ hg _; have HVn := Lib.hid (HV.out.grow hg ho); have qc := HVn.out.y.cell tn; rw [HCS.out] at qc; clear ho hg))
              refine (wList w4 ss HSL.out (HT.out.quiet (Quiet.of HVn.out.b))).mono ?_
              rintro e w5 ⟨v74, rfl, hown, hbel⟩
              obtain ⟨Al, cl, rfl, hLr, hcl⟩ := IntsC.of_own hown
              have HV5 := Lib.hid (HVn.out.quiet (Quiet.of hbel))
              clear hown hbel qc HVn
              have hlm := listB_len ss
              generalize listB ss = ls at *
              have HLr := Lib.hid hLr
              clear hLr
              have hn1 : (ou ++ [(tn : Int)]).length = ou.length + 1 := by simp
              have HL3 : Hid (L3 l D (withB fr tn) (woutB td tn) (ou ++ [(tn : Int)]).length) := Lib.hid (by rw [hn1]; exact HL2.out)
              clear hn1 HL2
              generalize ou ++ [(tn : Int)] = o2 at *
              generalize woutB td tn = td1 at *
              generalize withB fr tn = fr1 at *
              go_wp2
              go_loopw [6, 76] (fun td i wr => Or4 w g cs l D fr1 v1 o2 ls w5 td i wr) (fun _ i _ => ls.length - (intOf i).toNat)
              case atStart => exact ⟨0, td1, Nat.zero_le _, rfl, rfl, HL3.out, HV5.out, Fr.refl _ _⟩
              case round =>
                obtain ⟨wt, hwt⟩ : ∃ x, x = wr := ⟨_, rfl⟩
                subst hwt
                obtain ⟨k, todo, hk, rfl, rfl, hL, hv, hq5⟩ := hrel
                clear HL3 HV5
                by_cases hlt : k < ls.length
                · obtain ⟨au, rfl, gu⟩ := at_ints (Kd.C_below HLr.out hq5.bel) k hlt
                  obtain ⟨hu1, hu2, hu3⟩ := HMem.out (ls.getD k 0) (getD_mem 0 ls k hlt)
                  generalize ls.getD k 0 = u at *
                  obtain ⟨un, rfl⟩ := Int.eq_ofNat_of_zero_le hu2
                  obtain ⟨ad, B1, d1, hA, g1, g2, hl1, hC1⟩ := at_T92 HC.out un (by omega) (by omega)
                  have hrd : rd_T92 l (un : Int) = l.getD un z92 := rfl
                  rw [hrd] at g1 g2 hl1 hC1
                  have hW := fun e2 => l3_todo HSf.out hL (un : Int) (by omega) (by omega) hu1 e2
                  simp only [Int.toNat_natCast] at hW
                  generalize l.getD un z92 = x at *
                  obtain ⟨xs, xw⟩ := x
                  subst hA
                  simp only [Int.toNat_natCast] at g1 g2
                  dsimp only at g1 g2 hl1 hC1
                  have g1' := pw_cell_below hv.b g1
                  have g2' := pw_cell_below hv.b g2
                  have ME := Lib.hid (wMet wt ⟨xs, xw⟩ B1 d1 (Kd.C_below hC1 hv.b) hl1 fr1 hL.f.lt)
                  have HFt := Lib.hid hL.t.lt
                  have HV := Lib.hid hv; have HL := Lib.hid hL; have HWi := Lib.hid hW; have HQ5 := Lib.hid hq5
                  clear hv hL hW hq5 g1 g2 hrd hC1 hu1
                  dsimp only at ME
                  cases hm : metG fr1 ⟨xs, xw⟩
                  · rw [hm] at ME
                    clear hm
                    go_wp2_with ((go_at_call 115; refine ME.out.mono ?_; rintro e w6 ⟨rfl, hq⟩; have HQ6 := Lib.hid hq; clear hq))
                    go_roundw
                    case rel => exact ⟨k + 1, todo, by omega, by go_num, rfl, HL.out, HV.out.quiet HQ6.out, HQ5.out.quiet HQ6.out⟩
                    case measure => simp [intOf]; omega
                  · rw [hm] at ME
                    have HW2 := Lib.hid (HWi.out hm)
                    clear hm
                    go_wp2_with (first
                      | (go_at_call 115; refine ME.out.mono ?_; rintro e w6 ⟨rfl, hq⟩; have HQ6 := Lib.hid hq; clear hq)
                      | (go_at_call 65; refine (wWith _ _ HFt.out _).mono ?_; rintro e w' ⟨rfl, rfl⟩))
                    go_roundw
                    case rel => exact ⟨k + 1, withB todo un, by omega, by go_num, rfl, HW2.out, HV.out.quiet HQ6.out, HQ5.out.quiet HQ6.out⟩
                    case measure => simp [intOf]; omega
                · have HV := Lib.hid hv; have HL := Lib.hid hL
                  clear hv hL hq5
                  go_wp2
                  go_roundw
                  case rel => exact ⟨fr1, todo, o2, rfl, rfl, HL.out, HV.out⟩
                  case measure => have := HMe.out; simpa [intOf] using this
end Go.Proofs.YtadepdeckapgcaaDoor
end

section
namespace Go.Proofs.YtadepdeckapgcaaDoor
open Go.RowKit Go.Proofs.YtadepdeckapgcaaDoorW.PrintWords Go.Proofs.YtadepdeckapgcaaDoorW.PrintLast Go.Proofs.YtadepdeckapgcaaDoorW.PrintMore PWitnessTells
set_option linter.unusedSimpArgs false
set_option linter.unusedVariables false
theorem hasB_all (n : Nat) (hn : n ≤ 64) (u : Int) (h0 : 0 ≤ u) (h1 : u < n) : hasB (2 ^ n - 1) u = true := by
  unfold hasB
  rw [decide_eq_true (by unfold vt; omega), Nat.testBit_two_pow_sub_one]
  simp; omega
theorem all_lt (n : Nat) (hn : n ≤ 64) : 2 ^ n - 1 < B64 := by
  have h : 2 ^ n ≤ 2 ^ 64 := Nat.pow_le_pow_right (by decide) hn
  unfold B64; omega
set_option maxRecDepth 100000 in
theorem wAll (w : World) (n : Nat) (hn : n ≤ 64) : Calls Tryd.prog 72 #[.int .i64 n] w fun e w' => e = .returned (.int .u64 ((2 ^ n - 1 : Nat) : Int)) ∧ w = w' := by
  by_cases h0 : n = 0
  · subst h0
    go_enter Tryd.func72, Tryd.ntmps72
    go_wp2
    go_ret
    exact ⟨rfl, rfl⟩
  by_cases h1 : n = 64
  · subst h1
    go_enter Tryd.func72, Tryd.ntmps72
    go_wp2
    go_ret
    exact ⟨rfl, rfl⟩
  have h2 : ¬ (n : Int) ≤ 0 := by omega
  have h3 : ¬ (63 : Int) < n := by omega
  have e : Hid (IntKind.u64.wrap (IntKind.u64.wrap ((2 : Int) ^ n) - 1) = ((2 ^ n - 1 : Nat) : Int)) := Lib.hid (by
    have q : (2 : Int) ^ n = ((2 ^ n : Nat) : Int) := by simp
    have q1 : 2 ^ n < 2 ^ 64 := Nat.pow_lt_pow_right (by decide) (by omega)
    have q2 : 0 < 2 ^ n := Nat.pow_pos (by decide)
    rw [q, IntKind.wrap_u64, IntKind.wrap_u64]
    generalize 2 ^ n = x at *
    omega)
  go_enter Tryd.func72, Tryd.ntmps72
  go_wp2
  go_ret
  refine ⟨?_, rfl⟩
  rw [← e.out]
  rfl
set_option maxRecDepth 100000 in
theorem wDoomed (w : World) (hT : Tb w) (A : Option Addr) (c : Nat) (l : List NNode) (hC : k92.C w A l.length l) (hn : l.length ≤ 64) (D : Int → Prop) (hS : Safe l D) :
    Calls Tryd.prog 30 #[.slice A l.length c] w fun e w' => ∃ s : Nat, e = .returned (.int .u64 (s : Nat)) ∧ s < B64 ∧ (∀ x, D x → 0 ≤ x → x < l.length → hasB s x = true) ∧ Quiet w w' := by
  have OR := Lib.hid (wOrder w hT A c l hC hn D hS)
  have hal := all_lt l.length hn
  have HAl := Lib.hid hal
  have AL := Lib.hid (fun W => wAll W l.length hn)
  have HN := Lib.hid hn
  have CH : Hid (Calls Tryd.prog 70 #[.slice A l.length c] w fun e w' => e = .returned (.int .i64 0) ∧ w = w') := Lib.hid (by
    have h : ¬ (64 : Int) < l.length := by omega
    go_enter Tryd.func70, Tryd.ntmps70
    go_wp2
    go_ret
    exact ⟨rfl, rfl⟩)
  clear hT hC hS hal
  go_enter Tryd.func30, Tryd.ntmps30
  go_wp2_with fail
  refine CH.out.mono ?_
  rintro e w' ⟨rfl, rfl⟩
  go_wp2_with fail
  refine OR.out.mono ?_
  rintro e w1 ⟨v, free, rfl, hf, hq⟩
  have HQ := Lib.hid hq; have HF := Lib.hid hf
  have hd := andNot_diff (2 ^ l.length - 1) free HAl.out hf.lt
  clear hq hf
  go_wp2_with fail
  refine (AL.out _).mono ?_
  rintro e w' ⟨rfl, rfl⟩
  go_wp2
  go_ret
  refine ⟨diffB (2 ^ l.length - 1) free, ?_, diffB_lt _ _ HAl.out, fun x hx h0 h1 => ?_, HQ.out⟩
  · first | rfl | (rw [hd]) | (rw [← hd])
  · rw [hasB_diffB _ _ HF.out.lt, hasB_all _ HN.out x h0 h1, HF.out.off x hx]; rfl
end Go.Proofs.YtadepdeckapgcaaDoor
end

section
namespace Go.Proofs.YtadepdeckapgcaaDoor
open Go.RowKit Go.Proofs.YtadepdeckapgcaaDoorW.PrintWords Go.Proofs.YtadepdeckapgcaaDoorW.PrintLast Go.Proofs.YtadepdeckapgcaaDoorW.PrintMore PWitnessTells
set_option linter.unusedSimpArgs false
set_option linter.unusedVariables false
theorem hasB_ofL0 (l : List Int) (u : Int) : hasB (ofL 0 l) u = true ↔ vt u ∧ u ∈ l := by
  rw [hasB_ofL]
  have h0 : hasB 0 u = false := by unfold hasB; simp
  rw [h0, Bool.false_or, decide_eq_true_eq]
theorem lacksL_at (dead : Nat) : ∀ (l : List NTerm) (i : Nat), 0 ≤ lacksL dead i l → ∃ j : Nat, lacksL dead i l = ((i + j : Nat) : Int) ∧ j < l.length ∧ comesL dead 0 (l.getD j z96).f1 < (l.getD j z96).f0
  | [], i, h => by simp [lacksL] at h
  | a :: r, i, h => by
    rw [lacksL_cons] at h ⊢
    by_cases q : comesL dead 0 a.f1 < a.f0
    · rw [if_pos q]; exact ⟨0, by simp, by simp, by simpa using q⟩
    · rw [if_neg q] at h ⊢
      obtain ⟨j, h1, h2, h3⟩ := lacksL_at dead r (i + 1) h
      exact ⟨j + 1, by rw [h1]; congr 1; omega, by simp; omega, by simpa using h3⟩
section
variable {time : Int} {d : List Int} {n : List NNode} {t : Int}
theorem sound_open (h : soundR time d n = true) : chkR time d n = 0 ∧ ∀ x ∈ n, ∀ w ∈ x.f1, 0 ≤ lacksL (ofL 0 d) 0 w := by
  unfold soundR at h
  simp only [Bool.and_eq_true, decide_eq_true_eq] at h
  refine ⟨h.1, fun x hx w hw => ?_⟩
  have := List.all_eq_true.1 (List.all_eq_true.1 h.2 x hx) w hw
  unfold wayOk at this
  simpa using this
theorem sound_dead (h : soundR time d n = true) (u : Int) : hasB (ofL 0 d) u = true ↔ u ∈ d := by
  obtain ⟨hl, hd, _⟩ := chkR_zero _ _ _ (sound_open h).1
  rw [hasB_ofL0]
  exact ⟨fun q => q.2, fun q => ⟨deadC_range d (-1) (by omega) hd u q, q⟩⟩
end
end Go.Proofs.YtadepdeckapgcaaDoor
end

section
namespace Go.Proofs.YtadepdeckapgcaaDoor
open Go.RowKit Go.Proofs.YtadepdeckapgcaaDoorW.PrintWords Go.Proofs.YtadepdeckapgcaaDoorW.PrintLast Go.Proofs.YtadepdeckapgcaaDoorW.PrintMore PWitnessTells
set_option linter.unusedSimpArgs false
set_option linter.unusedVariables false
theorem eqL_eq {α : Type} (p : α → α → Bool) (hp : ∀ x y, p x y = true → x = y) : ∀ a b : List α, eqL p a b = true → a = b
  | [], [], _ => rfl
  | a :: r, b :: s, h => by
    rw [eqL_cons, Bool.and_eq_true] at h
    rw [hp _ _ h.1, eqL_eq p hp r s h.2]
  | [], _ :: _, h => by cases h
  | _ :: _, [], h => by cases h
theorem shE_eq (a b : NShare) (h : shE a b = true) : a = b := by
  unfold shE at h
  obtain ⟨a0, a1⟩ := a
  obtain ⟨b0, b1⟩ := b
  simp at h
  rw [h.1, h.2]
theorem tmE_eq (a b : NTerm) (h : tmE a b = true) : a = b := by
  unfold tmE at h
  obtain ⟨a0, a1⟩ := a
  obtain ⟨b0, b1⟩ := b
  simp at h
  rw [h.1, eqL_eq shE shE_eq _ _ h.2]
theorem ndE_eq (a b : NNode) (h : ndE a b = true) : a = b := by
  unfold ndE at h
  obtain ⟨a0, a1⟩ := a
  obtain ⟨b0, b1⟩ := b
  simp at h
  rw [h.1, eqL_eq wyE (fun x y q => eqL_eq tmE tmE_eq x y q) _ _ h.2]
theorem termL_ok : ∀ (l : List NShare) (last e : Int), termL last e l = 0 → last ≤ 63 → e = 0 ∧ (∀ s ∈ l, unitsB s.f1 = true) ∧ (l.length : Int) ≤ 63 - last
  | [], last, e, h, hl => ⟨h, (by intro s hs; cases hs), (by simp only [List.length_nil]; omega)⟩
  | a :: r, last, e, h, hl => by
    rw [termL_cons] at h
    by_cases q : a.f0 ≤ last ∨ 64 ≤ a.f0
    · rw [if_pos q] at h; cases h
    · rw [if_neg q] at h
      obtain ⟨h1, h2, h3⟩ := termL_ok r _ _ h (by omega)
      cases hu : unitsB a.f1
      · rw [hu, if_neg (by simp)] at h1; cases h1
      · rw [hu, if_pos rfl] at h1
        refine ⟨h1, fun s hs => ?_, by simp only [List.length_cons]; omega⟩
        rcases List.mem_cons.1 hs with rfl | hs
        · exact hu
        · exact h2 s hs
theorem comes_le (free dead : Nat) : ∀ (l : List NShare) (x y : Int), (∀ s ∈ l, hasB free s.f0 = true → hasB dead s.f0 = false) → (∀ s ∈ l, unitsB s.f1 = true) → 0 ≤ x → x ≤ y → y + 1000 * (l.length : Int) ≤ 1000000 → comesG free x l ≤ comesL dead y l
  | [], x, y, _, _, _, h, _ => h
  | s :: r, x, y, hf, hu, h0, h, hb => by
    rw [comesG_cons, comesL_cons]
    have hN : 1 ≤ s.f1 ∧ s.f1 ≤ 1000 := by have q := hu s (by simp); unfold unitsB at q; simpa using q
    have hsh : shareI s.f1 = s.f1 := by unfold shareI; omega
    simp only [List.length_cons] at hb
    have w1 : wrap64 (x + s.f1) = x + s.f1 := by unfold wrap64; omega
    have w2 : wrap64 (y + s.f1) = y + s.f1 := by unfold wrap64; omega
    rw [hsh, w1, w2]
    have ih := fun x y a b c => comes_le free dead r x y (fun q hq => hf q (by simp [hq])) (fun q hq => hu q (by simp [hq])) a b c
    have hfs := hf s (by simp)
    cases e1 : hasB free s.f0
    · rw [if_neg (by simp)]
      split
      · exact ih _ _ h0 h (by omega)
      · exact ih _ _ h0 (by omega) (by omega)
    · rw [if_pos rfl, hfs e1, if_neg (by simp)]
      exact ih _ _ (by omega) (by omega) (by omega)
theorem nodesC_mem : ∀ (n : List NNode), nodesC n = 0 → ∀ x ∈ n, nodeC x = 0
  | [], _, x, hx => by cases hx
  | a :: r, h, x, hx => by
    rw [nodesC_cons] at h
    by_cases q : nodeC a = 0
    · rw [if_pos q] at h
      rcases List.mem_cons.1 hx with rfl | hx
      · exact q
      · exact nodesC_mem r h x hx
    · rw [if_neg q] at h; exact absurd h q
theorem waysC_mem : ∀ (n : List (List NTerm)), waysC n = 0 → ∀ x ∈ n, termsC x = 0
  | [], _, x, hx => by cases hx
  | a :: r, h, x, hx => by
    rw [waysC_cons] at h
    split at h
    · cases h
    · by_cases q : termsC a = 0
      · rw [if_pos q] at h
        rcases List.mem_cons.1 hx with rfl | hx
        · exact q
        · exact waysC_mem r h x hx
      · rw [if_neg q] at h; exact absurd h q
theorem termsC_mem : ∀ (n : List NTerm), termsC n = 0 → ∀ x ∈ n, termC x = 0
  | [], _, x, hx => by cases hx
  | a :: r, h, x, hx => by
    rw [termsC_cons] at h
    by_cases q : termC a = 0
    · rw [if_pos q] at h
      rcases List.mem_cons.1 hx with rfl | hx
      · exact q
      · exact termsC_mem r h x hx
    · rw [if_neg q] at h; exact absurd h q
theorem matchL_at (l : List NNode) : ∀ (d : List Int) (n : List NNode), matchL l d n = true → d.length = n.length → ∀ i, i < d.length → d.getD i 0 < l.length ∧ ndE (n.getD i z92) (l.getD (d.getD i 0).toNat z92) = true
  | [], _, _, _, i, hi => by simp at hi
  | t :: r, [], _, hl, _, _ => by simp at hl
  | t :: r, x :: s, h, hl, i, hi => by
    rw [matchL_cons] at h
    simp only [Bool.and_eq_true, decide_eq_true_eq] at h
    cases i with
    | zero => exact ⟨by simpa using h.1.1, by simpa using h.1.2⟩
    | succ i =>
      have q := matchL_at l r s h.2 (by simpa using hl) i (by simpa using hi)
      simpa using q
theorem proves_safe {time : Int} {d : List Int} {n l : List NNode} (hs : soundR time d n = true) (hm : matchR time d n l = true) : Safe l (fun x => x ∈ d) ∧ ∀ x ∈ d, 0 ≤ x ∧ x < l.length := by
  obtain ⟨hl, hd, hn⟩ := chkR_zero _ _ _ (sound_open hs).1
  have hml : matchL l d n = true := by unfold matchR at hm; rw [Bool.and_eq_true] at hm; exact hm.2
  have hat : ∀ x ∈ d, ∃ y, y ∈ n ∧ l.getD x.toNat z92 = y ∧ x < l.length := fun x hx => by
    obtain ⟨i, hi, e⟩ := List.getElem_of_mem hx
    have e' : d.getD i 0 = x := by rw [← e]; simp [hi]
    have q := matchL_at l d n hml hl i hi
    rw [e'] at q
    exact ⟨n.getD i z92, getD_mem _ n i (by omega), (ndE_eq _ _ q.2).symm, q.1⟩
  refine ⟨fun x hx h0 h1 => ?_, fun x hx => ⟨(deadC_range d (-1) (by omega) hd x hx).1, (hat x hx).choose_spec.2.2⟩⟩
  obtain ⟨y, hy, e, _⟩ := hat x hx
  rw [e]
  have hc := nodesC_mem n hn y hy
  unfold nodeC at hc
  by_cases hy0 : y.f0 = true
  · rw [if_pos hy0] at hc
    refine ⟨hy0, fun free hfr hoff => ?_⟩
    have hwc : waysC y.f1 = 0 := by split at hc; · cases hc
                                    · exact hc
    unfold metG
    rw [hy0]
    simp only [Bool.not_true, Bool.false_or]
    rw [List.any_eq_false]
    intro way hway
    have hlk := (sound_open hs).2 y hy way hway
    obtain ⟨j, _, hj, hlt⟩ := lacksL_at (ofL 0 d) way 0 hlk
    have hmm := getD_mem z96 way j hj
    generalize way.getD j z96 = m at *
    have hmc := termsC_mem way (waysC_mem _ hwc way hway) m hmm
    unfold termC at hmc
    have hmu : unitsB m.f0 = true := by
      cases q : unitsB m.f0
      · rw [q, if_neg (by simp)] at hmc; cases hmc
      · rfl
    rw [hmu, if_pos rfl] at hmc
    obtain ⟨_, hun, hlen⟩ := termL_ok m.f1 _ _ hmc (by omega)
    have hle := comes_le free (ofL 0 d) m.f1 0 0 (fun s _ hq => by
      cases q : hasB (ofL 0 d) s.f0
      · rfl
      · have := hoff _ ((sound_dead hs s.f0).1 q)
        rw [this] at hq; cases hq) hun (by omega) (by omega) (by omega)
    have hlg : lackG free m = true := by unfold lackG; rw [decide_eq_false (by omega)]; rfl
    unfold wayG
    rw [List.any_eq_true.2 ⟨m, hmm, hlg⟩]
    simp
  · rw [if_neg hy0] at hc; cases hc
end Go.Proofs.YtadepdeckapgcaaDoor
end

section
namespace Go.Proofs.YtadepdeckapgcaaDoor
open Go.RowKit Go.Proofs.YtadepdeckapgcaaDoorW.PrintWords Go.Proofs.YtadepdeckapgcaaDoorW.PrintLast Go.Proofs.YtadepdeckapgcaaDoorW.PrintMore PWitnessTells
set_option linter.unusedSimpArgs false
set_option linter.unusedVariables false
structure WtLv (w0 : World) (cs : Array Value) (B : Nat) (time : Int) (D : List Int) (N : List NNode) (v3 : Value) (L : List NNode) (vs : Value) (S : List Int) (wz : World) : Prop where
  x : Blk wz w0.heap.size cs 25
  r : RepR wz B (.agg cs) time D N
  b : B ≤ wz.heap.size
  l : NodesC wz v3 L
  s : IntsC wz vs S
  t : Tb wz
  q : Quiet w0 wz
theorem WtLv.quiet {w0 : World} {cs : Array Value} {B : Nat} {time : Int} {D : List Int} {N : List NNode} {v3 : Value} {L : List NNode} {vs : Value} {S : List Int} {wz wy : World} (h : WtLv w0 cs B time D N v3 L vs S wz) (q : Quiet wz wy) : WtLv w0 cs B time D N v3 L vs S wy :=
  ⟨h.x.quiet q, h.r.quiet q, Nat.le_trans h.b q.size, h.l.quiet q, h.s.quiet q, h.t.quiet q, h.q.quiet q⟩
def mxz (r : Int) : Int := if r < 0 then 0 else r
theorem max_z (ats : Array TypeId) (ty : TypeId) (k k' : IntKind) (r : Int) : Builtin.max_ ats ty #[.int k r, .int k' 0] = pure (.int k (mxz r)) := by
  rw [max_two, max2_int]; rfl
attribute [local go_sem] max_z
end Go.Proofs.YtadepdeckapgcaaDoor
end

section
namespace Go.Proofs.YtadepdeckapgcaaDoor
open Go.RowKit Go.Proofs.YtadepdeckapgcaaDoorW.PrintWords Go.Proofs.YtadepdeckapgcaaDoorW.PrintLast Go.Proofs.YtadepdeckapgcaaDoorW.PrintMore PWitnessTells
set_option linter.unusedSimpArgs false
set_option linter.unusedVariables false
structure WpLv (w0 : World) (cs : Array Value) (time : Int) (D : List Int) (N : List NNode) (v3 : Value) (L : List NNode) (wz : World) : Prop where
  x : Blk wz w0.heap.size cs 25
  r : RepC wz (.agg cs) time D N
  l : NodesC wz v3 L
  t : Tb wz
  q : Quiet w0 wz
theorem WpLv.quiet {w0 : World} {cs : Array Value} {time : Int} {D : List Int} {N : List NNode} {v3 : Value} {L : List NNode} {wz wy : World} (h : WpLv w0 cs time D N v3 L wz) (q : Quiet wz wy) : WpLv w0 cs time D N v3 L wy :=
  ⟨h.x.quiet q, h.r.quiet q, h.l.quiet q, h.t.quiet q, h.q.quiet q⟩
def WpRel (w0 : World) (cs : Array Value) (time : Int) (D : List Int) (N : List NNode) (v3 : Value) (L : List NNode) (i : Value) (wz : World) : Prop := ∃ k : Nat, k ≤ D.length ∧ i = .int .i64 k ∧ WpLv w0 cs time D N v3 L wz
set_option maxRecDepth 100000 in
set_option maxHeartbeats 4000000 in
theorem provesCore (w : World) (hT : Tb w) (time : Int) (A01 : Option Addr) (c01 : Nat) (d : List Int) (A02 : Option Addr) (c02 : Nat) (n : List NNode) (g1 : Kd.C (Kd.int .i64) w A01 d.length d) (g2 : d.length ≤ c01) (g3 : Kd.C k92 w A02 n.length n) (g4 : n.length ≤ c02)
    (Al : Option Addr) (cl : Nat) (l : List NNode) (hl1 : Kd.C k92 w Al l.length l) (hl2 : l.length ≤ cl) :
    Calls Tryd.prog 5 #[.agg #[.int .i64 time, .slice A01 d.length c01, .slice A02 n.length c02], .slice Al l.length cl] w fun e w' => e = .returned (.bool true) ∧ Quiet w w' := by
  have HL0 := Lib.hid hl1
  clear hl1
  have OW := Lib.hid (fun o => wOwn36 (w.alloc o) time A01 c01 d A02 c02 n (Kd.C_below g1 (show Quiet w (w.alloc o) by (repeat (first | exact Fr.refl _ _ | assumption | (refine Fr.quiet ?_ (by assumption)) | refine Fr.quiet ?_ HF.out | refine Fr.quiet ?_ HF2.out | refine Fr.drew ?_ | refine Fr.drewN ?_ _ | refine Fr.alloc ?_ _ | refine Fr.setCell ?_ (.inr (by first | omega | (simp; done) | (simp; omega))) _))).bel) g2 (Kd.C_below g3 (show Quiet w (w.alloc o) by (repeat (first | exact Fr.refl _ _ | assumption | (refine Fr.quiet ?_ (by assumption)) | refine Fr.quiet ?_ HF.out | refine Fr.quiet ?_ HF2.out | refine Fr.drew ?_ | refine Fr.drewN ?_ _ | refine Fr.alloc ?_ _ | refine Fr.setCell ?_ (.inr (by first | omega | (simp; done) | (simp; omega))) _))).bel) g4)
  have HT := Lib.hid hT
  clear hT g1 g3
  have HX0 : Hid (Blk (w.alloc (.cells #[.int .i64 time, .slice A01 d.length c01, .slice A02 n.length c02] 25)) w.heap.size #[.int .i64 time, .slice A01 d.length c01, .slice A02 n.length c02] 25) := Lib.hid (Blk.new _ _ _)
  have HQ0 : Hid (Quiet w (w.alloc (.cells #[.int .i64 time, .slice A01 d.length c01, .slice A02 n.length c02] 25))) := Lib.hid (by (repeat (first | exact Fr.refl _ _ | assumption | (refine Fr.quiet ?_ (by assumption)) | refine Fr.quiet ?_ HF.out | refine Fr.quiet ?_ HF2.out | refine Fr.drew ?_ | refine Fr.drewN ?_ _ | refine Fr.alloc ?_ _ | refine Fr.setCell ?_ (.inr (by first | omega | (simp; done) | (simp; omega))) _)))
  go_enter Tryd.func5, Tryd.ntmps5
  go_wp2_with fail
  refine (OW.out _).mono ?_
  rintro e w1 ⟨v1, v2, rfl, hd, hn, hb⟩
  have q1 := Quiet.of hb
  have HQ1 := Lib.hid (HQ0.out.quiet q1); have HX1 := Lib.hid (HX0.out.quiet q1)
  obtain ⟨D, hD⟩ : ∃ D, D = d.take 70 := ⟨_, rfl⟩
  obtain ⟨N, hN⟩ : ∃ N, N = ownL n := ⟨_, rfl⟩
  rw [← hD] at hd; rw [← hN] at hn
  have HDD : Hid (D.take 70 = D) := Lib.hid (by rw [hD, take_take_same])
  have HNN : Hid (ownL N = N) := Lib.hid (by rw [hN, ownL_idem])
  have HSN : Hid (Sns N) := Lib.hid (by rw [hN]; exact ownL_sns n)
  have HD := Lib.hid hd; have HN := Lib.hid hn
  obtain ⟨A1, c1, hv1⟩ := Kd.R_slice hd
  obtain ⟨A2, c2, hv2⟩ := Kd.R_slice hn
  subst hv1 hv2
  clear hd hn hb q1 HX0 HQ0 OW hD hN
  go_wp2_with fail
  refine (wOwn26 w1 Al cl l (Kd.C_below HL0.out (Quiet.bel HQ1.out)) hl2).mono ?_
  rintro e w2 ⟨v3, rfl, hl3, hb2⟩
  have q2 := Quiet.of hb2
  have HX2 := Lib.hid (HX1.out.quiet q2)
  have HQ2 := Lib.hid (HQ1.out.quiet q2)
  obtain ⟨L, hL⟩ : ∃ L, L = ownL l := ⟨_, rfl⟩
  rw [← hL] at hl3
  have HLL : Hid (ownL L = L) := Lib.hid (by rw [hL, ownL_idem])
  have x0 := HX2.out.cell 0; have x1 := HX2.out.cell 1; have x2 := HX2.out.cell 2
  have f0 := HX2.out.free 0; have f1 := HX2.out.free 1; have f2 := HX2.out.free 2
  simp at x0 x1 x2
  have hX3 := ((HX2.out.set 0 (.int .i64 time)).set 1 (.slice A1 D.length c1)).set 2 (.slice A2 N.length c2)
  have hs1 := HX2.out.set 0 (.int .i64 time)
  have hs2 := (HX2.out.set 0 (.int .i64 time)).set 1 (.slice A1 D.length c1)
  have hR2 := Kd.R_set (Kd.R_set (Kd.R_set (Kd.R_below HD.out q2.bel) HX2.out (by decide) 0 (.int .i64 time)) hs1 (by decide) 1 (.slice A1 D.length c1)) hs2 (by decide) 2 (.slice A2 N.length c2)
  have hN2 := Kd.R_set (Kd.R_set (Kd.R_set (Kd.R_below HN.out q2.bel) HX2.out (by decide) 0 (.int .i64 time)) hs1 (by decide) 1 (.slice A1 D.length c1)) hs2 (by decide) 2 (.slice A2 N.length c2)
  have hL2 := Kd.R_set (Kd.R_set (Kd.R_set hl3 HX2.out (by decide) 0 (.int .i64 time)) hs1 (by decide) 1 (.slice A1 D.length c1)) hs2 (by decide) 2 (.slice A2 N.length c2)
  simp at hX3
  have HQs : Hid (Quiet w (((w2.setCell ⟨w.heap.size, 0, none⟩ (.int .i64 time)).setCell ⟨w.heap.size, 1, none⟩ (.slice A1 D.length c1)).setCell ⟨w.heap.size, 2, none⟩ (.slice A2 N.length c2))) := Lib.hid (((HQ2.out.setCell (.inr (Nat.le_refl _)) _).setCell (.inr (Nat.le_refl _)) _).setCell (.inr (Nat.le_refl _)) _)
  obtain ⟨A3, c3, hv3⟩ := Kd.R_slice hl3
  subst hv3
  have HV : Hid (WpLv w #[.int .i64 time, .slice A1 D.length c1, .slice A2 N.length c2] time D N (.slice A3 L.length c3) L (((w2.setCell ⟨w.heap.size, 0, none⟩ (.int .i64 time)).setCell ⟨w.heap.size, 1, none⟩ (.slice A1 D.length c1)).setCell ⟨w.heap.size, 2, none⟩ (.slice A2 N.length c2))) := Lib.hid (by
    obtain ⟨_, r1, r2⟩ := Kd.R_reads' hR2
    obtain ⟨_, r3, r4⟩ := Kd.R_reads' hN2
    obtain ⟨_, r5, r6⟩ := Kd.R_reads' hL2
    exact ⟨hX3, ⟨A1, c1, A2, c2, rfl, r2, r1, r4, r3⟩, ⟨A3, c3, rfl, r6, r5⟩, HT.out.quiet HQs.out, HQs.out⟩)
  clear hX3 hR2 hN2 hL2 hs1 hs2 hl3 hb2 q2 hL HD HN HX1 HX2 HQ1 HQ2 HQs HT
  have H3 : Hid (∀ W, Blk W w.heap.size #[.int .i64 time, .slice A1 D.length c1, .slice A2 N.length c2] 25 → W.cell? ⟨w.heap.size, 0, none⟩ = some (.int .i64 time) ∧ W.cell? ⟨w.heap.size, 1, none⟩ = some (.slice A1 D.length c1) ∧ W.cell? ⟨w.heap.size, 2, none⟩ = some (.slice A2 N.length c2)) := Lib.hid (fun W h => ⟨by have q := h.cell 0; simp at q; exact q, by have q := h.cell 1; simp at q; exact q, by have q := h.cell 2; simp at q; exact q⟩)
  go_upto_region 2 with fail
  generalize ((w2.setCell ⟨w.heap.size, 0, none⟩ (.int .i64 time)).setCell ⟨w.heap.size, 1, none⟩ (.slice A1 D.length c1)).setCell ⟨w.heap.size, 2, none⟩ (.slice A2 N.length c2) = w3 at *
  clear x0 x1 x2 f0 f1 f2
  obtain ⟨c0, c1', c2'⟩ := H3.out _ HV.out.x
  by_cases h64 : 64 < L.length
  · have h64' : (64 : Int) < (L.length : Int) := by omega
    clear h64
    go_wp2_with fail
    refine (cLives _ HV.out.t).mono ?_
    rintro e w9 ⟨rfl, hq⟩
    have HQ := Lib.hid (HV.out.q.quiet hq)
    clear hq
    go_wp2
    go_ret
    exact ⟨rfl, HQ.out⟩
  have h64' : ¬ (64 : Int) < (L.length : Int) := by omega
  go_wp2_with fail
  refine (cOwn36 HV.out.r).mono ?_
  rintro e w4 ⟨v16, rfl, hr, hq⟩
  have HR : Hid (RepC w4 v16 time D N) := Lib.hid (by have q := hr.c; rw [HDD.out, HNN.out] at q; exact q)
  have Hn := Lib.hid (HV.out.quiet hq)
  clear HV hr hq c0 c1' c2'
  have HV := Hn
  clear Hn
  obtain ⟨c0, c1', c2'⟩ := H3.out _ HV.out.x
  go_wp2_with fail
  refine (cSound HR.out).mono ?_
  rintro e w5 ⟨rfl, hq⟩
  have Hn := Lib.hid (HV.out.quiet hq)
  clear HV hq c0 c1' c2'
  have HV := Hn
  clear Hn
  obtain ⟨c0, c1', c2'⟩ := H3.out _ HV.out.x
  cases hs : soundR time D N
  · clear HR
    go_wp2_with fail
    refine (cLives _ HV.out.t).mono ?_
    rintro e w9 ⟨rfl, hq⟩
    have HQ := Lib.hid (HV.out.q.quiet hq)
    clear hq
    go_wp2
    go_ret
    exact ⟨rfl, HQ.out⟩
  go_wp2_with fail
  clear HR
  refine (cOwn36 HV.out.r).mono ?_
  rintro e w6 ⟨v22, rfl, hr, hq⟩
  have HR2 : Hid (RepC w6 v22 time D N) := Lib.hid (by have q := hr.c; rw [HDD.out, HNN.out] at q; exact q)
  have Hn := Lib.hid (HV.out.quiet hq)
  clear HV hr hq c0 c1' c2'
  have HV := Hn
  clear Hn
  obtain ⟨c0, c1', c2'⟩ := H3.out _ HV.out.x
  go_wp2_with fail
  obtain ⟨A3', c3', e3, hc3, hl3'⟩ := HV.out.l
  injection e3 with e3 _ e3c
  subst e3 e3c
  refine (cOwn26 HV.out.l).mono ?_
  rintro e w7 ⟨v24, rfl, hl7, hq⟩
  rw [HLL.out] at hl7
  have HR3 := Lib.hid (HR2.out.quiet hq); have HL7 := Lib.hid hl7
  clear hl7 hc3 HR2
  have Hn := Lib.hid (HV.out.quiet hq)
  clear HV hq c0 c1' c2'
  have HV := Hn
  clear Hn
  obtain ⟨c0, c1', c2'⟩ := H3.out _ HV.out.x
  go_wp2_with fail
  refine (cMatch HR3.out HL7.out).mono ?_
  rintro e w8 ⟨rfl, hq⟩
  have Hn := Lib.hid (HV.out.quiet hq)
  clear HV hq c0 c1' c2'
  have HV := Hn
  clear Hn
  obtain ⟨c0, c1', c2'⟩ := H3.out _ HV.out.x
  clear HR3 HL7
  cases hm : matchR time D N L
  · go_wp2_with fail
    refine (cLives _ HV.out.t).mono ?_
    rintro e w9 ⟨rfl, hq⟩
    have HQ := Lib.hid (HV.out.q.quiet hq)
    clear hq
    go_wp2
    go_ret
    exact ⟨rfl, HQ.out⟩
  obtain ⟨hsafe, hin⟩ := proves_safe hs hm
  have HSf := Lib.hid hsafe; have HIn := Lib.hid hin
  clear hsafe hin hs hm
  go_wp2_with fail
  refine (cOwn26 HV.out.l).mono ?_
  rintro e w10 ⟨v30, rfl, hl7, hq⟩
  rw [HLL.out] at hl7
  obtain ⟨A4, c4, rfl, hc4, hl4⟩ := hl7
  have HC4 := Lib.hid hc4
  clear hc4
  have Hn := Lib.hid (HV.out.quiet hq)
  clear HV hq c0 c1' c2'
  have HV := Hn
  clear Hn
  obtain ⟨c0, c1', c2'⟩ := H3.out _ HV.out.x
  go_wp2_with fail
  refine (wDoomed _ HV.out.t A4 c4 L HC4.out (by omega) (fun x => x ∈ D) HSf.out).mono ?_
  rintro e w11 ⟨s, rfl, hsl, hall, hq⟩
  have HSL := Lib.hid hsl; have HAl := Lib.hid hall
  clear hsl hall HC4
  have Hn := Lib.hid (HV.out.quiet hq)
  clear HV hq c0 c1' c2'
  have HV := Hn
  clear Hn
  obtain ⟨c0, c1', c2'⟩ := H3.out _ HV.out.x
  have HRD : Hid (∀ W, WpLv w #[.int .i64 time, .slice A1 D.length c1, .slice A2 N.length c2] time D N (.slice A3 L.length c3) L W → Kd.C (Kd.int .i64) W A1 D.length D) := Lib.hid (fun W h => by
    obtain ⟨a1, b1, a2, b2, e, q1, q2, q3, q4⟩ := h.r
    simp only [Value.agg.injEq, Array.mk.injEq, List.cons.injEq, Value.slice.injEq] at e
    obtain ⟨_, ⟨rfl, _, _⟩, _⟩ := e
    exact q1)
  have hdl := (HRD.out _ HV.out).2.1
  go_wp2
  go_loopw [6] (fun i wr => WpRel w #[.int .i64 time, .slice A1 D.length c1, .slice A2 N.length c2] time D N (.slice A3 L.length c3) L i wr) (fun i _ => D.length - (intOf i).toNat)
  case atStart => exact ⟨0, Nat.zero_le _, rfl, HV.out⟩
  case round =>
    obtain ⟨wy, hwy⟩ : ∃ x, x = wr := ⟨_, rfl⟩
    subst hwy
    obtain ⟨k, hk, rfl, hv⟩ := hrel
    clear HV c0 c1' c2'
    obtain ⟨c0, c1', c2'⟩ := H3.out _ hv.x
    have HV := Lib.hid hv
    by_cases hlt : k < D.length
    · obtain ⟨a5, hA5, g5⟩ := at_ints (HRD.out _ hv) k hlt
      have hmm := getD_mem 0 D k hlt
      have hx := HAl.out (D.getD k 0) hmm (HIn.out _ hmm).1 (HIn.out _ hmm).2
      generalize D.getD k 0 = y at *
      subst hA5
      have HS := Lib.hid (wRHas wy s HSL.out y)
      rw [hx] at HS
      clear hv hx hmm
      go_wp2_with fail
      refine HS.out.mono ?_
      rintro e w12 ⟨rfl, hq⟩
      have HV2 := Lib.hid (HV.out.quiet hq)
      clear hq
      go_wp2
      go_roundw
      case rel => exact ⟨k + 1, by omega, by go_num, HV2.out⟩
      case measure => simp [intOf]; omega
    · clear hv
      go_wp2_with fail
      refine (cLives _ HV.out.t).mono ?_
      rintro e w9 ⟨rfl, hq⟩
      have HQ := Lib.hid (HV.out.q.quiet hq)
      clear hq
      go_wp2
      go_ret
      exact ⟨rfl, HQ.out⟩
theorem witnessProvesW (W : World) (hT : Tb W) (cs0 : Array Value) (a0 : Int × List Int × List (Bool × List (List (Int × List (Int × Int))))) (e0 : shRep.rd W W.heap.size a0 cs0.toList) (v1 : Value) (a1 : List (Bool × List (List (Int × List (Int × Int))))) (e1 : (shL shNode).rd W W.heap.size a1 [v1]) :
    Calls Tryd.prog 5 #[.agg cs0, v1] W fun e w' => e = .returned (.bool true) ∧ Quiet W w' := by
  obtain ⟨A1, c1, A2, c2, e, g1, g2, g3, g4⟩ := rep_of e0
  obtain ⟨Al, cl, rfl, h1, h2⟩ := nodes_of e1
  rw [e]
  exact provesCore W hT _ A1 c1 _ A2 c2 _ g1 g2 g3 g4 Al cl _ h1 h2
end Go.Proofs.YtadepdeckapgcaaDoor
end
