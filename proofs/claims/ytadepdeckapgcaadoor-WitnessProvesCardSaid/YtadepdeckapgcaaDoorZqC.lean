/- LawWitnessProves, part 3: what the proof stands on (merged by wip/shake.py out of the session's texts and of what the print wrote for this claim). -/
import Derived.Test.YtadepdeckapgcaaDoorZqB

section
namespace Go.Proofs.YtadepdeckapgcaaDoor
open Go.RowKit Go.Proofs.YtadepdeckapgcaaDoorW.PrintWords Go.Proofs.YtadepdeckapgcaaDoorW.PrintLast Go.Proofs.YtadepdeckapgcaaDoorW.PrintMore PWitnessTells
set_option linter.unusedSimpArgs false
set_option linter.unusedVariables false
theorem add_zero' (a : Addr) : a.add 0 = a := by unfold Addr.add; simp
theorem lacksL_range (dead : Nat) : ∀ (l : List NTerm) (i : Nat), lacksL dead i l = -1 ∨ ∃ j : Nat, lacksL dead i l = ((i + j : Nat) : Int) ∧ j < l.length := by
  intro l
  induction l with
  | nil => intro i; exact .inl rfl
  | cons m r ih =>
    intro i
    rw [lacksL_cons]
    by_cases h : comesL dead 0 m.f1 < m.f0
    · rw [if_pos h]; exact .inr ⟨0, by simp, by simp⟩
    · rw [if_neg h]
      rcases ih (i + 1) with q | ⟨j, q1, q2⟩
      · exact .inl q
      · exact .inr ⟨j + 1, by rw [q1]; omega, by simpa using q2⟩
def lackK (time : Int) (d : List Int) (n : List NNode) (t : Int) : Int := if 0 ≤ lackR time d n t then lackR time d n t else 0
def lackB (time : Int) (d : List Int) (n : List NNode) (t : Int) : Bool := decide (0 ≤ lackR time d n t)
set_option maxRecDepth 100000 in
set_option maxHeartbeats 2000000 in
theorem wLack (w : World) (time : Int) (A1 : Option Addr) (c1 : Nat) (d : List Int) (A2 : Option Addr) (c2 : Nat) (n : List NNode) (h1 : Kd.C (Kd.int .i64) w A1 d.length d) (h2 : d.length ≤ c1) (h3 : Kd.C k92 w A2 n.length n) (h4 : n.length ≤ c2) (t : Int) :
    Calls Tryd.prog 15 #[.agg #[.int .i64 time, .slice A1 d.length c1, .slice A2 n.length c2], .int .i64 t] w fun e w' => e = .returned (.tuple #[.int .i64 0, .int .i64 (lackK time d n t), .bool (lackB time d n t)]) ∧ Quiet w w' := by
  have hbx : ∀ o, Quiet w (w.alloc o) := fun o => by (repeat (first | exact Fr.refl _ _ | assumption | (refine Fr.quiet ?_ (by assumption)) | refine Fr.quiet ?_ HF.out | refine Fr.quiet ?_ HF2.out | refine Fr.drew ?_ | refine Fr.drewN ?_ _ | refine Fr.alloc ?_ _ | refine Fr.setCell ?_ (.inr (by first | omega | (simp; done) | (simp; omega))) _))
  have CH := Lib.hid (fun wz (q : Quiet w wz) => wChk wz time A1 c1 d A2 c2 n (Kd.C_below h1 q.bel) h2 (Kd.C_below h3 q.bel) h4)
  have BS := Lib.hid (fun wz (q : Quiet w wz) => wBs wz A1 c1 d t (Kd.C_below h1 q.bel) h2)
  have OF := Lib.hid (fun wz (q : Quiet w wz) => wOf wz A1 c1 d (Kd.C_below h1 q.bel) h2)
  have HN := Lib.hid h3
  have hm3 := h3.2.1
  clear h1 h3
  have none_ : lackR time d n t = -1 → Hid (lackK time d n t = 0 ∧ lackB time d n t = false) := fun q => by unfold lackK lackB; rw [q]; exact Lib.hid ⟨by simp, by simp⟩
  have hB : Hid (∀ wz, Quiet (w.alloc (.cells #[.int .i64 time, .slice A1 d.length c1, .slice A2 n.length c2] 25)) wz → wz.cell? ⟨w.heap.size, 0, none⟩ = some (.int .i64 time) ∧ wz.cell? ⟨w.heap.size, 1, none⟩ = some (.slice A1 d.length c1) ∧ wz.cell? ⟨w.heap.size, 2, none⟩ = some (.slice A2 n.length c2)) := by
    intro wz q
    exact ⟨q.cell (by simp) (fun x => x), q.cell (by simp) (fun x => x), q.cell (by simp) (fun x => x)⟩
  have hN := none_
  clear none_
  by_cases c0 : chkR time d n = 0
  · obtain ⟨hlen, hdc, _⟩ := chkR_zero _ _ _ c0
    have E0 : lackR time d n t = if findL t 0 d < 0 then -1 else if (n.getD (findL t 0 d).toNat z92).f1.length = 0 then -1 else lacksL (ofL 0 d) 0 ((n.getD (findL t 0 d).toNat z92).f1.getD 0 []) := by unfold lackR; rw [if_pos c0]
    have hdl := ofL_lt d 0 (by decide)
    rw [c0] at CH
    generalize ofL 0 d = dead at *
    have HE0 := Lib.hid E0; have HDC := Lib.hid hdc; have HLen := Lib.hid hlen; have HNo := Lib.hid hN
    clear c0 E0 hdc hlen hN
    go_enter Tryd.func15, Tryd.ntmps15
    go_wp2_with fail
    refine (BS.out _ (hbx _)).mono ?_
    rintro e w1 ⟨⟨i, b, hbs, rfl⟩, nn, rfl⟩
    obtain ⟨f1, f2⟩ := bs_find d t i b hbs HDC.out
    cases b
    · have hz : lackR time d n t = -1 := by rw [HE0.out, f2 rfl]; simp
      obtain ⟨z1, z2⟩ := (HNo.out hz).out
      have HZ := Lib.hid (And.intro z1 z2)
      clear hz z1 z2 f1 f2 hbs
      go_wp2
      go_ret3
      rw [HZ.out.1, HZ.out.2]
      exact ⟨rfl, (hbx _).drewN _⟩
    · have hf := f1 rfl
      obtain ⟨j, q1, q2, q3⟩ := hbs.1 rfl
      simp only at q1
      subst q1
      have hjn : j < n.length := by rw [← HLen.out]; exact q2
      rw [hf] at HE0
      have HE1 : lackR time d n t = if (n.getD j z92).f1.length = 0 then -1 else lacksL dead 0 ((n.getD j z92).f1.getD 0 []) := by
        rw [HE0.out, if_neg (by omega)]; rfl
      clear HE0 hf f1 f2 hbs q3
      obtain ⟨hz0, hz1, hz2⟩ := hB.out _ ((Fr.refl _ _).drewN nn)
      have hj0 : (0 : Int) ≤ (j : Int) := by omega
      have hj1 : (j : Int) < (n.length : Int) := by omega
      have HQn : Hid (Quiet w ((w.alloc (.cells #[.int .i64 time, .slice A1 d.length c1, .slice A2 n.length c2] 25)).drewN nn)) := (hbx _).drewN _
      generalize ((w.alloc (.cells #[.int .i64 time, .slice A1 d.length c1, .slice A2 n.length c2] 25)).drewN nn) = w1 at *
      have hs := HQn.out.size
      go_wp2_with fail
      refine (CH.out _ HQn.out).mono ?_
      rintro e w2 ⟨rfl, hq2⟩
      have HQ2 : Hid (Quiet w w2) := HQn.out.quiet hq2
      obtain ⟨bd, B1, d1, eB, y0, y1, l2, g2⟩ := at_T92 (Kd.C_below HN.out HQ2.out.bel) j (by omega) (by omega)
      have r2 : rd_T92 n (j : Int) = n.getD j z92 := rfl
      rw [r2] at y0 y1 l2 g2
      generalize n.getD j z92 = x at *
      simp only [Int.toNat_natCast] at y0 y1
      have hz1' := hq2.cellA hz1
      have hz2' := hq2.cellA hz2
      subst eB
      have hm2 := g2.2.1
      clear hz0 hz1 hz2 hq2 r2
      by_cases hx0 : x.f1.length = 0
      · have hz : lackR time d n t = -1 := by rw [HE1, if_pos hx0]
        obtain ⟨z1, z2⟩ := (HNo.out hz).out
        have HZ := Lib.hid (And.intro z1 z2)
        have hx0' : ((x.f1.length : Int) == 0) = true := by rw [hx0]; rfl
        clear hz z1 z2 HE1 hx0 g2
        go_wp2
        go_ret3
        rw [HZ.out.1, HZ.out.2]
        exact ⟨rfl, HQ2.out⟩
      · rw [if_neg hx0] at HE1
        have hxp : (0 : Int) < (x.f1.length : Int) := by clear hz1' hz2' HE1; omega
        obtain ⟨ad4, A4, c4, hA4, z0, hl4, hC5⟩ := at_L5 g2 0 (Int.le_refl 0) hxp
        have r3 : rd_L5 x.f1 0 = x.f1.getD 0 [] := rfl
        rw [r3] at z0 hl4 hC5
        generalize x.f1.getD 0 [] = way at *
        simp only [Int.toNat_zero] at z0
        rw [add_zero'] at z0
        have hxp' : 0 < x.f1.length := by clear hz1' hz2'; omega
        have hx0' : ((x.f1.length : Int) == 0) = false := by rw [beq_eq_false_iff_ne]; clear hz1' hz2'; omega
        subst hA4
        have LK := Lib.hid (fun wz (q : Quiet w2 wz) => wLacks wz way A4 c4 (Kd.C_below hC5 q.bel) hl4 dead hdl)
        have HE := Lib.hid HE1
        clear HE1 hC5 g2 r3 hx0
        have HS : Hid (∀ w', Quiet w2 w' → w'.cell? ⟨w.heap.size, 1, none⟩ = some (.slice A1 d.length c1) ∧ w'.cell? ⟨w.heap.size, 2, none⟩ = some (.slice (some bd) n.length c2) ∧ w'.cell? ⟨(bd.add (j * 2)).block, (bd.add (j * 2)).off + 1, none⟩ = some (.slice (some ad4) x.f1.length d1) ∧ w'.cell? ad4 = some (.slice A4 way.length c4) ∧ Quiet w2 w') :=
          fun w' q => ⟨q.cellA hz1', q.cellA hz2', q.cellA y1, q.cellA z0, q⟩
        generalize hr : lacksL dead 0 way = r at *
        have hrr : r = -1 ∨ ∃ j : Nat, r = ((0 + j : Nat) : Int) ∧ j < way.length := by rw [← hr]; exact lacksL_range dead way 0
        clear hr
        go_wp2_with fail
        clear hz1' hz2' y0 y1 z0
        go_cut [9] (fun s wx => s = .int .i64 r ∧ Quiet w2 wx)
        case first =>
          go_region_held3 (fun w' => w'.cell? ⟨w.heap.size, 1, none⟩ = some (.slice A1 d.length c1) ∧ w'.cell? ⟨w.heap.size, 2, none⟩ = some (.slice (some bd) n.length c2) ∧ w'.cell? ⟨(bd.add (j * 2)).block, (bd.add (j * 2)).off + 1, none⟩ = some (.slice (some ad4) x.f1.length d1) ∧ w'.cell? ad4 = some (.slice A4 way.length c4) ∧ Quiet w2 w')
            (exact HS.out _ (by first | assumption | exact Fr.refl _ _ | exact (Fr.refl _ _).drew))
            (first
              | (go_at_call 57; refine (OF.out _ (HQ2.out.quiet (by first | assumption | exact Fr.refl _ _ | exact (Fr.refl _ _).drew))).mono ?_; rintro e w' ⟨rfl, rfl⟩)
              | (go_at_call 56; refine (LK.out _ (by first | assumption | exact Fr.refl _ _ | exact (Fr.refl _ _).drew)).mono ?_; rintro e w' ⟨rfl, hf⟩; replace hf := hf.undrew))
          all_goals (go_wp2_with fail; go_meet)
          all_goals exact ⟨rfl, hf⟩
        case rest =>
          obtain ⟨rfl, hf⟩ := hcut
          have HF := Lib.hid hf
          clear hf
          by_cases hr0 : r < 0
          · have hz : lackR time d n t = -1 := by rw [HE.out]; rcases hrr with q | ⟨q, q1, _⟩ <;> omega
            obtain ⟨z1, z2⟩ := (HNo.out hz).out
            have HZ := Lib.hid (And.intro z1 z2)
            have hr0' := decide_eq_true hr0
            clear hz z1 z2 hrr
            go_wp2
            go_ret3
            rw [HZ.out.1, HZ.out.2]
            exact ⟨rfl, HQ2.out.quiet HF.out⟩
          · have HZ : Hid (lackK time d n t = r ∧ lackB time d n t = true) := by
              unfold lackK lackB; rw [HE.out]; exact Lib.hid ⟨if_pos (by omega), decide_eq_true (by omega)⟩
            have hr0' := decide_eq_false hr0
            clear hrr
            go_wp2
            go_ret3
            rw [HZ.out.1, HZ.out.2]
            exact ⟨rfl, HQ2.out.quiet HF.out⟩
  · have hz : lackR time d n t = -1 := by unfold lackR; rw [if_neg c0]
    obtain ⟨z1, z2⟩ := (hN hz).out
    have HZ := Lib.hid (And.intro z1 z2)
    have c1' : (chkR time d n != 0) = true := by simpa using c0
    clear hz z1 z2 hN c0
    go_enter Tryd.func15, Tryd.ntmps15
    go_wp2_with fail
    refine (BS.out _ (hbx _)).mono ?_
    rintro e w1 ⟨⟨i, b, hbs, rfl⟩, nn, rfl⟩
    obtain ⟨hz0, hz1, hz2⟩ := hB.out _ ((Fr.refl _ _).drewN nn)
    clear hbs
    cases b
    · go_wp2
      go_ret3
      rw [HZ.out.1, HZ.out.2]
      exact ⟨rfl, (hbx _).drewN _⟩
    · go_wp2_with (go_at_call 40; refine (CH.out _ ((hbx _).drewN _)).mono ?_; rintro e w' ⟨rfl, hf⟩; have HF := Lib.hid hf; clear hf)
      go_ret3
      rw [HZ.out.1, HZ.out.2]
      exact ⟨rfl, ((hbx _).drewN _).quiet HF.out⟩
end Go.Proofs.YtadepdeckapgcaaDoor
end

section
namespace Go.Proofs.YtadepdeckapgcaaDoor
open Go.RowKit Go.Proofs.YtadepdeckapgcaaDoorW.PrintWords Go.Proofs.YtadepdeckapgcaaDoorW.PrintLast Go.Proofs.YtadepdeckapgcaaDoorW.PrintMore PWitnessTells
set_option linter.unusedSimpArgs false
set_option linter.unusedVariables false
theorem infoInt : (Tryd.prog.info? 3).map (fun i => (i.zero, i.size, i.bytes)) = some (some (.int .i64 0), 1, 8) := by kernel_rfl
def partZ (s : Nat) (d : List Int) (n : List NNode) : List (Int × NNode) := (d.zip n).filter fun q => hasB s q.1
def partT (time : Int) (d : List Int) (n : List NNode) : Int := if chkR time d n = 0 then time else 0
def partD (s : Nat) (time : Int) (d : List Int) (n : List NNode) : List Int := if chkR time d n = 0 then (partZ s d n).map Prod.fst else []
def partN (s : Nat) (time : Int) (d : List Int) (n : List NNode) : List NNode := if chkR time d n = 0 then (partZ s d n).map Prod.snd else []
theorem zip_getD (d : List Int) (n : List NNode) (k : Nat) (h : k < d.length) (hl : d.length = n.length) : (d.zip n).getD k (0, z92) = (d.getD k 0, n.getD k z92) := by
  have h1 : k < (d.zip n).length := by simp; omega
  have h2 : k < n.length := by omega
  rw [List.getD_eq_getElem?_getD, List.getElem?_eq_getElem h1]
  simp [h, h2]
theorem part_step (s : Nat) (d : List Int) (n : List NNode) (k : Nat) (h : k < d.length) (hl : d.length = n.length) :
    ((d.zip n).take (k + 1)).filter (fun q => hasB s q.1) = ((d.zip n).take k).filter (fun q => hasB s q.1) ++ (if hasB s (d.getD k 0) then [(d.getD k 0, n.getD k z92)] else []) := by
  rw [take_snoc' (0, z92) (d.zip n) k (by simp; omega), List.filter_append, zip_getD d n k h hl]
  congr 1
  by_cases q : hasB s (d.getD k 0) = true
  · rw [List.filter_cons_of_pos (by exact q), List.filter_nil, if_pos q]
  · rw [List.filter_cons_of_neg (by exact q), List.filter_nil, if_neg q]
structure PtAt (w : World) (R Y : Nat) (time : Int) (xs : Array Value) (vd vn : Value) (dd : List Int) (nn : List NNode) (wr : World) : Prop where
  x : Blk wr w.heap.size xs 25
  r : Blk wr R #[.int .i64 0, .slice none 0 0, .slice none 0 0] 25
  y : Blk wr Y #[.int .i64 time, vd, vn] 25
  od : (Kd.int .i64).R 3 wr w.heap.size Any_ vd dd
  on : k92.R 92 wr w.heap.size Any_ vn nn
  b : Below w.heap.size w wr
theorem PtAt.quiet {w : World} {R Y : Nat} {time : Int} {xs : Array Value} {vd vn : Value} {dd : List Int} {nn : List NNode} {wr wz : World} (h : PtAt w R Y time xs vd vn dd nn wr) (q : Quiet wr wz) : PtAt w R Y time xs vd vn dd nn wz :=
  ⟨q.blk h.x (fun x => x), q.blk h.r (fun x => x), q.blk h.y (fun x => x), Kd.R_below h.od q.bel, Kd.R_below h.on q.bel, below_then h.b h.b.size q.bel⟩
theorem PtAt.growD {w : World} {R Y : Nat} {time : Int} {xs : Array Value} {vd vn v1 : Value} {dd de : List Int} {nn : List NNode} {wr wz : World} (h : PtAt w R Y time xs vd vn dd nn wr) (hRY : R ≠ Y) (hXY : w.heap.size < Y) (hg : wr.grownBy wz vd.ownBlock) (ho : (Kd.int .i64).R 3 wz w.heap.size Any_ v1 de) :
    PtAt w R Y time xs v1 vn de nn (wz.setCell ⟨Y, 1, none⟩ v1) := by
  obtain ⟨inner, own⟩ := Kd.R_own h.od
  have y2 := grown_blk hg h.y (own_not_blk h.y own (by decide))
  have o2 := Kd.R_grown (Kd.R_apartR h.on h.od (by decide)) hg (fun k hk => hk.2)
  refine ⟨(grown_blk hg h.x (own_not_blk h.x own (by decide))).set_other (by show Y ≠ _; omega) _, (grown_blk hg h.r (own_not_blk h.r own (by decide))).set_other (by show Y ≠ _; omega) _, by simpa using y2.set 1 v1, Kd.R_set ho y2 (by decide) 1 v1, Kd.R_set (Kd.R_drop o2) y2 (by decide) 1 v1, (h.b.grown hg h.b.size (fun k hk => own_base own k hk)).setCell (by show w.heap.size ≤ Y; omega) _⟩
theorem PtAt.growN {w : World} {R Y : Nat} {time : Int} {xs : Array Value} {vd vn v1 : Value} {dd : List Int} {nn ne : List NNode} {wr wz : World} (h : PtAt w R Y time xs vd vn dd nn wr) (hRY : R ≠ Y) (hXY : w.heap.size < Y) (hg : wr.grownBy wz vn.ownBlock) (ho : k92.R 92 wz w.heap.size Any_ v1 ne) :
    PtAt w R Y time xs vd v1 dd ne (wz.setCell ⟨Y, 2, none⟩ v1) := by
  obtain ⟨inner, own⟩ := Kd.R_own h.on
  have y2 := grown_blk hg h.y (own_not_blk h.y own (by decide))
  have o2 := Kd.R_grown (Kd.R_apartR h.od h.on (by decide)) hg (fun k hk => hk.2)
  refine ⟨(grown_blk hg h.x (own_not_blk h.x own (by decide))).set_other (by show Y ≠ _; omega) _, (grown_blk hg h.r (own_not_blk h.r own (by decide))).set_other (by show Y ≠ _; omega) _, by simpa using y2.set 2 v1, Kd.R_set (Kd.R_drop o2) y2 (by decide) 2 v1, Kd.R_set ho y2 (by decide) 2 v1, (h.b.grown hg h.b.size (fun k hk => own_base own k hk)).setCell (by show w.heap.size ≤ Y; omega) _⟩
def PtRel (w : World) (R Y : Nat) (time : Int) (xs : Array Value) (s : Nat) (d : List Int) (n : List NNode) (i : Value) (wr : World) : Prop :=
  ∃ (k : Nat) (vd vn : Value), k ≤ d.length ∧ i = .int .i64 k ∧ PtAt w R Y time xs vd vn ((((d.zip n).take k).filter (fun q => hasB s q.1)).map Prod.fst) ((((d.zip n).take k).filter (fun q => hasB s q.1)).map Prod.snd) wr
set_option maxRecDepth 100000 in
set_option maxHeartbeats 400000 in
theorem wPart (w : World) (time : Int) (A1 : Option Addr) (c1 : Nat) (d : List Int) (A2 : Option Addr) (c2 : Nat) (n : List NNode) (h1 : Kd.C (Kd.int .i64) w A1 d.length d) (h2 : d.length ≤ c1) (h3 : Kd.C k92 w A2 n.length n) (h4 : n.length ≤ c2)
    (A3 : Option Addr) (c3 : Nat) (l : List Int) (h5 : Kd.C (Kd.int .i64) w A3 l.length l) (h6 : l.length ≤ c3) (hS : Sns n) :
    Calls Tryd.prog 25 #[.agg #[.int .i64 time, .slice A1 d.length c1, .slice A2 n.length c2], .slice A3 l.length c3] w fun e w' =>
      ∃ v1 v2, e = .returned (.agg #[.int .i64 (partT time d n), v1, v2]) ∧ (Kd.int .i64).R 3 w' w.heap.size Any_ v1 (partD (ofL 0 l) time d n) ∧ k92.R 92 w' w.heap.size Any_ v2 (partN (ofL 0 l) time d n) ∧ Below w.heap.size w w' := by
  have hm1 := h1.2.1
  have hm3 := h3.2.1
  have hbx : ∀ o o', Quiet w ((w.alloc o).alloc o') := fun o o' => by (repeat (first | exact Fr.refl _ _ | assumption | (refine Fr.quiet ?_ (by assumption)) | refine Fr.quiet ?_ HF.out | refine Fr.quiet ?_ HF2.out | refine Fr.drew ?_ | refine Fr.drewN ?_ _ | refine Fr.alloc ?_ _ | refine Fr.setCell ?_ (.inr (by first | omega | (simp; done) | (simp; omega))) _))
  have CH := Lib.hid (fun o o' => wChk ((w.alloc o).alloc o') time A1 c1 d A2 c2 n (Kd.C_below h1 (hbx o o').bel) h2 (Kd.C_below h3 (hbx o o').bel) h4)
  have OF := Lib.hid (fun wz (q : Quiet w wz) => wOf wz A3 c3 l (Kd.C_below h5 q.bel) h6)
  have HD := Lib.hid h1; have HN := Lib.hid h3; have HS := Lib.hid hS
  clear h1 h3 h5 hS
  have HX0 : Hid (Blk ((w.alloc (.cells #[.int .i64 time, .slice A1 d.length c1, .slice A2 n.length c2] 25)).alloc (.cells #[.int .i64 0, .slice none 0 0, .slice none 0 0] 25)) w.heap.size #[.int .i64 time, .slice A1 d.length c1, .slice A2 n.length c2] 25) := Lib.hid ((Blk.new _ _ _).alloc _)
  have HR0 : Hid (Blk ((w.alloc (.cells #[.int .i64 time, .slice A1 d.length c1, .slice A2 n.length c2] 25)).alloc (.cells #[.int .i64 0, .slice none 0 0, .slice none 0 0] 25)) (w.heap.size + 1) #[.int .i64 0, .slice none 0 0, .slice none 0 0] 25) := Lib.hid (by
    have q := Blk.new (w.alloc (.cells #[.int .i64 time, .slice A1 d.length c1, .slice A2 n.length c2] 25)) #[.int .i64 0, .slice none 0 0, .slice none 0 0] 25
    simpa using q)
  by_cases c0 : chkR time d n = 0
  · have HLn := Lib.hid (chkR_zero _ _ _ c0).1
    have hdb : d.length ≤ 1000000 := by have := HLn.out; have := HS.out.1; omega
    have ET : Hid (partT time d n = time) := Lib.hid (if_pos c0)
    have ED : Hid (partD (ofL 0 l) time d n = (partZ (ofL 0 l) d n).map Prod.fst) := Lib.hid (if_pos c0)
    have EN : Hid (partN (ofL 0 l) time d n = (partZ (ofL 0 l) d n).map Prod.snd) := Lib.hid (if_pos c0)
    have hsl := ofL_lt l 0 (by decide)
    have EZ : Hid (partZ (ofL 0 l) d n = ((d.zip n).take d.length).filter fun q => hasB (ofL 0 l) q.1) := Lib.hid (by have := HLn.out; rw [List.take_of_length_le (by simp; omega)]; rfl)
    rw [c0] at CH
    generalize ofL 0 l = s at *
    clear c0
    go_enter Tryd.func25, Tryd.ntmps25
    go_wp2_with fail
    refine (CH.out _ _).mono ?_
    rintro e w1 ⟨rfl, hq1⟩
    have HX1 := Lib.hid (Fr.blk hq1 HX0.out (fun x => x))
    have HR1 := Lib.hid (Fr.blk hq1 HR0.out (fun x => x))
    have hR1 : w.heap.size + 1 < w1.heap.size := HR1.out.lt
    have HQ1 := Lib.hid ((hbx _ _).quiet hq1)
    have x0 := HX1.out.cell 0; have x1 := HX1.out.cell 1; have x2 := HX1.out.cell 2
    simp at x0 x1 x2
    have HQd : Hid (Quiet w w1.drew) := Lib.hid HQ1.out.drew
    have HQa : Hid (∀ o, Quiet w (w1.alloc o).drew) := Lib.hid (fun o => (HQ1.out.alloc o).drew)
    have hX1 : w.heap.size < w1.heap.size := HX1.out.lt
    have xa : ∀ o, (w1.alloc o).cell? ⟨w.heap.size, 0, none⟩ = some (.int .i64 time) := fun o => by simpa using (HX1.out.alloc o).cell 0
    clear hq1 HX0 HR0
    have HP0 : Hid (PtAt w (w.heap.size + 1) w1.heap.size time #[.int .i64 time, .slice A1 d.length c1, .slice A2 n.length c2] (.slice none 0 0) (.slice none 0 0) [] [] (w1.alloc (.cells #[.int .i64 time, .slice none 0 0, .slice none 0 0] 25)).drew) := Lib.hid ⟨(HX1.out.alloc _).drew, (HR1.out.alloc _).drew, (Blk.new _ _ _).drew, Kd.R_nil _ _ _ _ _, Kd.R_nil _ _ _ _ _, ((Quiet.bel HQ1.out).alloc HQ1.out.size _).drew⟩
    go_wp2_with fail
    go_cut [5, 6] (fun p q wx => p = .pointer (some ⟨w1.heap.size, 0, none⟩) ∧ q = .int .u64 (s : Nat) ∧ PtAt w (w.heap.size + 1) w1.heap.size time #[.int .i64 time, .slice A1 d.length c1, .slice A2 n.length c2] (.slice none 0 0) (.slice none 0 0) [] [] wx)
    case first =>
      go_region_law (first
        | (go_simp; go_at_call 57; refine (OF.out _ (by first | exact HQd.out | exact HQa.out _)).mono ?_; rintro e w' ⟨rfl, rfl⟩))
      all_goals
        go_wp2_with fail
        go_meet
        exact ⟨rfl, rfl, HP0.out⟩
    case rest =>
      obtain ⟨rfl, rfl, hP⟩ := hcut
      generalize w1.heap.size = Y at *
      have HP := Lib.hid hP
      have z0 := hP.x.cell 0; have z1 := hP.x.cell 1; have z2 := hP.x.cell 2
      simp at z0 z1 z2
      clear hP HP0 xa x0 x1 x2 HQd HQa HX1 HR1 HQ1 CH OF
      go_wp2
      go_loopw [21] (fun i wr => PtRel w (w.heap.size + 1) Y time #[.int .i64 time, .slice A1 d.length c1, .slice A2 n.length c2] s d n i wr) (fun i _ => d.length - (intOf i).toNat)
      case atStart => exact ⟨0, _, _, Nat.zero_le _, rfl, HP.out⟩
      case round =>
        obtain ⟨k, vd, vn, hk, rfl, hP⟩ := hrel
        obtain ⟨zk, hzk⟩ : ∃ z, z = ((d.zip n).take k).filter (fun q => hasB s q.1) := ⟨_, rfl⟩
        rw [← hzk] at hP
        have hzl : zk.length ≤ k := by rw [hzk]; exact Nat.le_trans (List.length_filter_le _ _) (List.length_take_le _ _)
        obtain ⟨dd, hdd⟩ : ∃ z, z = zk.map Prod.fst := ⟨_, rfl⟩
        obtain ⟨nn, hnn⟩ : ∃ z, z = zk.map Prod.snd := ⟨_, rfl⟩
        rw [← hdd, ← hnn] at hP
        have hdl : dd.length ≤ k := by rw [hdd, List.length_map]; exact hzl
        have hnl : nn.length ≤ k := by rw [hnn, List.length_map]; exact hzl
        obtain ⟨Ad, cd, rfl⟩ := Kd.R_slice hP.od
        obtain ⟨An, cn, rfl⟩ := Kd.R_slice hP.on
        have HZ := Lib.hid hzk; have HDD := Lib.hid hdd; have HNN := Lib.hid hnn; have HP2 := Lib.hid hP
        have y0 := hP.y.cell 0; have y1 := hP.y.cell 1; have y2 := hP.y.cell 2
        have v0 := hP.x.cell 0; have v1 := hP.x.cell 1; have v2 := hP.x.cell 2
        simp at y0 y1 y2 v0 v1 v2
        by_cases hlt : k < d.length
        · obtain ⟨ad, hA, h0⟩ := at_ints (Kd.C_below HD.out hP.b) k hlt
          have ST := Lib.hid (part_step s d n k hlt HLn.out)
          have hkn : k < n.length := by have := HLn.out; omega
          have hrd : rd_T92 n (k : Int) = n.getD k z92 := rfl
          have hSx := HS.out.2 _ (getD_mem z92 n k hkn)
          generalize d.getD k 0 = t at *
          generalize n.getD k z92 = x at *
          subst hA
          have HRD := Lib.hid hrd; have HSx := Lib.hid hSx
          clear hP hzk hdd hnn hzl z0 z1 z2 HP hrd hSx
          cases hb : hasB s t
          · rw [hb] at ST
            have ST2 := Lib.hid ST.out
            go_wp2_with (go_at_call 62; refine (wHas _ _ hsl _).mono ?_; rintro e w' ⟨rfl, rfl⟩)
            go_roundw
            case rel =>
              refine ⟨k + 1, .slice Ad dd.length cd, .slice An nn.length cn, by omega, by go_num, ?_⟩
              rw [ST.out, ← HZ.out]
              simp only [Bool.false_eq_true, if_false, List.append_nil]
              rw [← HDD.out, ← HNN.out]
              exact HP2.out
            case measure => simp [intOf]; omega
          · rw [hb, if_pos rfl] at ST
            have hRY : w.heap.size + 1 ≠ Y := by omega
            have hYY : w.heap.size < Y := by omega
            go_wp2_with (first | (go_at_call 62; refine (wHas _ _ hsl _).mono ?_; rintro e w' ⟨rfl, rfl⟩) | (at_builtin; refine rApp (Kd.int .i64) (w0 := w) w.heap.size rfl _ _ 22 3 (.int .i64 0) 8 rfl Tryd.underlying22 infoInt rfl (by decide) (by decide) (.slice Ad dd.length cd) dd t _ rfl rfl rfl (by intro q hq; simp [Kd.int, Kd.scalar] at hq) HP2.out.od HP2.out.b HP2.out.b.size (by omega) ?_; intro v1 w4 ho _ hg _; obtain ⟨de, hde⟩ : ∃ z, z = dd ++ [t] := ⟨_, rfl⟩; rw [← hde] at ho; obtain ⟨Ae, ce, hve⟩ := Kd.R_slice ho; subst hve; have HDE := Lib.hid hde; have HPg := Lib.hid (PtAt.growD HP2.out hRY hYY hg ho); have q2 := grown_blk hg HP2.out.y (own_not_blk HP2.out.y (Kd.R_own HP2.out.od).choose_spec (by decide)); have qc := q2.cell 1; have qf := q2.free 1; simp at qc; clear hde ho hg q2))
            generalize w4.setCell ⟨Y, 1, none⟩ (.slice Ae de.length ce) = w5 at *
            obtain ⟨bd, B1, d1, hB, u0, u1, hl1, hC1⟩ := at_T92 (Kd.C_below HN.out HPg.out.b) k (by omega) (by omega)
            rw [HRD.out] at u0 u1 hl1 hC1
            simp only [Int.toNat_natCast] at u0 u1
            subst hB
            have HC1 := Lib.hid hC1
            have p2 := HPg.out.y.cell 2; have r2 := HPg.out.x.cell 2
            simp at p2 r2
            have HN5 : Hid (Quiet w5 w5.drew) := Lib.hid (Fr.refl _ _).drew
            have hz5 : w.heap.size ≤ w5.drew.heap.size := HPg.out.b.size
            clear hC1 y0 y1 y2 v0 v1 v2 qc qf
            go_region_law (first
              | (go_simp; go_at_call 68; refine (wClone _ x B1 d1 (Kd.C_below HC1.out (Quiet.bel HN5.out)) hl1 HSx.out).mono ?_; rintro e w6 ⟨v6, rfl, hr6, hb6⟩; obtain ⟨A6, c6, hv6⟩ := Kd.R_slice hr6; subst hv6; have HP6 := Lib.hid (HPg.out.quiet (HN5.out.quiet (Quiet.of hb6))); have k2 := HP6.out.y.cell 2; simp at k2; have k2a : ∀ o, (w6.alloc o).cell? ⟨Y, 2, none⟩ = some (.slice An nn.length cn) := (fun o => by simpa using (HP6.out.y.alloc o).cell 2); have hY6 : Y < w6.heap.size := HP6.out.y.lt; have HR6 := Lib.hid hr6; clear hr6 hb6)
              | (have hq7 := HR6.out; refine rAppStep k92 (w0 := w) w.heap.size rfl _ _ 23 92 _ 32 rfl Tryd.underlying23 infoNode rfl (by decide) (by decide) (.slice An nn.length cn) nn x _ rfl rfl (k92_mkM _ _ _ x (Kd.R_lower HR6.out hz5)) (by decide) HP6.out.on HP6.out.b HP6.out.b.size (by omega) ?_; intro v7 w7 ho _ hg _; obtain ⟨ne, hne⟩ : ∃ z, z = nn ++ [x] := ⟨_, rfl⟩; rw [← hne] at ho; obtain ⟨A7, c7, hv7⟩ := Kd.R_slice ho; subst hv7; have HNE := Lib.hid hne; have HP7 := Lib.hid (PtAt.growN HP6.out hRY hYY hg ho); have q2 := grown_blk hg HP6.out.y (own_not_blk HP6.out.y (Kd.R_own HP6.out.on).choose_spec (by decide)); have qc := q2.cell 2; have qf := q2.free 2; simp at qc; clear hne ho hg q2))
            all_goals
              go_wp2_with fail
              go_roundw
              case rel =>
                refine ⟨k + 1, .slice Ae de.length ce, .slice A7 ne.length c7, by omega, by go_num, ?_⟩
                rw [ST.out, ← HZ.out, List.map_append, List.map_append, ← HDD.out, ← HNN.out, List.map_cons, List.map_cons, List.map_nil, List.map_nil, ← HDE.out, ← HNE.out]
                exact HP7.out
              case measure => simp [intOf]; omega
        · have hzz : partZ s d n = zk := by rw [EZ.out, HZ.out, show k = d.length by omega]
          have HZZ := Lib.hid hzz
          have r0 := hP.r.cell 0; have r1 := hP.r.cell 1; have r2 := hP.r.cell 2
          have f0 := hP.r.free 0; have f1 := hP.r.free 1; have f2 := hP.r.free 2
          simp at r0 r1 r2
          clear hP hzk hdd hnn hzz z0 z1 z2 HP
          go_wp2
          refine bodyPost_ret (results_cell_row rfl _ _ (w.heap.size + 1) 25 #[.int .i64 time, .slice Ad dd.length cd, .slice An nn.length cn] (0, 0) _ rfl ?blk Tryd.underlying25 rfl (by kernel_rfl)) rfl ?_
          case blk =>
            have q := ((HP2.out.r.set 0 (.int .i64 time)).set 1 (.slice Ad dd.length cd)).set 2 (.slice An nn.length cn)
            simp at q
            exact q
          refine ⟨.slice Ad dd.length cd, .slice An nn.length cn, by rw [ET.out], ?_, ?_, ?_⟩
          · rw [ED.out, HZZ.out, ← HDD.out]
            exact Kd.R_set (Kd.R_set (Kd.R_set HP2.out.od HP2.out.r (by decide) 0 (.int .i64 time)) (HP2.out.r.set 0 (.int .i64 time)) (by decide) 1 (.slice Ad dd.length cd)) ((HP2.out.r.set 0 (.int .i64 time)).set 1 (.slice Ad dd.length cd)) (by decide) 2 (.slice An nn.length cn)
          · rw [EN.out, HZZ.out, ← HNN.out]
            exact Kd.R_set (Kd.R_set (Kd.R_set HP2.out.on HP2.out.r (by decide) 0 (.int .i64 time)) (HP2.out.r.set 0 (.int .i64 time)) (by decide) 1 (.slice Ad dd.length cd)) ((HP2.out.r.set 0 (.int .i64 time)).set 1 (.slice Ad dd.length cd)) (by decide) 2 (.slice An nn.length cn)
          · exact ((HP2.out.b.setCell (by show w.heap.size ≤ w.heap.size + 1; omega) _).setCell (by show w.heap.size ≤ w.heap.size + 1; omega) _).setCell (by show w.heap.size ≤ w.heap.size + 1; omega) _
  · have ET : Hid (partT time d n = 0) := Lib.hid (if_neg c0)
    have ED : Hid (partD (ofL 0 l) time d n = []) := Lib.hid (if_neg c0)
    have EN : Hid (partN (ofL 0 l) time d n = []) := Lib.hid (if_neg c0)
    have c1' : (chkR time d n != 0) = true := by simpa using c0
    clear c0
    go_enter Tryd.func25, Tryd.ntmps25
    go_wp2_with fail
    refine (CH.out _ _).mono ?_
    rintro e w1 ⟨rfl, hq1⟩
    have HR1 := Lib.hid (Fr.blk hq1 HR0.out (fun x => x))
    have r0 := HR1.out.cell 0; have r1 := HR1.out.cell 1; have r2 := HR1.out.cell 2
    have f0 := HR1.out.free 0; have f1 := HR1.out.free 1; have f2 := HR1.out.free 2
    simp at r0 r1 r2
    have HQ1 := Lib.hid ((hbx _ _).quiet hq1)
    clear hq1
    go_wp2
    refine bodyPost_ret (results_cell_row rfl _ _ (w.heap.size + 1) 25 #[.int .i64 0, .slice none 0 0, .slice none 0 0] (0, 0) _ rfl ?blk Tryd.underlying25 rfl (by kernel_rfl)) rfl ?_
    case blk =>
      have q := ((HR1.out.set 0 (.int .i64 0)).set 1 (.slice none 0 0)).set 2 (.slice none 0 0)
      simp at q
      exact q
    refine ⟨.slice none 0 0, .slice none 0 0, by rw [ET.out], ?_, ?_, ?_⟩
    · rw [ED.out]; exact Kd.R_nil _ _ _ _ _
    · rw [EN.out]; exact Kd.R_nil _ _ _ _ _
    · exact (((Quiet.bel HQ1.out).setCell (by show w.heap.size ≤ w.heap.size + 1; omega) _).setCell (by show w.heap.size ≤ w.heap.size + 1; omega) _).setCell (by show w.heap.size ≤ w.heap.size + 1; omega) _
end Go.Proofs.YtadepdeckapgcaaDoor
end

section
namespace Go.Proofs.YtadepdeckapgcaaDoor.PWitnessTells
open Go.RowKit Go.Proofs.YtadepdeckapgcaaDoorW.PrintWords Go.Proofs.YtadepdeckapgcaaDoorW.PrintLast Go.Proofs.YtadepdeckapgcaaDoorW.PrintMore
attribute [local go_sem] max2_int min2_int max_two min_two max_three min_three max_four min_four
set_option linter.unusedVariables false
set_option linter.unusedSimpArgs false
mutual
def logjamlaw26_Own.l0 : Nat → List (S92) → List (S92) → Int → Option ((List (S92)))
 | 0, _, _, _ => none
 | k + 1, x0, x3, x4 => if x4 < (x0.length : Int) then (logjamlaw26_Own.j1 k x0 x3 x4 (decide (x4 < 70))) else (logjamlaw26_Own.j1 k x0 x3 x4 false)
def logjamlaw26_Own.j1 : Nat → List (S92) → List (S92) → Int → Bool → Option ((List (S92)))
 | 0, _, _, _, _ => none
 | k + 1, x0, x3, x4, x19 => if x19 = true then (if 0 ≤ x4 then (if x4 < (x0.length : Int) then (logjamlaw26_Own.l1 k x0 x3 x4 0 ((rd_T92 x0 x4).f0) ([] : List (List (S96)))) else (none)) else (none)) else (some x3)
def logjamlaw26_Own.l1 : Nat → List (S92) → List (S92) → Int → Int → Bool → List (List (S96)) → Option ((List (S92)))
 | 0, _, _, _, _, _, _ => none
 | k + 1, x0, x3, x4, x6, x106000, x106001 => if 0 ≤ x4 then (if x4 < (x0.length : Int) then (if x6 < (((rd_T92 x0 x4).f1).length : Int) then (logjamlaw26_Own.j3 k x0 x3 x4 x6 (decide (x6 < 6)) x106000 x106001) else (logjamlaw26_Own.j3 k x0 x3 x4 x6 false x106000 x106001)) else (none)) else (none)
def logjamlaw26_Own.j3 : Nat → List (S92) → List (S92) → Int → Int → Bool → Bool → List (List (S96)) → Option ((List (S92)))
 | 0, _, _, _, _, _, _, _ => none
 | k + 1, x0, x3, x4, x6, x39, x106000, x106001 => if x39 = true then (logjamlaw26_Own.l2 k x0 x3 x4 x6 (([] : List (S96))) 0 x106000 x106001) else (if x3.length < 4398046511104 then (logjamlaw26_Own.l0 k x0 (x3 ++ [(⟨x106000, x106001⟩ : S92)]) (wrap64 (x4 + 1))) else (none))
def logjamlaw26_Own.l2 : Nat → List (S92) → List (S92) → Int → Int → List (S96) → Int → Bool → List (List (S96)) → Option ((List (S92)))
 | 0, _, _, _, _, _, _, _, _ => none
 | k + 1, x0, x3, x4, x6, x7, x8, x106000, x106001 => if 0 ≤ x4 then (if x4 < (x0.length : Int) then (if 0 ≤ x6 then (if x6 < (((rd_T92 x0 x4).f1).length : Int) then (if x8 < ((rd_L5 ((rd_T92 x0 x4).f1) x6).length : Int) then (logjamlaw26_Own.j5 k x0 x3 x4 x6 x7 x8 (decide (x8 < 6)) x106000 x106001) else (logjamlaw26_Own.j5 k x0 x3 x4 x6 x7 x8 false x106000 x106001)) else (none)) else (none)) else (none)) else (none)
def logjamlaw26_Own.j5 : Nat → List (S92) → List (S92) → Int → Int → List (S96) → Int → Bool → Bool → List (List (S96)) → Option ((List (S92)))
 | 0, _, _, _, _, _, _, _, _, _ => none
 | k + 1, x0, x3, x4, x6, x7, x8, x57, x106000, x106001 => if x57 = true then (if 0 ≤ x4 then (if x4 < (x0.length : Int) then (if 0 ≤ x6 then (if x6 < (((rd_T92 x0 x4).f1).length : Int) then (if 0 ≤ x8 then (if x8 < ((rd_L5 ((rd_T92 x0 x4).f1) x6).length : Int) then (if (((rd_T96 (rd_L5 ((rd_T92 x0 x4).f1) x6) x8).f1).length : Int) > 70 then (if 70 ≤ (((rd_T96 (rd_L5 ((rd_T92 x0 x4).f1) x6) x8).f1).length : Int) then ((some (((rd_T96 (rd_L5 ((rd_T92 x0 x4).f1) x6) x8).f1).take 70 : List (S108))).bind fun y119 => ((some (([] : List (S108)) : List (S108))).bind fun y123 => (if y123.length + y119.length < 8796093022208 then (if x7.length < 4398046511104 then (logjamlaw26_Own.l2 k x0 x3 x4 x6 (x7 ++ [(⟨(rd_T96 (rd_L5 ((rd_T92 x0 x4).f1) x6) x8).f0, (y123 ++ y119)⟩ : S96)]) (wrap64 (x8 + 1)) x106000 x106001) else (none)) else (none)))) else (none)) else ((some (([] : List (S108)) : List (S108))).bind fun y132 => (if y132.length + ((rd_T96 (rd_L5 ((rd_T92 x0 x4).f1) x6) x8).f1).length < 8796093022208 then (if x7.length < 4398046511104 then (logjamlaw26_Own.l2 k x0 x3 x4 x6 (x7 ++ [(⟨(rd_T96 (rd_L5 ((rd_T92 x0 x4).f1) x6) x8).f0, (y132 ++ ((rd_T96 (rd_L5 ((rd_T92 x0 x4).f1) x6) x8).f1))⟩ : S96)]) (wrap64 (x8 + 1)) x106000 x106001) else (none)) else (none)))) else (none)) else (none)) else (none)) else (none)) else (none)) else (none)) else (if x106001.length < 5864062014805 then (logjamlaw26_Own.l1 k x0 x3 x4 (wrap64 (x6 + 1)) x106000 (x106001 ++ [x7])) else (none))
end
def logjamlaw26_Own.f (k : Nat) (l0 : List (S92)) : Option ((List (S92))) := logjamlaw26_Own.l0 k l0 (([] : List (S92))) 0
def logjamlaw26_Own.T17 : Bool × List (List Nat × List Nat) := (true, [([], []), ([], []), ([1], [1]), ([], []), ([], []), ([3, 4], [3, 4]), ([2, 5], [2, 5]), ([6], [6]), ([0, 7, 5], [0, 7]), ([8, 8, 0, 1, 2, 3, 4, 5, 6, 7, 8], [0, 8])])
def logjamlaw26_Own.B17 : List Nat := [0, 0, 2, 0, 0, 24, 62, 126, 255, 511]
theorem logjamlaw26_Own.tab17 : rtab .any (opsOf Tryd.f14 17) = logjamlaw26_Own.T17 := by kernel_rfl
theorem logjamlaw26_Own.bits17 : waitsOk logjamlaw26_Own.T17.2 logjamlaw26_Own.B17 = true := by kernel_rfl
set_option maxHeartbeats 8000000 in
set_option maxRecDepth 100000 in
theorem logjamlaw26_Own.calls (k : Nat) (A0 : Option Addr) (c0 : Nat) (l0 : List (S92)) (r : List (S92)) (w : World) (hr0 : Kd.C k92 w A0 l0.length l0) (hc0 : l0.length ≤ c0) (h : logjamlaw26_Own.f k l0 = some r) :
  Calls Tryd.prog 14 #[.slice A0 l0.length c0] w fun e w' => ∃ v0_ : Value, e = .returned (v0_) ∧ Kd.R k92 92 w' w.heap.size (fun _ => True) v0_ r ∧ Below w.heap.size w w' := by
 have hu92 := Tryd.underlying92
 have hu96 := Tryd.underlying96
 have HR0 := Aside0.mk hr0
 have HC0 := Aside0.mk hc0
 clear hr0 hc0
 have HB := Aside0.mk (Below.refl w.heap.size w)
 have H : (logjamlaw26_Own.l0 k l0 (([] : List (S92))) 0) = some r := h
 clear h
 obtain ⟨y101, hy101⟩ : ∃ y_ : List (S92), y_ = (([] : List (S92))) := ⟨_, rfl⟩
 replace H : (logjamlaw26_Own.l0 k l0 y101 0) = some r := by first | (rw [hy101]; with_reducible exact H) | (have H2_ := (Option.bind_some _ _).symm.trans H; rw [hy101]; with_reducible exact H2_) | (have H2_ := (Option.bind_some _ _).symm.trans H; with_reducible exact H2_) | with_reducible exact H | (rw [hy101]; exact H) | exact H
 have Ny101 := Aside0.mk hy101
 clear hy101
 have H' := Aside0.mk H
 clear H
 go_enter Tryd.func14, Tryd.ntmps14
 go_wp2_with (first | ((with_reducible refine gate_dst (N := 11) rfl ?_); refine Kd.R_lit k92 _ 92 ?hg (N := 11) ?hd (xs := ([] : List (S92))) (inner := []) (ok := fun _ => True) (okp := fun _ => True) ?hr ?hp (fun _ hk => hk) trivial (Below.refl _ _) (Nat.le_refl _) (by simp) ?_; (case hd => rfl); (case hg => rfl); (case hr => first | (go_simp; done) | (go_simp; rfl)); (case hp => exact (Reps.none _ _)); intro v102 w2 ho3 hb hg_ hnew_; clear hg_ hnew_; (first | rw [← Ny101.out] at ho3 | (simp only [Int.reduceToNat] at ho3; rw [← Ny101.out] at ho3)); have n0_ := Aside0.mk (Kd.R_lower ho3 (below_size (by repeat (first | (with_reducible first | exact HB.out | apply below_alloc | apply pw_below_drewN | apply below_drew1) | exact HB.out)))); have n1_ := Aside0.mk (below_step (by repeat (first | (with_reducible first | exact HB.out | apply below_alloc | apply pw_below_drewN | apply below_drew1) | exact HB.out)) hb); clear HB; have HO103 := n0_; have HB := n1_; clear n0_ n1_; clear hb ho3))
 go_loopg [3, 4] k (fun kq v3 v4 w' => ∃ (x3_1 : List (S92)) (x4_1 : Int), v4 = .int .i64 x4_1 ∧ Aside0 (logjamlaw26_Own.l0 kq l0 x3_1 x4_1 = some r) ∧ Aside0 (kq ≤ k) ∧ Aside0 (Kd.R k92 92 w' w.heap.size (fun _ => True) v3 x3_1) ∧ Aside0 (Below w.heap.size w w'))
 case atStart => exact ⟨(y101), (0), (by first | rfl | (simp; done) | (simp [*]; done)), H', ⟨Nat.le_refl _⟩, ⟨by (with_reducible repeat (first | apply Kd.R_alloc | apply Kd.R_drewN | apply Kd.R_drew)); exact HO103.out⟩, ⟨by repeat (first | (with_reducible first | exact HB.out | apply below_alloc | apply pw_below_drewN | apply below_drew1) | exact HB.out)⟩⟩
 case round =>
  clear H'
  try clear c1
  try clear p2
  obtain ⟨x3_1, x4_1, rfl, HA, HK1, HO_3, HB⟩ := hrel
  cases gk with
  | zero => exact absurd HA.out (by simp [logjamlaw26_Own.l0])
  | succ k1 =>
   have H := HA.out
   clear HA
   simp only [logjamlaw26_Own.l0] at H
   have HC4 := Aside0.mk H
   clear H
   go_upto_region 3 with (fail)
   go_cut [19] (fun v19 wc => ∃ (kq : Nat) (x19_3 : Bool), v19 = .bool x19_3 ∧ Aside0 (logjamlaw26_Own.j1 kq l0 x3_1 x4_1 x19_3 = some r) ∧ Aside0 (kq ≤ k1) ∧ Aside0 (Kd.R k92 92 wc w.heap.size (fun _ => True) u3 x3_1) ∧ Aside0 (Below w.heap.size w wc))
   case first =>
    have H := HC4.out
    clear HC4
    by_cases c5 : x4_1 < (l0.length : Int)
    ·rw [if_pos c5] at H
     have c5b0 : decide (x4_1 < (l0.length : Int)) = true := decide_eq_true c5
     clear c5
     (first | rw [c5b0] | (simp only [i64_w, i32_w]; rw [c5b0]) | skip)
     have H' := Aside0.mk H
     clear H
     go_wp2
     go_meet
     case rel => exact ⟨_, (decide (x4_1 < 70)), (by first | rfl | (simp; done) | (simp [*]; done)), H', ⟨by have := HK1.out; first | omega | exact Nat.le_refl _⟩, ⟨by (with_reducible repeat (first | apply Kd.R_alloc | apply Kd.R_drewN | apply Kd.R_drew)); exact HO_3.out⟩, ⟨by repeat (first | (with_reducible first | exact HB.out | apply below_alloc | apply pw_below_drewN | apply below_drew1) | exact HB.out)⟩⟩
    ·rw [if_neg c5] at H
     have c5b0 : decide (x4_1 < (l0.length : Int)) = false := decide_eq_false c5
     clear c5
     (first | rw [c5b0] | (simp only [i64_w, i32_w]; rw [c5b0]) | skip)
     have H' := Aside0.mk H
     clear H
     go_wp2
     go_meet
     case rel => exact ⟨_, (false), (by first | rfl | (simp; done) | (simp [*]; done)), H', ⟨by have := HK1.out; first | omega | exact Nat.le_refl _⟩, ⟨by (with_reducible repeat (first | apply Kd.R_alloc | apply Kd.R_drewN | apply Kd.R_drew)); exact HO_3.out⟩, ⟨by repeat (first | (with_reducible first | exact HB.out | apply below_alloc | apply pw_below_drewN | apply below_drew1) | exact HB.out)⟩⟩
   case rest =>
    clear HC4
    try clear c1
    try clear p2
    try clear c5
    try clear c5b0
    try clear p2
    obtain ⟨kq, x19_3, rfl, HA, HJ3, HO_3, HB⟩ := hcut
    cases kq with
    | zero => exact absurd HA.out (by simp [logjamlaw26_Own.j1])
    | succ kj3 =>
     have H := HA.out
     clear HA
     simp only [logjamlaw26_Own.j1] at H
     by_cases c6 : x19_3 = true
     ·subst c6
      have H1 : (if 0 ≤ x4_1 then (if x4_1 < (l0.length : Int) then (logjamlaw26_Own.l1 kj3 l0 x3_1 x4_1 0 ((rd_T92 l0 x4_1).f0) ([] : List (List (S96)))) else (none)) else (none)) = some r := by rw [if_pos rfl] at H; exact H
      clear H
      have H := H1
      clear H1
      by_cases c7 : 0 ≤ x4_1
      ·rw [if_pos c7] at H
       have c7b0 : decide (0 ≤ x4_1) = true := decide_eq_true c7
       clear c7
       by_cases c8 : x4_1 < (l0.length : Int)
       ·rw [if_pos c8] at H
        have c8b0 : decide (x4_1 < (l0.length : Int)) = true := decide_eq_true c8
        clear c8
        have H' := Aside0.mk H
        clear H
        have p104 : 0 ≤ (x4_1 : Int) := of_decide_eq_true (by first | (with_reducible assumption) | assumption)
        have q104 : x4_1 < (l0.length : Int) := of_decide_eq_true (by first | (with_reducible assumption) | assumption)
        obtain ⟨ad104, A104_1, c104_1, e104, hx104_0, hx104_1, hl104_1, hi104_1⟩ := at_T92 HR0.out x4_1 p104 q104
        cases e104
        replace hx104_0 := (HB.out.cell (World.block_lt_of_cell? w _ hx104_0)).trans hx104_0
        replace hx104_1 := (HB.out.cell (World.block_lt_of_cell? w _ hx104_1)).trans hx104_1
        have HR104_1 := Aside0.mk hi104_1
        have HC104_1 := Aside0.mk hl104_1
        clear hi104_1 hl104_1
        replace p104 := eq_true p104
        replace q104 := eq_true q104
        go_wp2_with (first | ((with_reducible refine gate_dst (N := 5) rfl ?_); refine box_event ?hg (N := 5) ?hd (cs := #[.bool false, .slice none 0 0]) (t := 92) ?hr ?_; (case hd => rfl); (case hg => rfl); (case hr => first | (go_simp; done) | (go_simp; rfl)); intro gb105 hg w9 hbox hb; have n0_ := Aside0.mk (Kd.R_below (Kd.R_elderB (by (with_reducible repeat (first | apply Kd.R_alloc | apply Kd.R_drewN | apply Kd.R_drew)); exact HO_3.out) gb105 (Nat.le_of_eq hg.symm)) hb); have n1_ := Aside0.mk (below_step (by repeat (first | (with_reducible first | exact HB.out | apply below_alloc | apply pw_below_drewN | apply below_drew1) | exact HB.out)) hb); have n2_ := Aside0.mk (hbox); have n3_ := Aside0.mk ((by rw [hg]; exact (below_size (by repeat (first | (with_reducible first | exact HB.out | apply below_alloc | apply pw_below_drewN | apply below_drew1) | exact HB.out))) : w.heap.size ≤ gb105)); have n4_ := Aside0.mk ((by rw [hg]; exact (below_size (by repeat (first | (with_reducible first | exact HB.out | apply below_alloc | apply pw_below_drewN | apply below_drew1) | exact HB.out))) : w.heap.size ≤ gb105)); clear HO_3; clear HB; have HO_3 := n0_; have HB := n1_; have BK105 := n2_; have GW105 := n3_; have GE105 := n4_; clear n0_ n1_ n2_ n3_ n4_; clear hb hbox hg; have hcz10_0 : w9.cell? ⟨gb105, 0, none⟩ = some (.bool false) := (blk_cell BK105.out 0).trans rfl; have hcz10_1 : w9.cell? ⟨gb105, 1, none⟩ = some (.slice none 0 0) := (blk_cell BK105.out 1).trans rfl; have hfz10_0 := blk_frozen BK105.out 0; have hfz10_1 := blk_frozen BK105.out 1))
        go_loopg [6] kj3 (fun kq v6 w' => ∃ (x6_3 : Int) (x106001_3 : List (List (S96))) (u106001 : Value), v6 = .int .i64 x6_3 ∧ Aside0 (logjamlaw26_Own.l1 kq l0 x3_1 x4_1 x6_3 ((rd_T92 l0 x4_1).f0) x106001_3 = some r) ∧ Aside0 (kq ≤ kj3) ∧ Aside0 (Kd.R k92 92 w' w.heap.size (fun k_ => some k_ ≠ (u106001 : Value).ownBlock ∧ k_ ≠ gb105) u3 x3_1) ∧ Aside0 (Kd.R (Kd.slice 96 k96) 93 w' w.heap.size (fun _ => True) u106001 x106001_3) ∧ Aside0 (w'.heap[gb105]? = some (.cells #[.bool ((rd_T92 l0 x4_1).f0), u106001] 92 (0, 0))) ∧ Aside0 (Below w.heap.size w w'))
        case atStart => exact ⟨(0), (([] : List (List (S96)))), (.slice none 0 0), (by first | rfl | (simp; done) | (simp [*]; done)), H', ⟨Nat.le_refl _⟩, ⟨by (with_reducible repeat (first | apply Kd.R_alloc | apply Kd.R_drewN | apply Kd.R_drew)); exact Kd.R_mono (Kd.R_far (p := ⟨gb105, 1, none⟩) (Kd.R_far (p := ⟨gb105, 0, none⟩) (Kd.R_mono HO_3.out (fun k_ hk => (⟨hk, hk.2⟩ : _ ∧ k_ ≠ gb105))) (fun _ hk => hk.2) (.bool ((rd_T92 l0 x4_1).f0))) (fun _ hk => hk.2) (.slice none 0 0)) (fun _ hk => ⟨(by simp [Value.ownBlock]), hk.1.2⟩)⟩, ⟨by first | exact Kd.R_nil _ _ _ _ _ | exact Kd.N_nil _ _ _ _ _ | exact Kd.V_nil _ _ _ _ _ | exact Kd.Q_nil _ _ _ _ _ | exact Kd.S_nil _ _ _ _ _⟩, ⟨by (with_reducible repeat (first | refine blk_drewN ?_ _ | refine blk_drew ?_ | refine blk_alloc ?_ _)); refine blk_put (cs := #[.bool ((rd_T92 l0 x4_1).f0), .slice none 0 0]) ?_ 1 _ rfl; (with_reducible repeat (first | refine blk_drewN ?_ _ | refine blk_drew ?_ | refine blk_alloc ?_ _)); refine blk_put (cs := #[.bool false, .slice none 0 0]) ?_ 0 _ rfl; (with_reducible repeat (first | refine blk_drewN ?_ _ | refine blk_drew ?_ | refine blk_alloc ?_ _)); exact BK105.out⟩, ⟨by repeat (first | (with_reducible first | exact HB.out | apply below_alloc | apply pw_below_drewN | apply below_drew1 | refine below_set ?_ GE105.out) | exact HB.out)⟩⟩
        case round =>
         clear H'
         try clear c1
         try clear p1
         try clear q1
         try clear hx1
         try clear p2
         try clear c5
         try clear c5b0
         try clear c6
         try clear c7
         try clear c7b0
         try clear c8
         try clear c8b0
         try clear c10
         try clear p10
         try clear q10
         try clear hx10
         try clear hcz10_0
         try clear hcz10_1
         try clear hfz10_0
         try clear hfz10_1
         try clear hx104_0
         try clear hx104_1
         try clear p104
         try clear p2
         try clear q104
         obtain ⟨x6_3, x106001_3, u106001, rfl, HA, HK3, HO_3, HO_106001, BK105, HB⟩ := hrel
         cases gk with
         | zero => exact absurd HA.out (by simp [logjamlaw26_Own.l1])
         | succ k3 =>
          have H := HA.out
          clear HA
          simp only [logjamlaw26_Own.l1] at H
          have HC11 := Aside0.mk H
          clear H
          go_upto_region 7 with (fail)
          go_cut [39] (fun v39 wc => ∃ (kq : Nat) (x39_10 : Bool), v39 = .bool x39_10 ∧ Aside0 (logjamlaw26_Own.j3 kq l0 x3_1 x4_1 x6_3 x39_10 ((rd_T92 l0 x4_1).f0) x106001_3 = some r) ∧ Aside0 (kq ≤ k3) ∧ Aside0 (Kd.R k92 92 wc w.heap.size (fun k_ => some k_ ≠ (u106001 : Value).ownBlock ∧ k_ ≠ gb105) u3 x3_1) ∧ Aside0 (Kd.R (Kd.slice 96 k96) 93 wc w.heap.size (fun _ => True) u106001 x106001_3) ∧ Aside0 (wc.heap[gb105]? = some (.cells #[.bool ((rd_T92 l0 x4_1).f0), u106001] 92 (0, 0))) ∧ Aside0 (Below w.heap.size w wc))
          case first =>
           have H := HC11.out
           clear HC11
           by_cases c12 : 0 ≤ x4_1
           ·rw [if_pos c12] at H
            have c12b0 : decide (0 ≤ x4_1) = true := decide_eq_true c12
            clear c12
            (first | rw [c12b0] | (simp only [i64_w, i32_w]; rw [c12b0]) | skip)
            by_cases c13 : x4_1 < (l0.length : Int)
            ·rw [if_pos c13] at H
             have c13b0 : decide (x4_1 < (l0.length : Int)) = true := decide_eq_true c13
             clear c13
             by_cases c14 : x6_3 < (((rd_T92 l0 x4_1).f1).length : Int)
             ·rw [if_pos c14] at H
              have c14b0 : decide (x6_3 < (((rd_T92 l0 x4_1).f1).length : Int)) = true := decide_eq_true c14
              clear c14
              have H' := Aside0.mk H
              clear H
              have p106 : 0 ≤ (x4_1 : Int) := of_decide_eq_true (by first | (with_reducible assumption) | assumption)
              have q106 : x4_1 < (l0.length : Int) := of_decide_eq_true (by first | (with_reducible assumption) | assumption)
              obtain ⟨ad106, A106_1, c106_1, e106, hx106_0, hx106_1, hl106_1, hi106_1⟩ := at_T92 HR0.out x4_1 p106 q106
              obtain rfl : ad104 = ad106 := (by injection e106)
              replace hx106_0 := (HB.out.cell (World.block_lt_of_cell? w _ hx106_0)).trans hx106_0
              replace hx106_1 := (HB.out.cell (World.block_lt_of_cell? w _ hx106_1)).trans hx106_1
              have HR106_1 := Aside0.mk hi106_1
              have HC106_1 := Aside0.mk hl106_1
              clear hi106_1 hl106_1
              replace p106 := eq_true p106
              replace q106 := eq_true q106
              go_wp2
              go_meet
              case rel => exact ⟨_, (decide (x6_3 < 6)), (by first | rfl | (simp; done) | (simp [*]; done)), H', ⟨by have := HK1.out; have := HJ3.out; have := HK3.out; first | omega | exact Nat.le_refl _⟩, ⟨by (with_reducible repeat (first | apply Kd.R_alloc | apply Kd.R_drewN | apply Kd.R_drew)); exact HO_3.out⟩, ⟨by (with_reducible repeat (first | apply Kd.R_alloc | apply Kd.R_drewN | apply Kd.R_drew)); exact HO_106001.out⟩, ⟨by (with_reducible repeat (first | refine blk_drewN ?_ _ | refine blk_drew ?_ | refine blk_alloc ?_ _)); exact BK105.out⟩, ⟨by repeat (first | (with_reducible first | exact HB.out | apply below_alloc | apply pw_below_drewN | apply below_drew1 | refine below_set ?_ GE105.out) | exact HB.out)⟩⟩
             ·rw [if_neg c14] at H
              have c14b0 : decide (x6_3 < (((rd_T92 l0 x4_1).f1).length : Int)) = false := decide_eq_false c14
              clear c14
              have H' := Aside0.mk H
              clear H
              have p106 : 0 ≤ (x4_1 : Int) := of_decide_eq_true (by first | (with_reducible assumption) | assumption)
              have q106 : x4_1 < (l0.length : Int) := of_decide_eq_true (by first | (with_reducible assumption) | assumption)
              obtain ⟨ad106, A106_1, c106_1, e106, hx106_0, hx106_1, hl106_1, hi106_1⟩ := at_T92 HR0.out x4_1 p106 q106
              obtain rfl : ad104 = ad106 := (by injection e106)
              replace hx106_0 := (HB.out.cell (World.block_lt_of_cell? w _ hx106_0)).trans hx106_0
              replace hx106_1 := (HB.out.cell (World.block_lt_of_cell? w _ hx106_1)).trans hx106_1
              have HR106_1 := Aside0.mk hi106_1
              have HC106_1 := Aside0.mk hl106_1
              clear hi106_1 hl106_1
              replace p106 := eq_true p106
              replace q106 := eq_true q106
              go_wp2
              go_meet
              case rel => exact ⟨_, (false), (by first | rfl | (simp; done) | (simp [*]; done)), H', ⟨by have := HK1.out; have := HJ3.out; have := HK3.out; first | omega | exact Nat.le_refl _⟩, ⟨by (with_reducible repeat (first | apply Kd.R_alloc | apply Kd.R_drewN | apply Kd.R_drew)); exact HO_3.out⟩, ⟨by (with_reducible repeat (first | apply Kd.R_alloc | apply Kd.R_drewN | apply Kd.R_drew)); exact HO_106001.out⟩, ⟨by (with_reducible repeat (first | refine blk_drewN ?_ _ | refine blk_drew ?_ | refine blk_alloc ?_ _)); exact BK105.out⟩, ⟨by repeat (first | (with_reducible first | exact HB.out | apply below_alloc | apply pw_below_drewN | apply below_drew1 | refine below_set ?_ GE105.out) | exact HB.out)⟩⟩
            ·rw [if_neg c13] at H
             exact absurd H (by simp)
           ·rw [if_neg c12] at H
            exact absurd H (by simp)
          case rest =>
           clear HC11
           try clear c1
           try clear p1
           try clear q1
           try clear hx1
           try clear p2
           try clear c5
           try clear c5b0
           try clear c6
           try clear c7
           try clear c7b0
           try clear c8
           try clear c8b0
           try clear c10
           try clear p10
           try clear q10
           try clear hx10
           try clear c12
           try clear c12b0
           try clear c13
           try clear c13b0
           try clear c14
           try clear c14b0
           try clear hcz10_0
           try clear hcz10_1
           try clear hfz10_0
           try clear hfz10_1
           try clear hx104_0
           try clear hx104_1
           try clear hx106_0
           try clear hx106_1
           try clear p1
           try clear p10
           try clear p104
           try clear p106
           try clear p2
           try clear q1
           try clear q10
           try clear q104
           try clear q106
           obtain ⟨kq, x39_10, rfl, HA, HJ10, HO_3, HO_106001, BK105, HB⟩ := hcut
           cases kq with
           | zero => exact absurd HA.out (by simp [logjamlaw26_Own.j3])
           | succ kj10 =>
            have H := HA.out
            clear HA
            simp only [logjamlaw26_Own.j3] at H
            by_cases c15 : x39_10 = true
            ·subst c15
             have H1 : (logjamlaw26_Own.l2 kj10 l0 x3_1 x4_1 x6_3 (([] : List (S96))) 0 ((rd_T92 l0 x4_1).f0) x106001_3) = some r := by rw [if_pos rfl] at H; exact H
             clear H
             have H := H1
             clear H1
             obtain ⟨y110, hy110⟩ : ∃ y_ : List (S96), y_ = (([] : List (S96))) := ⟨_, rfl⟩
             replace H : (logjamlaw26_Own.l2 kj10 l0 x3_1 x4_1 x6_3 y110 0 ((rd_T92 l0 x4_1).f0) x106001_3) = some r := by first | (rw [hy110]; with_reducible exact H) | (have H2_ := (Option.bind_some _ _).symm.trans H; rw [hy110]; with_reducible exact H2_) | (have H2_ := (Option.bind_some _ _).symm.trans H; with_reducible exact H2_) | with_reducible exact H | (rw [hy110]; exact H) | exact H
             have Ny110 := Aside0.mk hy110
             clear hy110
             have H' := Aside0.mk H
             clear H
             go_wp2_with (first | ((with_reducible refine gate_dst (N := 42) rfl ?_); refine Kd.S_lit k96 _ 96 ?hg (N := 42) ?hd (xs := ([] : List (S96))) (inner := []) (ok := fun _ => True) (okp := fun _ => True) ?hr ?hp (fun _ hk => hk) trivial (Below.refl _ _) (Nat.le_refl _) (by simp) ?_; (case hd => rfl); (case hg => rfl); (case hr => first | (go_simp; done) | (go_simp; rfl)); (case hp => exact (Reps.none _ _)); intro v111 w16 ho17 hb hg_ hnew_; clear hg_ hnew_; (first | rw [← Ny110.out] at ho17 | (simp only [Int.reduceToNat] at ho17; rw [← Ny110.out] at ho17)); have n0_ := Aside0.mk (Kd.R_elder' (by (with_reducible repeat (first | apply Kd.R_alloc | apply Kd.R_drewN | apply Kd.R_drew)); exact HO_3.out) (Kd.S_base ho17) hb); have n1_ := Aside0.mk (Kd.R_elder' (by (with_reducible repeat (first | apply Kd.R_alloc | apply Kd.R_drewN | apply Kd.R_drew)); exact HO_106001.out) (Kd.S_base ho17) hb); have n2_ := Aside0.mk (Kd.S_lower ho17 (below_size (by repeat (first | (with_reducible first | exact HB.out | apply below_alloc | apply pw_below_drewN | apply below_drew1 | refine below_set ?_ GE105.out) | exact HB.out)))); have n3_ := Aside0.mk (blk_below (g := gb105) (o := .cells #[.bool ((rd_T92 l0 x4_1).f0), u106001] 92 (0, 0)) (by (with_reducible repeat (first | refine blk_drewN ?_ _ | refine blk_drew ?_ | refine blk_alloc ?_ _)); exact BK105.out) hb); have n4_ := Aside0.mk (below_step (by repeat (first | (with_reducible first | exact HB.out | apply below_alloc | apply pw_below_drewN | apply below_drew1 | refine below_set ?_ GE105.out) | exact HB.out)) hb); clear HO_3; clear HO_106001; clear BK105; clear HB; have HO_3 := n0_; have HO_106001 := n1_; have HO112 := n2_; have BK105 := n3_; have HB := n4_; clear n0_ n1_ n2_ n3_ n4_; clear hb ho17))
             go_loopg [7, 8] kj10 (fun kq v7 v8 w' => ∃ (x7_5 : List (S96)) (x8_5 : Int), v8 = .int .i64 x8_5 ∧ Aside0 (logjamlaw26_Own.l2 kq l0 x3_1 x4_1 x6_3 x7_5 x8_5 ((rd_T92 l0 x4_1).f0) x106001_3 = some r) ∧ Aside0 (kq ≤ kj10) ∧ Aside0 (Kd.R k92 92 w' w.heap.size (fun k_ => some k_ ≠ (v7 : Value).ownBlock ∧ some k_ ≠ (u106001 : Value).ownBlock ∧ k_ ≠ gb105) u3 x3_1) ∧ Aside0 (Kd.S k96 96 w' w.heap.size (fun _ => True) v7 x7_5) ∧ Aside0 (Kd.R (Kd.slice 96 k96) 93 w' w.heap.size (fun k_ => some k_ ≠ (v7 : Value).ownBlock) u106001 x106001_3) ∧ Aside0 (w'.heap[gb105]? = some (.cells #[.bool ((rd_T92 l0 x4_1).f0), u106001] 92 (0, 0))) ∧ Aside0 (Below w.heap.size w w'))
             case atStart => exact ⟨(y110), (0), (by first | rfl | (simp; done) | (simp [*]; done)), H', ⟨Nat.le_refl _⟩, ⟨by (with_reducible repeat (first | apply Kd.R_alloc | apply Kd.R_drewN | apply Kd.R_drew)); exact Kd.R_mono HO_3.out (fun _ hk => ⟨hk.2, ⟨hk.1.1, hk.1.2⟩⟩)⟩, ⟨by (with_reducible repeat (first | apply Kd.S_alloc | apply Kd.S_drewN | apply Kd.S_drew)); exact HO112.out⟩, ⟨by (with_reducible repeat (first | apply Kd.R_alloc | apply Kd.R_drewN | apply Kd.R_drew)); exact Kd.R_mono HO_106001.out (fun _ hk => hk.2)⟩, ⟨by (with_reducible repeat (first | refine blk_drewN ?_ _ | refine blk_drew ?_ | refine blk_alloc ?_ _)); exact BK105.out⟩, ⟨by repeat (first | (with_reducible first | exact HB.out | apply below_alloc | apply pw_below_drewN | apply below_drew1 | refine below_set ?_ GE105.out) | exact HB.out)⟩⟩
             case round =>
              clear H'
              try clear c1
              try clear p1
              try clear q1
              try clear hx1
              try clear p2
              try clear c5
              try clear c5b0
              try clear c6
              try clear c7
              try clear c7b0
              try clear c8
              try clear c8b0
              try clear c10
              try clear p10
              try clear q10
              try clear hx10
              try clear c12
              try clear c12b0
              try clear c13
              try clear c13b0
              try clear c14
              try clear c14b0
              try clear c15
              try clear hcz10_0
              try clear hcz10_1
              try clear hfz10_0
              try clear hfz10_1
              try clear hx104_0
              try clear hx104_1
              try clear hx106_0
              try clear hx106_1
              try clear p1
              try clear p10
              try clear p104
              try clear p106
              try clear p2
              try clear q1
              try clear q10
              try clear q104
              try clear q106
              obtain ⟨x7_5, x8_5, rfl, HA, HK5, HO_3, HO_7, HO_106001, BK105, HB⟩ := hrel
              cases gk with
              | zero => exact absurd HA.out (by simp [logjamlaw26_Own.l2])
              | succ k5 =>
               have H := HA.out
               clear HA
               simp only [logjamlaw26_Own.l2] at H
               have HC18 := Aside0.mk H
               clear H
               go_upto_region 11 with (fail)
               go_cut [57] (fun v57 wc => ∃ (kq : Nat) (x57_17 : Bool), v57 = .bool x57_17 ∧ Aside0 (logjamlaw26_Own.j5 kq l0 x3_1 x4_1 x6_3 x7_5 x8_5 x57_17 ((rd_T92 l0 x4_1).f0) x106001_3 = some r) ∧ Aside0 (kq ≤ k5) ∧ Aside0 (Kd.R k92 92 wc w.heap.size (fun k_ => some k_ ≠ (u7 : Value).ownBlock ∧ some k_ ≠ (u106001 : Value).ownBlock ∧ k_ ≠ gb105) u3 x3_1) ∧ Aside0 (Kd.S k96 96 wc w.heap.size (fun _ => True) u7 x7_5) ∧ Aside0 (Kd.R (Kd.slice 96 k96) 93 wc w.heap.size (fun k_ => some k_ ≠ (u7 : Value).ownBlock) u106001 x106001_3) ∧ Aside0 (wc.heap[gb105]? = some (.cells #[.bool ((rd_T92 l0 x4_1).f0), u106001] 92 (0, 0))) ∧ Aside0 (Below w.heap.size w wc))
               case first =>
                have H := HC18.out
                clear HC18
                by_cases c19 : 0 ≤ x4_1
                ·rw [if_pos c19] at H
                 have c19b0 : decide (0 ≤ x4_1) = true := decide_eq_true c19
                 clear c19
                 (first | rw [c19b0] | (simp only [i64_w, i32_w]; rw [c19b0]) | skip)
                 by_cases c20 : x4_1 < (l0.length : Int)
                 ·rw [if_pos c20] at H
                  have c20b0 : decide (x4_1 < (l0.length : Int)) = true := decide_eq_true c20
                  clear c20
                  by_cases c21 : 0 ≤ x6_3
                  ·rw [if_pos c21] at H
                   have c21b0 : decide (0 ≤ x6_3) = true := decide_eq_true c21
                   clear c21
                   by_cases c22 : x6_3 < (((rd_T92 l0 x4_1).f1).length : Int)
                   ·rw [if_pos c22] at H
                    have c22b0 : decide (x6_3 < (((rd_T92 l0 x4_1).f1).length : Int)) = true := decide_eq_true c22
                    clear c22
                    by_cases c23 : x8_5 < ((rd_L5 ((rd_T92 l0 x4_1).f1) x6_3).length : Int)
                    ·rw [if_pos c23] at H
                     have c23b0 : decide (x8_5 < ((rd_L5 ((rd_T92 l0 x4_1).f1) x6_3).length : Int)) = true := decide_eq_true c23
                     clear c23
                     have H' := Aside0.mk H
                     clear H
                     have p113 : 0 ≤ (x4_1 : Int) := of_decide_eq_true (by first | (with_reducible assumption) | assumption)
                     have q113 : x4_1 < (l0.length : Int) := of_decide_eq_true (by first | (with_reducible assumption) | assumption)
                     obtain ⟨ad113, A113_1, c113_1, e113, hx113_0, hx113_1, hl113_1, hi113_1⟩ := at_T92 HR0.out x4_1 p113 q113
                     obtain rfl : ad104 = ad113 := (by injection e113)
                     replace hx113_0 := (HB.out.cell (World.block_lt_of_cell? w _ hx113_0)).trans hx113_0
                     replace hx113_1 := (HB.out.cell (World.block_lt_of_cell? w _ hx113_1)).trans hx113_1
                     have HR113_1 := Aside0.mk hi113_1
                     have HC113_1 := Aside0.mk hl113_1
                     clear hi113_1 hl113_1
                     replace p113 := eq_true p113
                     replace q113 := eq_true q113
                     have p114 : 0 ≤ (x6_3 : Int) := of_decide_eq_true (by first | (with_reducible assumption) | assumption)
                     have q114 : x6_3 < (((rd_T92 l0 x4_1).f1).length : Int) := of_decide_eq_true (by first | (with_reducible assumption) | assumption)
                     obtain ⟨ad114, A114_0, c114_0, e114, hx114_0, hl114_0, hi114_0⟩ := at_L5 HR113_1.out x6_3 p114 q114
                     cases e114
                     replace hx114_0 := (HB.out.cell (World.block_lt_of_cell? w _ hx114_0)).trans hx114_0
                     have HR114_0 := Aside0.mk hi114_0
                     have HC114_0 := Aside0.mk hl114_0
                     clear hi114_0 hl114_0
                     replace p114 := eq_true p114
                     replace q114 := eq_true q114
                     go_wp2
                     go_meet
                     case rel => exact ⟨_, (decide (x8_5 < 6)), (by first | rfl | (simp; done) | (simp [*]; done)), H', ⟨by have := HK1.out; have := HJ3.out; have := HK3.out; have := HJ10.out; have := HK5.out; first | omega | exact Nat.le_refl _⟩, ⟨by (with_reducible repeat (first | apply Kd.R_alloc | apply Kd.R_drewN | apply Kd.R_drew)); exact HO_3.out⟩, ⟨by (with_reducible repeat (first | apply Kd.S_alloc | apply Kd.S_drewN | apply Kd.S_drew)); exact HO_7.out⟩, ⟨by (with_reducible repeat (first | apply Kd.R_alloc | apply Kd.R_drewN | apply Kd.R_drew)); exact HO_106001.out⟩, ⟨by (with_reducible repeat (first | refine blk_drewN ?_ _ | refine blk_drew ?_ | refine blk_alloc ?_ _)); exact BK105.out⟩, ⟨by repeat (first | (with_reducible first | exact HB.out | apply below_alloc | apply pw_below_drewN | apply below_drew1 | refine below_set ?_ GE105.out) | exact HB.out)⟩⟩
                    ·rw [if_neg c23] at H
                     have c23b0 : decide (x8_5 < ((rd_L5 ((rd_T92 l0 x4_1).f1) x6_3).length : Int)) = false := decide_eq_false c23
                     clear c23
                     have H' := Aside0.mk H
                     clear H
                     have p113 : 0 ≤ (x4_1 : Int) := of_decide_eq_true (by first | (with_reducible assumption) | assumption)
                     have q113 : x4_1 < (l0.length : Int) := of_decide_eq_true (by first | (with_reducible assumption) | assumption)
                     obtain ⟨ad113, A113_1, c113_1, e113, hx113_0, hx113_1, hl113_1, hi113_1⟩ := at_T92 HR0.out x4_1 p113 q113
                     obtain rfl : ad104 = ad113 := (by injection e113)
                     replace hx113_0 := (HB.out.cell (World.block_lt_of_cell? w _ hx113_0)).trans hx113_0
                     replace hx113_1 := (HB.out.cell (World.block_lt_of_cell? w _ hx113_1)).trans hx113_1
                     have HR113_1 := Aside0.mk hi113_1
                     have HC113_1 := Aside0.mk hl113_1
                     clear hi113_1 hl113_1
                     replace p113 := eq_true p113
                     replace q113 := eq_true q113
                     have p114 : 0 ≤ (x6_3 : Int) := of_decide_eq_true (by first | (with_reducible assumption) | assumption)
                     have q114 : x6_3 < (((rd_T92 l0 x4_1).f1).length : Int) := of_decide_eq_true (by first | (with_reducible assumption) | assumption)
                     obtain ⟨ad114, A114_0, c114_0, e114, hx114_0, hl114_0, hi114_0⟩ := at_L5 HR113_1.out x6_3 p114 q114
                     cases e114
                     replace hx114_0 := (HB.out.cell (World.block_lt_of_cell? w _ hx114_0)).trans hx114_0
                     have HR114_0 := Aside0.mk hi114_0
                     have HC114_0 := Aside0.mk hl114_0
                     clear hi114_0 hl114_0
                     replace p114 := eq_true p114
                     replace q114 := eq_true q114
                     go_wp2
                     go_meet
                     case rel => exact ⟨_, (false), (by first | rfl | (simp; done) | (simp [*]; done)), H', ⟨by have := HK1.out; have := HJ3.out; have := HK3.out; have := HJ10.out; have := HK5.out; first | omega | exact Nat.le_refl _⟩, ⟨by (with_reducible repeat (first | apply Kd.R_alloc | apply Kd.R_drewN | apply Kd.R_drew)); exact HO_3.out⟩, ⟨by (with_reducible repeat (first | apply Kd.S_alloc | apply Kd.S_drewN | apply Kd.S_drew)); exact HO_7.out⟩, ⟨by (with_reducible repeat (first | apply Kd.R_alloc | apply Kd.R_drewN | apply Kd.R_drew)); exact HO_106001.out⟩, ⟨by (with_reducible repeat (first | refine blk_drewN ?_ _ | refine blk_drew ?_ | refine blk_alloc ?_ _)); exact BK105.out⟩, ⟨by repeat (first | (with_reducible first | exact HB.out | apply below_alloc | apply pw_below_drewN | apply below_drew1 | refine below_set ?_ GE105.out) | exact HB.out)⟩⟩
                   ·rw [if_neg c22] at H
                    exact absurd H (by simp)
                  ·rw [if_neg c21] at H
                   exact absurd H (by simp)
                 ·rw [if_neg c20] at H
                  exact absurd H (by simp)
                ·rw [if_neg c19] at H
                 exact absurd H (by simp)
               case rest =>
                clear HC18
                try clear c1
                try clear p1
                try clear q1
                try clear hx1
                try clear c2
                try clear p2
                try clear c5
                try clear c5b0
                try clear c6
                try clear c7
                try clear c7b0
                try clear c8
                try clear c8b0
                try clear c10
                try clear p10
                try clear q10
                try clear hx10
                try clear c11
                try clear p11
                try clear q11
                try clear hx11
                try clear c12
                try clear c12b0
                try clear c13
                try clear c13b0
                try clear c14
                try clear c14b0
                try clear c15
                try clear c19
                try clear c19b0
                try clear c20
                try clear c20b0
                try clear c21
                try clear c21b0
                try clear c22
                try clear c22b0
                try clear c23
                try clear c23b0
                try clear hcz10_0
                try clear hcz10_1
                try clear hfz10_0
                try clear hfz10_1
                try clear hx104_0
                try clear hx104_1
                try clear hx106_0
                try clear hx106_1
                try clear hx113_0
                try clear hx113_1
                try clear hx114_0
                try clear p1
                try clear p10
                try clear p104
                try clear p106
                try clear p113
                try clear p114
                try clear p2
                try clear q1
                try clear q10
                try clear q104
                try clear q106
                try clear q113
                try clear q114
                obtain ⟨kq, x57_17, rfl, HA, HJ17, HO_3, HO_7, HO_106001, BK105, HB⟩ := hcut
                cases kq with
                | zero => exact absurd HA.out (by simp [logjamlaw26_Own.j5])
                | succ kj17 =>
                 have H := HA.out
                 clear HA
                 simp only [logjamlaw26_Own.j5] at H
                 by_cases c24 : x57_17 = true
                 ·subst c24
                  have H1 : (if 0 ≤ x4_1 then (if x4_1 < (l0.length : Int) then (if 0 ≤ x6_3 then (if x6_3 < (((rd_T92 l0 x4_1).f1).length : Int) then (if 0 ≤ x8_5 then (if x8_5 < ((rd_L5 ((rd_T92 l0 x4_1).f1) x6_3).length : Int) then (if (((rd_T96 (rd_L5 ((rd_T92 l0 x4_1).f1) x6_3) x8_5).f1).length : Int) > 70 then (if 70 ≤ (((rd_T96 (rd_L5 ((rd_T92 l0 x4_1).f1) x6_3) x8_5).f1).length : Int) then ((some (((rd_T96 (rd_L5 ((rd_T92 l0 x4_1).f1) x6_3) x8_5).f1).take 70 : List (S108))).bind fun y119 => ((some (([] : List (S108)) : List (S108))).bind fun y123 => (if y123.length + y119.length < 8796093022208 then (if x7_5.length < 4398046511104 then (logjamlaw26_Own.l2 kj17 l0 x3_1 x4_1 x6_3 (x7_5 ++ [(⟨(rd_T96 (rd_L5 ((rd_T92 l0 x4_1).f1) x6_3) x8_5).f0, (y123 ++ y119)⟩ : S96)]) (wrap64 (x8_5 + 1)) ((rd_T92 l0 x4_1).f0) x106001_3) else (none)) else (none)))) else (none)) else ((some (([] : List (S108)) : List (S108))).bind fun y132 => (if y132.length + ((rd_T96 (rd_L5 ((rd_T92 l0 x4_1).f1) x6_3) x8_5).f1).length < 8796093022208 then (if x7_5.length < 4398046511104 then (logjamlaw26_Own.l2 kj17 l0 x3_1 x4_1 x6_3 (x7_5 ++ [(⟨(rd_T96 (rd_L5 ((rd_T92 l0 x4_1).f1) x6_3) x8_5).f0, (y132 ++ ((rd_T96 (rd_L5 ((rd_T92 l0 x4_1).f1) x6_3) x8_5).f1))⟩ : S96)]) (wrap64 (x8_5 + 1)) ((rd_T92 l0 x4_1).f0) x106001_3) else (none)) else (none)))) else (none)) else (none)) else (none)) else (none)) else (none)) else (none)) = some r := by rw [if_pos rfl] at H; exact H
                  clear H
                  have H := H1
                  clear H1
                  by_cases c25 : 0 ≤ x4_1
                  ·rw [if_pos c25] at H
                   have c25b0 : decide (0 ≤ x4_1) = true := decide_eq_true c25
                   clear c25
                   by_cases c26 : x4_1 < (l0.length : Int)
                   ·rw [if_pos c26] at H
                    have c26b0 : decide (x4_1 < (l0.length : Int)) = true := decide_eq_true c26
                    clear c26
                    by_cases c27 : 0 ≤ x6_3
                    ·rw [if_pos c27] at H
                     have c27b0 : decide (0 ≤ x6_3) = true := decide_eq_true c27
                     clear c27
                     by_cases c28 : x6_3 < (((rd_T92 l0 x4_1).f1).length : Int)
                     ·rw [if_pos c28] at H
                      have c28b0 : decide (x6_3 < (((rd_T92 l0 x4_1).f1).length : Int)) = true := decide_eq_true c28
                      clear c28
                      by_cases c29 : 0 ≤ x8_5
                      ·rw [if_pos c29] at H
                       have c29b0 : decide (0 ≤ x8_5) = true := decide_eq_true c29
                       clear c29
                       by_cases c30 : x8_5 < ((rd_L5 ((rd_T92 l0 x4_1).f1) x6_3).length : Int)
                       ·rw [if_pos c30] at H
                        have c30b0 : decide (x8_5 < ((rd_L5 ((rd_T92 l0 x4_1).f1) x6_3).length : Int)) = true := decide_eq_true c30
                        clear c30
                        by_cases c31 : (((rd_T96 (rd_L5 ((rd_T92 l0 x4_1).f1) x6_3) x8_5).f1).length : Int) > 70
                        ·rw [if_pos c31] at H
                         have c31b0 : decide (70 < (((rd_T96 (rd_L5 ((rd_T92 l0 x4_1).f1) x6_3) x8_5).f1).length : Int)) = true := decide_eq_true c31
                         have c31b1 : decide (70 < ((rd_T96 (rd_L5 ((rd_T92 l0 x4_1).f1) x6_3) x8_5).f1).length) = true := decide_eq_true (by omega)
                         clear c31
                         by_cases c32 : 70 ≤ (((rd_T96 (rd_L5 ((rd_T92 l0 x4_1).f1) x6_3) x8_5).f1).length : Int)
                         ·rw [if_pos c32] at H
                          have c32b0 := eq_true c32
                          have c32b1 : decide (70 ≤ (((rd_T96 (rd_L5 ((rd_T92 l0 x4_1).f1) x6_3) x8_5).f1).length : Int)) = true := decide_eq_true c32
                          clear c32
                          obtain ⟨y119, hy119⟩ : ∃ y_ : List (S108), y_ = (((rd_T96 (rd_L5 ((rd_T92 l0 x4_1).f1) x6_3) x8_5).f1).take 70) := ⟨_, rfl⟩
                          replace H : ((some (([] : List (S108)) : List (S108))).bind fun y123 => (if y123.length + y119.length < 8796093022208 then (if x7_5.length < 4398046511104 then (logjamlaw26_Own.l2 kj17 l0 x3_1 x4_1 x6_3 (x7_5 ++ [(⟨(rd_T96 (rd_L5 ((rd_T92 l0 x4_1).f1) x6_3) x8_5).f0, (y123 ++ y119)⟩ : S96)]) (wrap64 (x8_5 + 1)) ((rd_T92 l0 x4_1).f0) x106001_3) else (none)) else (none))) = some r := by first | (rw [hy119]; with_reducible exact H) | (have H2_ := (Option.bind_some _ _).symm.trans H; rw [hy119]; with_reducible exact H2_) | (have H2_ := (Option.bind_some _ _).symm.trans H; with_reducible exact H2_) | with_reducible exact H | (rw [hy119]; exact H) | exact H
                          have Ny119 := Aside0.mk hy119
                          clear hy119
                          obtain ⟨y123, hy123⟩ : ∃ y_ : List (S108), y_ = (([] : List (S108))) := ⟨_, rfl⟩
                          replace H : (if y123.length + y119.length < 8796093022208 then (if x7_5.length < 4398046511104 then (logjamlaw26_Own.l2 kj17 l0 x3_1 x4_1 x6_3 (x7_5 ++ [(⟨(rd_T96 (rd_L5 ((rd_T92 l0 x4_1).f1) x6_3) x8_5).f0, (y123 ++ y119)⟩ : S96)]) (wrap64 (x8_5 + 1)) ((rd_T92 l0 x4_1).f0) x106001_3) else (none)) else (none)) = some r := by first | (rw [hy123]; with_reducible exact H) | (have H2_ := (Option.bind_some _ _).symm.trans H; rw [hy123]; with_reducible exact H2_) | (have H2_ := (Option.bind_some _ _).symm.trans H; with_reducible exact H2_) | with_reducible exact H | (rw [hy123]; exact H) | exact H
                          have Ny123 := Aside0.mk hy123
                          clear hy123
                          by_cases c33 : y123.length + y119.length < 8796093022208
                          ·rw [if_pos c33] at H
                           have LMc33 := Aside0.mk c33
                           clear c33
                           obtain ⟨y126, hy126⟩ : ∃ y_ : List (S108), y_ = (y123 ++ y119) := ⟨_, rfl⟩
                           replace H : (if x7_5.length < 4398046511104 then (logjamlaw26_Own.l2 kj17 l0 x3_1 x4_1 x6_3 (x7_5 ++ [(⟨(rd_T96 (rd_L5 ((rd_T92 l0 x4_1).f1) x6_3) x8_5).f0, y126⟩ : S96)]) (wrap64 (x8_5 + 1)) ((rd_T92 l0 x4_1).f0) x106001_3) else (none)) = some r := by first | (rw [hy126]; with_reducible exact H) | (have H2_ := (Option.bind_some _ _).symm.trans H; rw [hy126]; with_reducible exact H2_) | (have H2_ := (Option.bind_some _ _).symm.trans H; with_reducible exact H2_) | with_reducible exact H | (rw [hy126]; exact H) | exact H
                           have Ny126 := Aside0.mk hy126
                           clear hy126
                           by_cases c34 : x7_5.length < 4398046511104
                           ·rw [if_pos c34] at H
                            have LMc34 := Aside0.mk c34
                            clear c34
                            obtain ⟨y129, hy129⟩ : ∃ y_ : List (S96), y_ = (x7_5 ++ [(⟨(rd_T96 (rd_L5 ((rd_T92 l0 x4_1).f1) x6_3) x8_5).f0, y126⟩ : S96)]) := ⟨_, rfl⟩
                            replace H : (logjamlaw26_Own.l2 kj17 l0 x3_1 x4_1 x6_3 y129 (wrap64 (x8_5 + 1)) ((rd_T92 l0 x4_1).f0) x106001_3) = some r := by first | (rw [hy129]; with_reducible exact H) | (have H2_ := (Option.bind_some _ _).symm.trans H; rw [hy129]; with_reducible exact H2_) | (have H2_ := (Option.bind_some _ _).symm.trans H; with_reducible exact H2_) | with_reducible exact H | (rw [hy129]; exact H) | exact H
                            have Ny129 := Aside0.mk hy129
                            clear hy129
                            have H' := Aside0.mk H
                            clear H
                            have p115 : 0 ≤ (x4_1 : Int) := of_decide_eq_true (by first | (with_reducible assumption) | assumption)
                            have q115 : x4_1 < (l0.length : Int) := of_decide_eq_true (by first | (with_reducible assumption) | assumption)
                            obtain ⟨ad115, A115_1, c115_1, e115, hx115_0, hx115_1, hl115_1, hi115_1⟩ := at_T92 HR0.out x4_1 p115 q115
                            obtain rfl : ad104 = ad115 := (by injection e115)
                            replace hx115_0 := (HB.out.cell (World.block_lt_of_cell? w _ hx115_0)).trans hx115_0
                            replace hx115_1 := (HB.out.cell (World.block_lt_of_cell? w _ hx115_1)).trans hx115_1
                            have HR115_1 := Aside0.mk hi115_1
                            have HC115_1 := Aside0.mk hl115_1
                            clear hi115_1 hl115_1
                            replace p115 := eq_true p115
                            replace q115 := eq_true q115
                            have p116 : 0 ≤ (x6_3 : Int) := of_decide_eq_true (by first | (with_reducible assumption) | assumption)
                            have q116 : x6_3 < (((rd_T92 l0 x4_1).f1).length : Int) := of_decide_eq_true (by first | (with_reducible assumption) | assumption)
                            obtain ⟨ad116, A116_0, c116_0, e116, hx116_0, hl116_0, hi116_0⟩ := at_L5 HR115_1.out x6_3 p116 q116
                            cases e116
                            replace hx116_0 := (HB.out.cell (World.block_lt_of_cell? w _ hx116_0)).trans hx116_0
                            have HR116_0 := Aside0.mk hi116_0
                            have HC116_0 := Aside0.mk hl116_0
                            clear hi116_0 hl116_0
                            replace p116 := eq_true p116
                            replace q116 := eq_true q116
                            have p117 : 0 ≤ (x8_5 : Int) := of_decide_eq_true (by first | (with_reducible assumption) | assumption)
                            have q117 : x8_5 < ((rd_L5 ((rd_T92 l0 x4_1).f1) x6_3).length : Int) := of_decide_eq_true (by first | (with_reducible assumption) | assumption)
                            obtain ⟨ad117, A117_1, c117_1, e117, hx117_0, hx117_1, hl117_1, hi117_1⟩ := at_T96 HR116_0.out x8_5 p117 q117
                            cases e117
                            replace hx117_0 := (HB.out.cell (World.block_lt_of_cell? w _ hx117_0)).trans hx117_0
                            replace hx117_1 := (HB.out.cell (World.block_lt_of_cell? w _ hx117_1)).trans hx117_1
                            have HR117_1 := Aside0.mk hi117_1
                            have HC117_1 := Aside0.mk hl117_1
                            clear hi117_1 hl117_1
                            replace p117 := eq_true p117
                            replace q117 := eq_true q117
                            try go_wp2_with (first | ((with_reducible refine gate_dst (N := 9) rfl ?_); refine box_event ?hg (N := 9) ?hd (cs := #[.int .i64 0, .slice none 0 0]) (t := 96) ?hr ?_; (case hd => rfl); (case hg => rfl); (case hr => first | (go_simp; done) | (go_simp; rfl)); intro gb118 hg w35 hbox hb; have n0_ := Aside0.mk (Kd.R_below (Kd.R_elderB (by (with_reducible repeat (first | apply Kd.R_alloc | apply Kd.R_drewN | apply Kd.R_drew)); exact HO_3.out) gb118 (Nat.le_of_eq hg.symm)) hb); have n1_ := Aside0.mk (Kd.S_below (Kd.S_elderB (by (with_reducible repeat (first | apply Kd.S_alloc | apply Kd.S_drewN | apply Kd.S_drew)); exact HO_7.out) gb118 (Nat.le_of_eq hg.symm)) hb); have n2_ := Aside0.mk (Kd.R_below (Kd.R_elderB (by (with_reducible repeat (first | apply Kd.R_alloc | apply Kd.R_drewN | apply Kd.R_drew)); exact HO_106001.out) gb118 (Nat.le_of_eq hg.symm)) hb); have n3_ := Aside0.mk (blk_below (g := gb105) (o := .cells #[.bool ((rd_T92 l0 x4_1).f0), u106001] 92 (0, 0)) (by (with_reducible repeat (first | refine blk_drewN ?_ _ | refine blk_drew ?_ | refine blk_alloc ?_ _)); exact BK105.out) hb); have n4_ := Aside0.mk (below_step (by repeat (first | (with_reducible first | exact HB.out | apply below_alloc | apply pw_below_drewN | apply below_drew1 | refine below_set ?_ GE105.out) | exact HB.out)) hb); have n5_ := Aside0.mk (hbox); have n6_ := Aside0.mk ((by rw [hg]; exact (below_size (by repeat (first | (with_reducible first | exact HB.out | apply below_alloc | apply pw_below_drewN | apply below_drew1 | refine below_set ?_ GE105.out) | exact HB.out))) : w.heap.size ≤ gb118)); have n7_ := Aside0.mk ((by rw [hg]; exact (below_size (by repeat (first | (with_reducible first | exact HB.out | apply below_alloc | apply pw_below_drewN | apply below_drew1 | refine below_set ?_ GE105.out) | exact HB.out))) : w.heap.size ≤ gb118)); have n8_ := Aside0.mk ((by rw [hg]; exact Nat.ne_of_lt (blk_lt (g := gb105) (o := .cells #[.bool ((rd_T92 l0 x4_1).f0), u106001] 92 (0, 0)) (by (with_reducible repeat (first | refine blk_drewN ?_ _ | refine blk_drew ?_ | refine blk_alloc ?_ _)); exact BK105.out)) : gb105 ≠ gb118)); have n9_ := Aside0.mk ((by rw [hg]; exact Nat.ne_of_gt (blk_lt (g := gb105) (o := .cells #[.bool ((rd_T92 l0 x4_1).f0), u106001] 92 (0, 0)) (by (with_reducible repeat (first | refine blk_drewN ?_ _ | refine blk_drew ?_ | refine blk_alloc ?_ _)); exact BK105.out)) : gb118 ≠ gb105)); clear HO_3; clear HO_7; clear HO_106001; clear BK105; clear HB; have HO_3 := n0_; have HO_7 := n1_; have HO_106001 := n2_; have BK105 := n3_; have HB := n4_; have BK118 := n5_; have GW118 := n6_; have GE118 := n7_; have NB105_118 := n8_; have NB118_105 := n9_; clear n0_ n1_ n2_ n3_ n4_ n5_ n6_ n7_ n8_ n9_; clear hb hbox hg; have hnb36 := NB118_105.out; have hnc36 := NB105_118.out; have hcz37_0 : w35.cell? ⟨gb118, 0, none⟩ = some (.int .i64 0) := (blk_cell BK118.out 0).trans rfl; have hcz37_1 : w35.cell? ⟨gb118, 1, none⟩ = some (.slice none 0 0) := (blk_cell BK118.out 1).trans rfl; have hfz37_0 := blk_frozen BK118.out 0; have hfz37_1 := blk_frozen BK118.out 1) | ((with_reducible refine gate_store (t := 96) (p := 9) rfl ?_); refine store_event (t := 96) (p := 9) (v := ?vo_w38) (w1 := ((w35.setCell ⟨gb118, 0, none⟩ (.int .i64 ((rd_T96 (rd_L5 ((rd_T92 l0 x4_1).f1) x6_3) x8_5).f0))).setCell ⟨gb118, 1, none⟩ (.slice A117_1 ((rd_T96 (rd_L5 ((rd_T92 l0 x4_1).f1) x6_3) x8_5).f1).length c117_1))) ?hg ?ho ?hn ?hr ?_; (case ho => rfl); (case hg => rfl); (case hn => rfl); (case hr => first | (go_simp; done) | (go_simp; rfl)); intro w38 hw; have n0_ : Aside0 (Kd.R k92 92 w38 w.heap.size (fun k_ => some k_ ≠ (u7 : Value).ownBlock ∧ some k_ ≠ (u106001 : Value).ownBlock ∧ k_ ≠ gb105 ∧ k_ ≠ gb118) u3 x3_1) := ⟨(by rw [hw]; exact (by (with_reducible repeat (first | apply Kd.R_alloc | apply Kd.R_drewN | apply Kd.R_drew)); exact Kd.R_mono (Kd.R_far (p := ⟨gb118, 1, none⟩) (Kd.R_far (p := ⟨gb118, 0, none⟩) (Kd.R_mono HO_3.out (fun k_ hk => (⟨hk, hk.2⟩ : _ ∧ k_ ≠ gb118))) (fun _ hk => hk.2) (.int .i64 ((rd_T96 (rd_L5 ((rd_T92 l0 x4_1).f1) x6_3) x8_5).f0))) (fun _ hk => hk.2) (.slice A117_1 ((rd_T96 (rd_L5 ((rd_T92 l0 x4_1).f1) x6_3) x8_5).f1).length c117_1)) (fun _ hk => ⟨hk.1.1.1, ⟨hk.1.1.2.1, ⟨hk.1.1.2.2, hk.1.2⟩⟩⟩)))⟩; have n1_ : Aside0 (Kd.S k96 96 w38 w.heap.size (fun k_ => k_ ≠ gb118) u7 x7_5) := ⟨(by rw [hw]; exact (by (with_reducible repeat (first | apply Kd.S_alloc | apply Kd.S_drewN | apply Kd.S_drew)); exact Kd.S_mono (Kd.S_far (p := ⟨gb118, 1, none⟩) (Kd.S_far (p := ⟨gb118, 0, none⟩) (Kd.S_mono HO_7.out (fun k_ hk => (⟨hk, hk.2⟩ : _ ∧ k_ ≠ gb118))) (fun _ hk => hk.2) (.int .i64 ((rd_T96 (rd_L5 ((rd_T92 l0 x4_1).f1) x6_3) x8_5).f0))) (fun _ hk => hk.2) (.slice A117_1 ((rd_T96 (rd_L5 ((rd_T92 l0 x4_1).f1) x6_3) x8_5).f1).length c117_1)) (fun _ hk => hk.1.2)))⟩; have n2_ : Aside0 (Kd.R (Kd.slice 96 k96) 93 w38 w.heap.size (fun k_ => some k_ ≠ (u7 : Value).ownBlock ∧ k_ ≠ gb118) u106001 x106001_3) := ⟨(by rw [hw]; exact (by (with_reducible repeat (first | apply Kd.R_alloc | apply Kd.R_drewN | apply Kd.R_drew)); exact Kd.R_mono (Kd.R_far (p := ⟨gb118, 1, none⟩) (Kd.R_far (p := ⟨gb118, 0, none⟩) (Kd.R_mono HO_106001.out (fun k_ hk => (⟨hk, hk.2⟩ : _ ∧ k_ ≠ gb118))) (fun _ hk => hk.2) (.int .i64 ((rd_T96 (rd_L5 ((rd_T92 l0 x4_1).f1) x6_3) x8_5).f0))) (fun _ hk => hk.2) (.slice A117_1 ((rd_T96 (rd_L5 ((rd_T92 l0 x4_1).f1) x6_3) x8_5).f1).length c117_1)) (fun _ hk => ⟨hk.1.1, hk.1.2⟩)))⟩; have n3_ : Aside0 (w38.heap[gb105]? = some (.cells #[.bool ((rd_T92 l0 x4_1).f0), u106001] 92 (0, 0))) := ⟨(by rw [hw]; exact (by (with_reducible repeat (first | refine blk_drewN ?_ _ | refine blk_drew ?_ | refine blk_alloc ?_ _)); refine blk_far ?_ NB105_118.out _; (with_reducible repeat (first | refine blk_drewN ?_ _ | refine blk_drew ?_ | refine blk_alloc ?_ _)); refine blk_far ?_ NB105_118.out _; (with_reducible repeat (first | refine blk_drewN ?_ _ | refine blk_drew ?_ | refine blk_alloc ?_ _)); exact BK105.out))⟩; have n4_ : Aside0 (w38.heap[gb118]? = some (.cells #[.int .i64 ((rd_T96 (rd_L5 ((rd_T92 l0 x4_1).f1) x6_3) x8_5).f0), .slice A117_1 ((rd_T96 (rd_L5 ((rd_T92 l0 x4_1).f1) x6_3) x8_5).f1).length c117_1] 96 (0, 0))) := ⟨(by rw [hw]; exact (by (with_reducible repeat (first | refine blk_drewN ?_ _ | refine blk_drew ?_ | refine blk_alloc ?_ _)); refine blk_put (cs := #[.int .i64 ((rd_T96 (rd_L5 ((rd_T92 l0 x4_1).f1) x6_3) x8_5).f0), .slice none 0 0]) ?_ 1 _ rfl; (with_reducible repeat (first | refine blk_drewN ?_ _ | refine blk_drew ?_ | refine blk_alloc ?_ _)); refine blk_put (cs := #[.int .i64 0, .slice none 0 0]) ?_ 0 _ rfl; (with_reducible repeat (first | refine blk_drewN ?_ _ | refine blk_drew ?_ | refine blk_alloc ?_ _)); exact BK118.out))⟩; have n5_ : Aside0 (Below w.heap.size w w38) := ⟨(by rw [hw]; exact (by repeat (first | (with_reducible first | exact HB.out | apply below_alloc | apply pw_below_drewN | apply below_drew1 | refine below_set ?_ GE105.out | refine below_set ?_ GE118.out) | exact HB.out)))⟩; clear hw; clear HO_3; clear HO_7; clear HO_106001; clear BK105; clear BK118; clear HB; have HO_3 := n0_; have HO_7 := n1_; have HO_106001 := n2_; have BK105 := n3_; have BK118 := n4_; have HB := n5_; clear n0_ n1_ n2_ n3_ n4_ n5_; have hcz39_0 : w38.cell? ⟨gb118, 0, none⟩ = some (.int .i64 ((rd_T96 (rd_L5 ((rd_T92 l0 x4_1).f1) x6_3) x8_5).f0)) := (blk_cell BK118.out 0).trans rfl; have hcz39_1 : w38.cell? ⟨gb118, 1, none⟩ = some (.slice A117_1 ((rd_T96 (rd_L5 ((rd_T92 l0 x4_1).f1) x6_3) x8_5).f1).length c117_1) := (blk_cell BK118.out 1).trans rfl; have hfz39_0 := blk_frozen BK118.out 0; have hfz39_1 := blk_frozen BK118.out 1; have q40 : (70 : Int) ≤ ((((rd_T96 (rd_L5 ((rd_T92 l0 x4_1).f1) x6_3) x8_5).f1).length : Int) : Int) := of_decide_eq_true (by first | (with_reducible assumption) | assumption); obtain ⟨i040, hi040, _, hsz40, _⟩ := info_parts info108; have hroom40 : ((rd_T96 (rd_L5 ((rd_T92 l0 x4_1).f1) x6_3) x8_5).f1).length ≤ c117_1 := HC117_1.out; have hC40 : Kd.C k108 _ A117_1 ((rd_T96 (rd_L5 ((rd_T92 l0 x4_1).f1) x6_3) x8_5).f1).length ((rd_T96 (rd_L5 ((rd_T92 l0 x4_1).f1) x6_3) x8_5).f1) := HR117_1.out; have hcut40 := cut_to (P := Tryd.prog) 94 108 .i64 Tryd.underlying94 hi040 A117_1 ((rd_T96 (rd_L5 ((rd_T92 l0 x4_1).f1) x6_3) x8_5).f1).length c117_1 70 (by omega) q40 hroom40; have hr40 := Kd.C_take (m := 70) hC40 (by omega); have hy40 : y119.length = (70 : Int).toNat := (by rw [Ny119.out, List.length_take]; omega); rw [← Ny119.out] at hr40; rw [← hy40] at hcut40; have HR122 := Aside0.mk hr40; have HC122 := Aside0.mk (show y119.length ≤ c117_1 from by omega); clear hr40 hC40 hroom40 hi040 hsz40; have KY40 := Aside0.mk hy40; clear hy40; replace q40 := eq_true q40))
                            have n0_ := Aside0.mk (Kd.R_drew HO_3.out)
                            have n1_ := Aside0.mk (Kd.S_drew HO_7.out)
                            have n2_ := Aside0.mk (Kd.R_drew HO_106001.out)
                            have n3_ := Aside0.mk (blk_drew BK105.out)
                            have n4_ := Aside0.mk (blk_drew BK118.out)
                            have n5_ := Aside0.mk (below_drew1 HB.out)
                            clear HO_3
                            clear HO_7
                            clear HO_106001
                            clear BK105
                            clear BK118
                            clear HB
                            have HO_3 := n0_
                            have HO_7 := n1_
                            have HO_106001 := n2_
                            have BK105 := n3_
                            have BK118 := n4_
                            have HB := n5_
                            clear n0_ n1_ n2_ n3_ n4_ n5_
                            refine start_ (n := 10) (S := fun w' => w'.cell? ⟨gb118, 0, none⟩ = some (.int .i64 ((rd_T96 (rd_L5 ((rd_T92 l0 x4_1).f1) x6_3) x8_5).f0)) ∧ w'.cell? ⟨gb118, 1, none⟩ = some (.slice A117_1 ((rd_T96 (rd_L5 ((rd_T92 l0 x4_1).f1) x6_3) x8_5).f1).length c117_1)) (ds := []) #[false, false, false, false, false, false, false, false, false, false] (by kernel_rfl) rfl rfl ⟨(blk_cell BK118.out 0).trans rfl, (blk_cell BK118.out 1).trans rfl⟩ (fun hHeld => ?_); refine with_tabW logjamlaw26_Own.tab17 logjamlaw26_Own.bits17 (fun HT_ HW_ => ?_)
                            generalize w38.drew = w41 at HO_3 HO_7 HO_106001 BK105 BK118 HB hHeld ⊢
                            refine pure_ (i := 0) (N := some 78) (v := ?_) (a' := ?_) #[true, false, false, false, false, false, false, false, false, false] rfl rfl (any_of HT_.out (by kernel_rfl)) (fun _ _ _ h => h) (Or.inl ⟨by rfl, ?_⟩) ?_ ?_
                            rotate_left
                            ·intro w'
                             go_simp
                             with_reducible rfl
                            rotate_left
                            ·simp only [Act.put, List.setIfInBounds_toArray, List.set_cons_zero, List.set_cons_succ, i64_w, i32_w]
                             rfl
                            refine pure_ (i := 1) (N := some 79) (v := ?_) (a' := ?_) #[true, true, false, false, false, false, false, false, false, false] rfl rfl (any_of HT_.out (by kernel_rfl)) (fun _ _ _ h => h) (Or.inl ⟨by rfl, ?_⟩) ?_ ?_
                            rotate_left
                            ·intro w'
                             go_simp
                             with_reducible rfl
                            rotate_left
                            ·simp only [Act.put, List.setIfInBounds_toArray, List.set_cons_zero, List.set_cons_succ, i64_w, i32_w]
                             rfl
                            refine pure_ (i := 4) (N := some 82) (v := ?_) (a' := ?_) #[true, true, false, false, true, false, false, false, false, false] rfl rfl (any_of HT_.out (by kernel_rfl)) (fun _ _ _ h => h) (Or.inl ⟨by rfl, ?_⟩) ?_ ?_
                            rotate_left
                            ·intro w'
                             go_simp
                             with_reducible rfl
                            rotate_left
                            ·simp only [Act.put, List.setIfInBounds_toArray, List.set_cons_zero, List.set_cons_succ, i64_w, i32_w]
                             rfl
                            refine take_ (i := 2) (N := some 80) (v := ?_) (a' := ?_) #[true, true, true, false, true, false, false, false, false, false] rfl rfl (take_ofW HT_.out HW_.out (by kernel_rfl)) (fun _ _ _ h => h) (Or.inl ⟨by rfl, ?_⟩) hHeld ?_ ?_
                            rotate_left
                            ·rintro w' ⟨s0, s1⟩
                             go_simp
                             with_reducible rfl
                            rotate_left
                            ·simp only [Act.put, List.setIfInBounds_toArray, List.set_cons_zero, List.set_cons_succ, i64_w, i32_w]
                             rfl
                            refine one_ (i := 3) (N := some 81) #[true, true, true, true, true, false, false, false, false, false] rfl rfl (one_of HT_.out (by kernel_rfl)) (by decide) (fun K hK => ?_)
                            refine Kd.R_lit_step k108 _ 108 ?hg (N := 81) ?hd (xs := ([] : List (S108))) (inner := []) (ok := fun _ => True) (okp := fun _ => True) ?hr ?hp (fun _ hk => hk) trivial (Below.refl _ _) (Nat.le_refl _) (by simp) ?_; (case hd => rfl); (case hg => rfl); (case hr => first | (go_simp; done) | (go_simp; rfl)); (case hp => exact (Reps.none _ _))
                            intro v124 w42 ho43 hb hg_ hnew_
                            clear hg_ hnew_
                            (first | rw [← Ny123.out] at ho43 | (simp only [Int.reduceToNat] at ho43; rw [← Ny123.out] at ho43))
                            have n0_ := Aside0.mk (Kd.R_elder' (by (with_reducible repeat (first | apply Kd.R_alloc | apply Kd.R_drewN | apply Kd.R_drew)); exact HO_3.out) (Kd.R_base ho43) hb)
                            have n1_ := Aside0.mk (Kd.S_elder' (by (with_reducible repeat (first | apply Kd.S_alloc | apply Kd.S_drewN | apply Kd.S_drew)); exact HO_7.out) (Kd.R_base ho43) hb)
                            have n2_ := Aside0.mk (Kd.R_elder' (by (with_reducible repeat (first | apply Kd.R_alloc | apply Kd.R_drewN | apply Kd.R_drew)); exact HO_106001.out) (Kd.R_base ho43) hb)
                            have n3_ := Aside0.mk (Kd.R_lower ho43 (below_size (by repeat (first | (with_reducible first | exact HB.out | apply below_alloc | apply pw_below_drewN | apply below_drew1 | refine below_set ?_ GE105.out | refine below_set ?_ GE118.out) | exact HB.out))))
                            have n4_ := Aside0.mk (blk_below (g := gb105) (o := .cells #[.bool ((rd_T92 l0 x4_1).f0), u106001] 92 (0, 0)) (by (with_reducible repeat (first | refine blk_drewN ?_ _ | refine blk_drew ?_ | refine blk_alloc ?_ _)); exact BK105.out) hb)
                            have n5_ := Aside0.mk (blk_below (g := gb118) (o := .cells #[.int .i64 ((rd_T96 (rd_L5 ((rd_T92 l0 x4_1).f1) x6_3) x8_5).f0), .slice A117_1 ((rd_T96 (rd_L5 ((rd_T92 l0 x4_1).f1) x6_3) x8_5).f1).length c117_1] 96 (0, 0)) (by (with_reducible repeat (first | refine blk_drewN ?_ _ | refine blk_drew ?_ | refine blk_alloc ?_ _)); exact BK118.out) hb)
                            have n6_ := Aside0.mk (below_step (by repeat (first | (with_reducible first | exact HB.out | apply below_alloc | apply pw_below_drewN | apply below_drew1 | refine below_set ?_ GE105.out | refine below_set ?_ GE118.out) | exact HB.out)) hb)
                            clear HO_3
                            clear HO_7
                            clear HO_106001
                            clear BK105
                            clear BK118
                            clear HB
                            have HO_3 := n0_
                            have HO_7 := n1_
                            have HO_106001 := n2_
                            have HO125 := n3_
                            have BK105 := n4_
                            have BK118 := n5_
                            have HB := n6_
                            clear n0_ n1_ n2_ n3_ n4_ n5_ n6_
                            clear hb ho43
                            refine hK.out _ _ ⟨(blk_cell BK118.out 0).trans rfl, (blk_cell BK118.out 1).trans rfl⟩ (fun hHeld => ?_)
                            clear hK K
                            refine norm_ (a' := ?_) ?_ ?_
                            rotate_left
                            ·show Act.put _ (some 81) _ = _
                             simp only [Act.put, List.setIfInBounds_toArray, List.set_cons_zero, List.set_cons_succ, i64_w, i32_w]
                             rfl
                            refine one_ (i := 5) (N := some 83) #[true, true, true, true, true, true, false, false, false, false] rfl rfl (one_of HT_.out (by kernel_rfl)) (by decide) (fun K hK => ?_)
                            refine Kd.R_append_rows_step k108 (w0 := w) w.heap.size (by rfl) (.tmp 81) (.tmp 82) 94 108 (.agg #[(.int .i64 0), (.int .i64 0)]) 16 rfl Tryd.underlying94 info108 rfl (by decide) (by omega) v124 y123 y119 _ _ _ (fun _ => True) (fun _ => False) rfl rfl ?aO ?aR (fun _ _ h => h) (fun _ h => h.elim) ?aF ?aB ?aS ?aL ?_
                            (case aR => repeat (first | exact (Kd.C_below HR122.out HB.out) | (with_reducible refine Kd.C_alloc ?_ _) | (with_reducible refine Kd.C_drewN ?_ _) | (with_reducible refine Kd.C_drew ?_)))
                            (case aB => exact (by repeat (first | (with_reducible first | exact HB.out | apply below_alloc | apply pw_below_drewN | apply below_drew1 | refine below_set ?_ GE105.out | refine below_set ?_ GE118.out) | exact HB.out)))
                            (case aF => exact (fun _ _ => trivial))
                            (case aO => exact (by (with_reducible repeat (first | apply Kd.R_alloc | apply Kd.R_drewN | apply Kd.R_drew)); exact HO125.out))
                            (case aS => exact (below_size (by repeat (first | (with_reducible first | exact HB.out | apply below_alloc | apply pw_below_drewN | apply below_drew1 | refine below_set ?_ GE105.out | refine below_set ?_ GE118.out) | exact HB.out))))
                            (case aL => have := LMc33.out; omega)
                            intro v127 w44 ho hb hg hat
                            rw [← Ny126.out] at ho
                            have n0_ := Aside0.mk (Kd.R_after (ok := (fun k_ => some k_ ≠ (u7 : Value).ownBlock ∧ some k_ ≠ (u106001 : Value).ownBlock ∧ k_ ≠ gb105 ∧ k_ ≠ gb118)) (by (with_reducible repeat (first | apply Kd.R_alloc | apply Kd.R_drewN | apply Kd.R_drew)); exact HO_3.out) hg hat)
                            have n1_ := Aside0.mk (Kd.S_after (ok := (fun k_ => k_ ≠ gb118)) (by (with_reducible repeat (first | apply Kd.S_alloc | apply Kd.S_drewN | apply Kd.S_drew)); exact HO_7.out) hg hat)
                            have n2_ := Aside0.mk (Kd.R_after (ok := (fun k_ => some k_ ≠ (u7 : Value).ownBlock ∧ k_ ≠ gb118)) (by (with_reducible repeat (first | apply Kd.R_alloc | apply Kd.R_drewN | apply Kd.R_drew)); exact HO_106001.out) hg hat)
                            have n3_ := Aside0.mk (blk_grown (g := gb105) (o := .cells #[.bool ((rd_T92 l0 x4_1).f0), u106001] 92 (0, 0)) (by (with_reducible repeat (first | refine blk_drewN ?_ _ | refine blk_drew ?_ | refine blk_alloc ?_ _)); exact BK105.out) hg (Kd.R_ne HO125.out BK105.out (by decide)))
                            have n4_ := Aside0.mk (blk_grown (g := gb118) (o := .cells #[.int .i64 ((rd_T96 (rd_L5 ((rd_T92 l0 x4_1).f1) x6_3) x8_5).f0), .slice A117_1 ((rd_T96 (rd_L5 ((rd_T92 l0 x4_1).f1) x6_3) x8_5).f1).length c117_1] 96 (0, 0)) (by (with_reducible repeat (first | refine blk_drewN ?_ _ | refine blk_drew ?_ | refine blk_alloc ?_ _)); exact BK118.out) hg (Kd.R_ne HO125.out BK118.out (by decide)))
                            have n5_ := Aside0.mk (hb)
                            have n6_ := Aside0.mk (ho)
                            clear HO_3
                            clear HO_7
                            clear HO_106001
                            clear BK105
                            clear BK118
                            clear HB
                            clear HO125
                            have HO_3 := n0_
                            have HO_7 := n1_
                            have HO_106001 := n2_
                            have BK105 := n3_
                            have BK118 := n4_
                            have HB := n5_
                            have HO128 := n6_
                            clear n0_ n1_ n2_ n3_ n4_ n5_ n6_
                            clear ho hb hg hat
                            obtain ⟨Ao45, co45, eo45⟩ := Kd.R_slice HO128.out
                            (first | subst eo45 | (injection eo45 with f1_ f2_ f3_; have f4_ := f1_.symm; have f5_ := f3_.symm; clear f1_ f2_ f3_; subst f4_; subst f5_))
                            refine hK.out _ _ ⟨(blk_cell BK118.out 0).trans rfl, (blk_cell BK118.out 1).trans rfl⟩ (fun hHeld => ?_)
                            clear hK K
                            refine norm_ (a' := ?_) ?_ ?_
                            rotate_left
                            ·show Act.put _ (some 83) _ = _
                             simp only [Act.put, List.setIfInBounds_toArray, List.set_cons_zero, List.set_cons_succ, i64_w, i32_w]
                             rfl
                            refine pure_ (i := 6) (N := some 84) (v := ?_) (a' := ?_) #[true, true, true, true, true, true, true, false, false, false] rfl rfl (any_of HT_.out (by kernel_rfl)) (fun _ _ _ h => h) (Or.inl ⟨by rfl, ?_⟩) ?_ ?_
                            rotate_left
                            ·intro w'
                             go_simp
                             with_reducible rfl
                            rotate_left
                            ·simp only [Act.put, List.setIfInBounds_toArray, List.set_cons_zero, List.set_cons_succ, i64_w, i32_w]
                             rfl
                            refine one_ (i := 7) (N := some 85) #[true, true, true, true, true, true, true, true, false, false] rfl rfl (one_of HT_.out (by kernel_rfl)) (by decide) (fun K hK => ?_)
                            refine value_ (w1 := ?_) (v := ?_) (by rfl) rfl ?_ ?_
                            rotate_left 2
                            ·go_simp
                             constructor
                             ·rfl
                             ·rfl
                            refine hK.out _ _ ⟨(blk_cell (blk_alloc BK118.out _) 0).trans rfl, (blk_cell (blk_alloc BK118.out _) 1).trans rfl⟩ (fun hHeld => ?_)
                            clear hK K
                            refine norm_ (a' := ?_) ?_ ?_
                            rotate_left
                            ·show Act.put _ (some 85) _ = _
                             simp only [Act.put, List.setIfInBounds_toArray, List.set_cons_zero, List.set_cons_succ, i64_w, i32_w]
                             rfl
                            refine one_ (i := 8) (N := some 86) #[true, true, true, true, true, true, true, true, true, false] rfl rfl (one_of HT_.out (by kernel_rfl)) (by decide) (fun K hK => ?_)
                            refine Kd.S_append_step k96 (w0 := w) w.heap.size (by rfl) (.tmp 78) (.tmp 85) 93 96 (.agg #[(.int .i64 0), (.slice none 0 0)]) 32 rfl Tryd.underlying93 info96 rfl (by decide) (by omega) u7 x7_5 (⟨(rd_T96 (rd_L5 ((rd_T92 l0 x4_1).f1) x6_3) x8_5).f0, y126⟩ : S96) [.int .i64 ((rd_T96 (rd_L5 ((rd_T92 l0 x4_1).f1) x6_3) x8_5).f0), .slice Ao45 y126.length co45] (fun k_ => k_ ≠ gb118) (fun k_ => some k_ = (.slice Ao45 y126.length co45 : Value).ownBlock) rfl rfl ?aP (fun k_ hk_ => ((Kd.R_mono (ok' := fun k_ => ((fun k_ => k_ ≠ gb118)) k_ ∧ some k_ ≠ (u7 : Value).ownBlock) (Kd.R_types (Kd.R_apart' (HO128.out) (Kd.S_typed HO_7.out) (by decide)) BK118.out (by decide)) (fun k_ hk => ⟨hk.2, hk.1.2⟩))).1 k_ hk_.symm) ?aF ?aO ?aB ?aS ?aL ?_
                            (case aP => exact k96_mkM _ _ _ (⟨(rd_T96 (rd_L5 ((rd_T92 l0 x4_1).f1) x6_3) x8_5).f0, y126⟩ : S96) (Kd.R_mono (Kd.R_tight rfl (Kd.R_mono (ok' := fun k_ => ((fun k_ => k_ ≠ gb118)) k_ ∧ some k_ ≠ (u7 : Value).ownBlock) (Kd.R_types (Kd.R_apart' (HO128.out) (Kd.S_typed HO_7.out) (by decide)) BK118.out (by decide)) (fun k_ hk => ⟨hk.2, hk.1.2⟩))) (fun _ h_ => h_)))
                            (case aB => exact (by repeat (first | (with_reducible first | exact HB.out | apply below_alloc | apply pw_below_drewN | apply below_drew1 | refine below_set ?_ GE105.out | refine below_set ?_ GE118.out) | exact HB.out)))
                            (case aF => exact (fun k_ hk => Kd.freshB (g := gb118) (o := .cells #[.int .i64 ((rd_T96 (rd_L5 ((rd_T92 l0 x4_1).f1) x6_3) x8_5).f0), .slice A117_1 ((rd_T96 (rd_L5 ((rd_T92 l0 x4_1).f1) x6_3) x8_5).f1).length c117_1] 96 (0, 0)) (by (with_reducible repeat (first | refine blk_drewN ?_ _ | refine blk_drew ?_ | refine blk_alloc ?_ _)); exact BK118.out) k_ hk))
                            (case aO => exact (by (with_reducible repeat (first | apply Kd.S_alloc | apply Kd.S_drewN | apply Kd.S_drew)); exact Kd.S_mono HO_7.out (fun k_ hk => ⟨hk.1, fun e_ => hk.2 e_⟩)))
                            (case aS => exact (below_size (by repeat (first | (with_reducible first | exact HB.out | apply below_alloc | apply pw_below_drewN | apply below_drew1 | refine below_set ?_ GE105.out | refine below_set ?_ GE118.out) | exact HB.out))))
                            (case aL => have := LMc34.out; omega)
                            intro v130 w46 ho hb hg hat
                            rw [← Ny129.out] at ho
                            have n0_ := Aside0.mk (Kd.R_after (ok := (fun k_ => some k_ ≠ (u106001 : Value).ownBlock ∧ some k_ ≠ (.slice Ao45 y126.length co45 : Value).ownBlock ∧ k_ ≠ gb105 ∧ k_ ≠ gb118)) (by (with_reducible repeat (first | apply Kd.R_alloc | apply Kd.R_drewN | apply Kd.R_drew)); exact Kd.R_mono HO_3.out (fun _ hk => ⟨⟨hk.1.2.1, ⟨hk.2, ⟨hk.1.2.2.1, hk.1.2.2.2⟩⟩⟩, hk.1.1⟩)) hg hat)
                            have n1_ := Aside0.mk (Kd.R_after (ok := (fun k_ => some k_ ≠ (.slice Ao45 y126.length co45 : Value).ownBlock ∧ k_ ≠ gb118)) (by (with_reducible repeat (first | apply Kd.R_alloc | apply Kd.R_drewN | apply Kd.R_drew)); exact Kd.R_mono HO_106001.out (fun _ hk => ⟨⟨hk.2, hk.1.2⟩, hk.1.1⟩)) hg hat)
                            have n2_ := Aside0.mk (blk_grown (g := gb105) (o := .cells #[.bool ((rd_T92 l0 x4_1).f0), u106001] 92 (0, 0)) (by (with_reducible repeat (first | refine blk_drewN ?_ _ | refine blk_drew ?_ | refine blk_alloc ?_ _)); exact BK105.out) hg (Kd.S_ne HO_7.out BK105.out (by decide)))
                            have n3_ := Aside0.mk (blk_grown (g := gb118) (o := .cells #[.int .i64 ((rd_T96 (rd_L5 ((rd_T92 l0 x4_1).f1) x6_3) x8_5).f0), .slice A117_1 ((rd_T96 (rd_L5 ((rd_T92 l0 x4_1).f1) x6_3) x8_5).f1).length c117_1] 96 (0, 0)) (by (with_reducible repeat (first | refine blk_drewN ?_ _ | refine blk_drew ?_ | refine blk_alloc ?_ _)); exact BK118.out) hg (Kd.S_away HO_7.out (fun _ hk => hk.1)))
                            have n4_ := Aside0.mk (hb)
                            have n5_ := Aside0.mk (ho)
                            clear HO_3
                            clear HO_106001
                            clear BK105
                            clear BK118
                            clear HB
                            clear HO_7
                            clear HO128
                            have HO_3 := n0_
                            have HO_106001 := n1_
                            have BK105 := n2_
                            have BK118 := n3_
                            have HB := n4_
                            have HO131 := n5_
                            clear n0_ n1_ n2_ n3_ n4_ n5_
                            clear ho hb hg hat
                            refine hK.out _ _ ⟨(blk_cell BK118.out 0).trans rfl, (blk_cell BK118.out 1).trans rfl⟩ (fun hHeld => ?_)
                            clear hK K
                            refine norm_ (a' := ?_) ?_ ?_
                            rotate_left
                            ·show Act.put _ (some 86) _ = _
                             simp only [Act.put, List.setIfInBounds_toArray, List.set_cons_zero, List.set_cons_succ, i64_w, i32_w]
                             rfl
                            refine pure_ (i := 9) (N := some 7) (v := ?_) (a' := ?_) #[true, true, true, true, true, true, true, true, true, true] rfl rfl (any_of HT_.out (by kernel_rfl)) (fun _ _ _ h => h) (Or.inl ⟨by rfl, ?_⟩) ?_ ?_
                            rotate_left
                            ·intro w'
                             go_simp
                             with_reducible rfl
                            rotate_left
                            ·simp only [Act.put, List.setIfInBounds_toArray, List.set_cons_zero, List.set_cons_succ, i64_w, i32_w]
                             rfl
                            refine done_ (done_of HT_.out (by kernel_rfl)) ?_
                            try go_wp2
                            go_roundg kj17
                            case measure => have := HK1.out; have := HJ3.out; have := HK3.out; have := HJ10.out; have := HK5.out; have := HJ17.out; omega
                            case rel => exact ⟨(y129), (wrap64 (x8_5 + 1)), (by first | rfl | (simp; done) | (simp [*]; done)), H', ⟨by have := HK1.out; have := HJ3.out; have := HK3.out; have := HJ10.out; have := HK5.out; have := HJ17.out; omega⟩, ⟨by (with_reducible repeat (first | apply Kd.R_alloc | apply Kd.R_drewN | apply Kd.R_drew)); exact Kd.R_mono HO_3.out (fun _ hk => ⟨hk.2, ⟨hk.1.1, hk.1.2.2.1⟩⟩)⟩, ⟨by (with_reducible repeat (first | apply Kd.S_alloc | apply Kd.S_drewN | apply Kd.S_drew)); exact Kd.S_mono HO131.out (fun _ hk => trivial)⟩, ⟨by (with_reducible repeat (first | apply Kd.R_alloc | apply Kd.R_drewN | apply Kd.R_drew)); exact Kd.R_mono HO_106001.out (fun _ hk => hk.2)⟩, ⟨by (with_reducible repeat (first | refine blk_drewN ?_ _ | refine blk_drew ?_ | refine blk_alloc ?_ _)); exact BK105.out⟩, ⟨by repeat (first | (with_reducible first | exact HB.out | apply below_alloc | apply pw_below_drewN | apply below_drew1 | refine below_set ?_ GE105.out | refine below_set ?_ GE118.out) | exact HB.out)⟩⟩
                           ·rw [if_neg c34] at H
                            exact absurd H (by simp)
                          ·rw [if_neg c33] at H
                           exact absurd H (by simp)
                         ·rw [if_neg c32] at H
                          exact absurd H (by simp)
                        ·rw [if_neg c31] at H
                         have c31b0 : decide (70 < (((rd_T96 (rd_L5 ((rd_T92 l0 x4_1).f1) x6_3) x8_5).f1).length : Int)) = false := decide_eq_false c31
                         have c31b1 : decide (70 < ((rd_T96 (rd_L5 ((rd_T92 l0 x4_1).f1) x6_3) x8_5).f1).length) = false := decide_eq_false (by omega)
                         clear c31
                         obtain ⟨y132, hy132⟩ : ∃ y_ : List (S108), y_ = (([] : List (S108))) := ⟨_, rfl⟩
                         replace H : (if y132.length + ((rd_T96 (rd_L5 ((rd_T92 l0 x4_1).f1) x6_3) x8_5).f1).length < 8796093022208 then (if x7_5.length < 4398046511104 then (logjamlaw26_Own.l2 kj17 l0 x3_1 x4_1 x6_3 (x7_5 ++ [(⟨(rd_T96 (rd_L5 ((rd_T92 l0 x4_1).f1) x6_3) x8_5).f0, (y132 ++ ((rd_T96 (rd_L5 ((rd_T92 l0 x4_1).f1) x6_3) x8_5).f1))⟩ : S96)]) (wrap64 (x8_5 + 1)) ((rd_T92 l0 x4_1).f0) x106001_3) else (none)) else (none)) = some r := by first | (rw [hy132]; with_reducible exact H) | (have H2_ := (Option.bind_some _ _).symm.trans H; rw [hy132]; with_reducible exact H2_) | (have H2_ := (Option.bind_some _ _).symm.trans H; with_reducible exact H2_) | with_reducible exact H | (rw [hy132]; exact H) | exact H
                         have Ny132 := Aside0.mk hy132
                         clear hy132
                         by_cases c47 : y132.length + ((rd_T96 (rd_L5 ((rd_T92 l0 x4_1).f1) x6_3) x8_5).f1).length < 8796093022208
                         ·rw [if_pos c47] at H
                          have LMc47 := Aside0.mk c47
                          clear c47
                          obtain ⟨y135, hy135⟩ : ∃ y_ : List (S108), y_ = (y132 ++ ((rd_T96 (rd_L5 ((rd_T92 l0 x4_1).f1) x6_3) x8_5).f1)) := ⟨_, rfl⟩
                          replace H : (if x7_5.length < 4398046511104 then (logjamlaw26_Own.l2 kj17 l0 x3_1 x4_1 x6_3 (x7_5 ++ [(⟨(rd_T96 (rd_L5 ((rd_T92 l0 x4_1).f1) x6_3) x8_5).f0, y135⟩ : S96)]) (wrap64 (x8_5 + 1)) ((rd_T92 l0 x4_1).f0) x106001_3) else (none)) = some r := by first | (rw [hy135]; with_reducible exact H) | (have H2_ := (Option.bind_some _ _).symm.trans H; rw [hy135]; with_reducible exact H2_) | (have H2_ := (Option.bind_some _ _).symm.trans H; with_reducible exact H2_) | with_reducible exact H | (rw [hy135]; exact H) | exact H
                          have Ny135 := Aside0.mk hy135
                          clear hy135
                          by_cases c48 : x7_5.length < 4398046511104
                          ·rw [if_pos c48] at H
                           have LMc48 := Aside0.mk c48
                           clear c48
                           obtain ⟨y138, hy138⟩ : ∃ y_ : List (S96), y_ = (x7_5 ++ [(⟨(rd_T96 (rd_L5 ((rd_T92 l0 x4_1).f1) x6_3) x8_5).f0, y135⟩ : S96)]) := ⟨_, rfl⟩
                           replace H : (logjamlaw26_Own.l2 kj17 l0 x3_1 x4_1 x6_3 y138 (wrap64 (x8_5 + 1)) ((rd_T92 l0 x4_1).f0) x106001_3) = some r := by first | (rw [hy138]; with_reducible exact H) | (have H2_ := (Option.bind_some _ _).symm.trans H; rw [hy138]; with_reducible exact H2_) | (have H2_ := (Option.bind_some _ _).symm.trans H; with_reducible exact H2_) | with_reducible exact H | (rw [hy138]; exact H) | exact H
                           have Ny138 := Aside0.mk hy138
                           clear hy138
                           have H' := Aside0.mk H
                           clear H
                           have p115 : 0 ≤ (x4_1 : Int) := of_decide_eq_true (by first | (with_reducible assumption) | assumption)
                           have q115 : x4_1 < (l0.length : Int) := of_decide_eq_true (by first | (with_reducible assumption) | assumption)
                           obtain ⟨ad115, A115_1, c115_1, e115, hx115_0, hx115_1, hl115_1, hi115_1⟩ := at_T92 HR0.out x4_1 p115 q115
                           obtain rfl : ad104 = ad115 := (by injection e115)
                           replace hx115_0 := (HB.out.cell (World.block_lt_of_cell? w _ hx115_0)).trans hx115_0
                           replace hx115_1 := (HB.out.cell (World.block_lt_of_cell? w _ hx115_1)).trans hx115_1
                           have HR115_1 := Aside0.mk hi115_1
                           have HC115_1 := Aside0.mk hl115_1
                           clear hi115_1 hl115_1
                           replace p115 := eq_true p115
                           replace q115 := eq_true q115
                           have p116 : 0 ≤ (x6_3 : Int) := of_decide_eq_true (by first | (with_reducible assumption) | assumption)
                           have q116 : x6_3 < (((rd_T92 l0 x4_1).f1).length : Int) := of_decide_eq_true (by first | (with_reducible assumption) | assumption)
                           obtain ⟨ad116, A116_0, c116_0, e116, hx116_0, hl116_0, hi116_0⟩ := at_L5 HR115_1.out x6_3 p116 q116
                           cases e116
                           replace hx116_0 := (HB.out.cell (World.block_lt_of_cell? w _ hx116_0)).trans hx116_0
                           have HR116_0 := Aside0.mk hi116_0
                           have HC116_0 := Aside0.mk hl116_0
                           clear hi116_0 hl116_0
                           replace p116 := eq_true p116
                           replace q116 := eq_true q116
                           have p117 : 0 ≤ (x8_5 : Int) := of_decide_eq_true (by first | (with_reducible assumption) | assumption)
                           have q117 : x8_5 < ((rd_L5 ((rd_T92 l0 x4_1).f1) x6_3).length : Int) := of_decide_eq_true (by first | (with_reducible assumption) | assumption)
                           obtain ⟨ad117, A117_1, c117_1, e117, hx117_0, hx117_1, hl117_1, hi117_1⟩ := at_T96 HR116_0.out x8_5 p117 q117
                           cases e117
                           replace hx117_0 := (HB.out.cell (World.block_lt_of_cell? w _ hx117_0)).trans hx117_0
                           replace hx117_1 := (HB.out.cell (World.block_lt_of_cell? w _ hx117_1)).trans hx117_1
                           have HR117_1 := Aside0.mk hi117_1
                           have HC117_1 := Aside0.mk hl117_1
                           clear hi117_1 hl117_1
                           replace p117 := eq_true p117
                           replace q117 := eq_true q117
                           try go_wp2_with (first | ((with_reducible refine gate_dst (N := 9) rfl ?_); refine box_event ?hg (N := 9) ?hd (cs := #[.int .i64 0, .slice none 0 0]) (t := 96) ?hr ?_; (case hd => rfl); (case hg => rfl); (case hr => first | (go_simp; done) | (go_simp; rfl)); intro gb118 hg w49 hbox hb; have n0_ := Aside0.mk (Kd.R_below (Kd.R_elderB (by (with_reducible repeat (first | apply Kd.R_alloc | apply Kd.R_drewN | apply Kd.R_drew)); exact HO_3.out) gb118 (Nat.le_of_eq hg.symm)) hb); have n1_ := Aside0.mk (Kd.S_below (Kd.S_elderB (by (with_reducible repeat (first | apply Kd.S_alloc | apply Kd.S_drewN | apply Kd.S_drew)); exact HO_7.out) gb118 (Nat.le_of_eq hg.symm)) hb); have n2_ := Aside0.mk (Kd.R_below (Kd.R_elderB (by (with_reducible repeat (first | apply Kd.R_alloc | apply Kd.R_drewN | apply Kd.R_drew)); exact HO_106001.out) gb118 (Nat.le_of_eq hg.symm)) hb); have n3_ := Aside0.mk (blk_below (g := gb105) (o := .cells #[.bool ((rd_T92 l0 x4_1).f0), u106001] 92 (0, 0)) (by (with_reducible repeat (first | refine blk_drewN ?_ _ | refine blk_drew ?_ | refine blk_alloc ?_ _)); exact BK105.out) hb); have n4_ := Aside0.mk (below_step (by repeat (first | (with_reducible first | exact HB.out | apply below_alloc | apply pw_below_drewN | apply below_drew1 | refine below_set ?_ GE105.out) | exact HB.out)) hb); have n5_ := Aside0.mk (hbox); have n6_ := Aside0.mk ((by rw [hg]; exact (below_size (by repeat (first | (with_reducible first | exact HB.out | apply below_alloc | apply pw_below_drewN | apply below_drew1 | refine below_set ?_ GE105.out) | exact HB.out))) : w.heap.size ≤ gb118)); have n7_ := Aside0.mk ((by rw [hg]; exact (below_size (by repeat (first | (with_reducible first | exact HB.out | apply below_alloc | apply pw_below_drewN | apply below_drew1 | refine below_set ?_ GE105.out) | exact HB.out))) : w.heap.size ≤ gb118)); have n8_ := Aside0.mk ((by rw [hg]; exact Nat.ne_of_lt (blk_lt (g := gb105) (o := .cells #[.bool ((rd_T92 l0 x4_1).f0), u106001] 92 (0, 0)) (by (with_reducible repeat (first | refine blk_drewN ?_ _ | refine blk_drew ?_ | refine blk_alloc ?_ _)); exact BK105.out)) : gb105 ≠ gb118)); have n9_ := Aside0.mk ((by rw [hg]; exact Nat.ne_of_gt (blk_lt (g := gb105) (o := .cells #[.bool ((rd_T92 l0 x4_1).f0), u106001] 92 (0, 0)) (by (with_reducible repeat (first | refine blk_drewN ?_ _ | refine blk_drew ?_ | refine blk_alloc ?_ _)); exact BK105.out)) : gb118 ≠ gb105)); clear HO_3; clear HO_7; clear HO_106001; clear BK105; clear HB; have HO_3 := n0_; have HO_7 := n1_; have HO_106001 := n2_; have BK105 := n3_; have HB := n4_; have BK118 := n5_; have GW118 := n6_; have GE118 := n7_; have NB105_118 := n8_; have NB118_105 := n9_; clear n0_ n1_ n2_ n3_ n4_ n5_ n6_ n7_ n8_ n9_; clear hb hbox hg; have hnb50 := NB118_105.out; have hnc50 := NB105_118.out; have hcz51_0 : w49.cell? ⟨gb118, 0, none⟩ = some (.int .i64 0) := (blk_cell BK118.out 0).trans rfl; have hcz51_1 : w49.cell? ⟨gb118, 1, none⟩ = some (.slice none 0 0) := (blk_cell BK118.out 1).trans rfl; have hfz51_0 := blk_frozen BK118.out 0; have hfz51_1 := blk_frozen BK118.out 1))
                           have n0_ : Aside0 (Kd.R k92 92 ((w49.setCell ⟨gb118, 0, none⟩ (.int .i64 ((rd_T96 (rd_L5 ((rd_T92 l0 x4_1).f1) x6_3) x8_5).f0))).setCell ⟨gb118, 1, none⟩ (.slice A117_1 ((rd_T96 (rd_L5 ((rd_T92 l0 x4_1).f1) x6_3) x8_5).f1).length c117_1)) w.heap.size (fun k_ => some k_ ≠ (u7 : Value).ownBlock ∧ some k_ ≠ (u106001 : Value).ownBlock ∧ k_ ≠ gb105 ∧ k_ ≠ gb118) u3 x3_1) := ⟨by (with_reducible repeat (first | apply Kd.R_alloc | apply Kd.R_drewN | apply Kd.R_drew)); exact Kd.R_mono (Kd.R_far (p := ⟨gb118, 1, none⟩) (Kd.R_far (p := ⟨gb118, 0, none⟩) (Kd.R_mono HO_3.out (fun k_ hk => (⟨hk, hk.2⟩ : _ ∧ k_ ≠ gb118))) (fun _ hk => hk.2) (.int .i64 ((rd_T96 (rd_L5 ((rd_T92 l0 x4_1).f1) x6_3) x8_5).f0))) (fun _ hk => hk.2) (.slice A117_1 ((rd_T96 (rd_L5 ((rd_T92 l0 x4_1).f1) x6_3) x8_5).f1).length c117_1)) (fun _ hk => ⟨hk.1.1.1, ⟨hk.1.1.2.1, ⟨hk.1.1.2.2, hk.1.2⟩⟩⟩)⟩
                           have n1_ : Aside0 (Kd.S k96 96 ((w49.setCell ⟨gb118, 0, none⟩ (.int .i64 ((rd_T96 (rd_L5 ((rd_T92 l0 x4_1).f1) x6_3) x8_5).f0))).setCell ⟨gb118, 1, none⟩ (.slice A117_1 ((rd_T96 (rd_L5 ((rd_T92 l0 x4_1).f1) x6_3) x8_5).f1).length c117_1)) w.heap.size (fun k_ => k_ ≠ gb118) u7 x7_5) := ⟨by (with_reducible repeat (first | apply Kd.S_alloc | apply Kd.S_drewN | apply Kd.S_drew)); exact Kd.S_mono (Kd.S_far (p := ⟨gb118, 1, none⟩) (Kd.S_far (p := ⟨gb118, 0, none⟩) (Kd.S_mono HO_7.out (fun k_ hk => (⟨hk, hk.2⟩ : _ ∧ k_ ≠ gb118))) (fun _ hk => hk.2) (.int .i64 ((rd_T96 (rd_L5 ((rd_T92 l0 x4_1).f1) x6_3) x8_5).f0))) (fun _ hk => hk.2) (.slice A117_1 ((rd_T96 (rd_L5 ((rd_T92 l0 x4_1).f1) x6_3) x8_5).f1).length c117_1)) (fun _ hk => hk.1.2)⟩
                           have n2_ : Aside0 (Kd.R (Kd.slice 96 k96) 93 ((w49.setCell ⟨gb118, 0, none⟩ (.int .i64 ((rd_T96 (rd_L5 ((rd_T92 l0 x4_1).f1) x6_3) x8_5).f0))).setCell ⟨gb118, 1, none⟩ (.slice A117_1 ((rd_T96 (rd_L5 ((rd_T92 l0 x4_1).f1) x6_3) x8_5).f1).length c117_1)) w.heap.size (fun k_ => some k_ ≠ (u7 : Value).ownBlock ∧ k_ ≠ gb118) u106001 x106001_3) := ⟨by (with_reducible repeat (first | apply Kd.R_alloc | apply Kd.R_drewN | apply Kd.R_drew)); exact Kd.R_mono (Kd.R_far (p := ⟨gb118, 1, none⟩) (Kd.R_far (p := ⟨gb118, 0, none⟩) (Kd.R_mono HO_106001.out (fun k_ hk => (⟨hk, hk.2⟩ : _ ∧ k_ ≠ gb118))) (fun _ hk => hk.2) (.int .i64 ((rd_T96 (rd_L5 ((rd_T92 l0 x4_1).f1) x6_3) x8_5).f0))) (fun _ hk => hk.2) (.slice A117_1 ((rd_T96 (rd_L5 ((rd_T92 l0 x4_1).f1) x6_3) x8_5).f1).length c117_1)) (fun _ hk => ⟨hk.1.1, hk.1.2⟩)⟩
                           have n3_ : Aside0 (((w49.setCell ⟨gb118, 0, none⟩ (.int .i64 ((rd_T96 (rd_L5 ((rd_T92 l0 x4_1).f1) x6_3) x8_5).f0))).setCell ⟨gb118, 1, none⟩ (.slice A117_1 ((rd_T96 (rd_L5 ((rd_T92 l0 x4_1).f1) x6_3) x8_5).f1).length c117_1)).heap[gb105]? = some (.cells #[.bool ((rd_T92 l0 x4_1).f0), u106001] 92 (0, 0))) := ⟨by (with_reducible repeat (first | refine blk_drewN ?_ _ | refine blk_drew ?_ | refine blk_alloc ?_ _)); refine blk_far ?_ NB105_118.out _; (with_reducible repeat (first | refine blk_drewN ?_ _ | refine blk_drew ?_ | refine blk_alloc ?_ _)); refine blk_far ?_ NB105_118.out _; (with_reducible repeat (first | refine blk_drewN ?_ _ | refine blk_drew ?_ | refine blk_alloc ?_ _)); exact BK105.out⟩
                           have n4_ : Aside0 (((w49.setCell ⟨gb118, 0, none⟩ (.int .i64 ((rd_T96 (rd_L5 ((rd_T92 l0 x4_1).f1) x6_3) x8_5).f0))).setCell ⟨gb118, 1, none⟩ (.slice A117_1 ((rd_T96 (rd_L5 ((rd_T92 l0 x4_1).f1) x6_3) x8_5).f1).length c117_1)).heap[gb118]? = some (.cells #[.int .i64 ((rd_T96 (rd_L5 ((rd_T92 l0 x4_1).f1) x6_3) x8_5).f0), .slice A117_1 ((rd_T96 (rd_L5 ((rd_T92 l0 x4_1).f1) x6_3) x8_5).f1).length c117_1] 96 (0, 0))) := ⟨by (with_reducible repeat (first | refine blk_drewN ?_ _ | refine blk_drew ?_ | refine blk_alloc ?_ _)); refine blk_put (cs := #[.int .i64 ((rd_T96 (rd_L5 ((rd_T92 l0 x4_1).f1) x6_3) x8_5).f0), .slice none 0 0]) ?_ 1 _ rfl; (with_reducible repeat (first | refine blk_drewN ?_ _ | refine blk_drew ?_ | refine blk_alloc ?_ _)); refine blk_put (cs := #[.int .i64 0, .slice none 0 0]) ?_ 0 _ rfl; (with_reducible repeat (first | refine blk_drewN ?_ _ | refine blk_drew ?_ | refine blk_alloc ?_ _)); exact BK118.out⟩
                           have n5_ : Aside0 (Below w.heap.size w ((w49.setCell ⟨gb118, 0, none⟩ (.int .i64 ((rd_T96 (rd_L5 ((rd_T92 l0 x4_1).f1) x6_3) x8_5).f0))).setCell ⟨gb118, 1, none⟩ (.slice A117_1 ((rd_T96 (rd_L5 ((rd_T92 l0 x4_1).f1) x6_3) x8_5).f1).length c117_1))) := ⟨by repeat (first | (with_reducible first | exact HB.out | apply below_alloc | apply pw_below_drewN | apply below_drew1 | refine below_set ?_ GE105.out | refine below_set ?_ GE118.out) | exact HB.out)⟩
                           (try clear HO_3)
                           (try clear HO_7)
                           (try clear HO_106001)
                           (try clear BK105)
                           (try clear BK118)
                           (try clear HB)
                           generalize ((w49.setCell ⟨gb118, 0, none⟩ (.int .i64 ((rd_T96 (rd_L5 ((rd_T92 l0 x4_1).f1) x6_3) x8_5).f0))).setCell ⟨gb118, 1, none⟩ (.slice A117_1 ((rd_T96 (rd_L5 ((rd_T92 l0 x4_1).f1) x6_3) x8_5).f1).length c117_1)) = w52 at n0_ n1_ n2_ n3_ n4_ n5_ ⊢
                           have HO_3 := n0_
                           have HO_7 := n1_
                           have HO_106001 := n2_
                           have BK105 := n3_
                           have BK118 := n4_
                           have HB := n5_
                           clear n0_ n1_ n2_ n3_ n4_ n5_
                           have n0_ := Aside0.mk (Kd.R_drew HO_3.out)
                           have n1_ := Aside0.mk (Kd.S_drew HO_7.out)
                           have n2_ := Aside0.mk (Kd.R_drew HO_106001.out)
                           have n3_ := Aside0.mk (blk_drew BK105.out)
                           have n4_ := Aside0.mk (blk_drew BK118.out)
                           have n5_ := Aside0.mk (below_drew1 HB.out)
                           clear HO_3
                           clear HO_7
                           clear HO_106001
                           clear BK105
                           clear BK118
                           clear HB
                           have HO_3 := n0_
                           have HO_7 := n1_
                           have HO_106001 := n2_
                           have BK105 := n3_
                           have BK118 := n4_
                           have HB := n5_
                           clear n0_ n1_ n2_ n3_ n4_ n5_
                           refine start_ (n := 10) (S := fun w' => w'.cell? ⟨gb118, 0, none⟩ = some (.int .i64 ((rd_T96 (rd_L5 ((rd_T92 l0 x4_1).f1) x6_3) x8_5).f0)) ∧ w'.cell? ⟨gb118, 1, none⟩ = some (.slice A117_1 ((rd_T96 (rd_L5 ((rd_T92 l0 x4_1).f1) x6_3) x8_5).f1).length c117_1)) (ds := []) #[false, false, false, false, false, false, false, false, false, false] (by kernel_rfl) rfl rfl ⟨(blk_cell BK118.out 0).trans rfl, (blk_cell BK118.out 1).trans rfl⟩ (fun hHeld => ?_); refine with_tabW logjamlaw26_Own.tab17 logjamlaw26_Own.bits17 (fun HT_ HW_ => ?_)
                           generalize w52.drew = w53 at HO_3 HO_7 HO_106001 BK105 BK118 HB hHeld ⊢
                           refine pure_ (i := 0) (N := some 78) (v := ?_) (a' := ?_) #[true, false, false, false, false, false, false, false, false, false] rfl rfl (any_of HT_.out (by kernel_rfl)) (fun _ _ _ h => h) (Or.inl ⟨by rfl, ?_⟩) ?_ ?_
                           rotate_left
                           ·intro w'
                            go_simp
                            with_reducible rfl
                           rotate_left
                           ·simp only [Act.put, List.setIfInBounds_toArray, List.set_cons_zero, List.set_cons_succ, i64_w, i32_w]
                            rfl
                           refine pure_ (i := 1) (N := some 79) (v := ?_) (a' := ?_) #[true, true, false, false, false, false, false, false, false, false] rfl rfl (any_of HT_.out (by kernel_rfl)) (fun _ _ _ h => h) (Or.inl ⟨by rfl, ?_⟩) ?_ ?_
                           rotate_left
                           ·intro w'
                            go_simp
                            with_reducible rfl
                           rotate_left
                           ·simp only [Act.put, List.setIfInBounds_toArray, List.set_cons_zero, List.set_cons_succ, i64_w, i32_w]
                            rfl
                           refine pure_ (i := 4) (N := some 82) (v := ?_) (a' := ?_) #[true, true, false, false, true, false, false, false, false, false] rfl rfl (any_of HT_.out (by kernel_rfl)) (fun _ _ _ h => h) (Or.inl ⟨by rfl, ?_⟩) ?_ ?_
                           rotate_left
                           ·intro w'
                            go_simp
                            with_reducible rfl
                           rotate_left
                           ·simp only [Act.put, List.setIfInBounds_toArray, List.set_cons_zero, List.set_cons_succ, i64_w, i32_w]
                            rfl
                           refine take_ (i := 2) (N := some 80) (v := ?_) (a' := ?_) #[true, true, true, false, true, false, false, false, false, false] rfl rfl (take_ofW HT_.out HW_.out (by kernel_rfl)) (fun _ _ _ h => h) (Or.inl ⟨by rfl, ?_⟩) hHeld ?_ ?_
                           rotate_left
                           ·rintro w' ⟨s0, s1⟩
                            go_simp
                            with_reducible rfl
                           rotate_left
                           ·simp only [Act.put, List.setIfInBounds_toArray, List.set_cons_zero, List.set_cons_succ, i64_w, i32_w]
                            rfl
                           refine one_ (i := 3) (N := some 81) #[true, true, true, true, true, false, false, false, false, false] rfl rfl (one_of HT_.out (by kernel_rfl)) (by decide) (fun K hK => ?_)
                           refine Kd.R_lit_step k108 _ 108 ?hg (N := 81) ?hd (xs := ([] : List (S108))) (inner := []) (ok := fun _ => True) (okp := fun _ => True) ?hr ?hp (fun _ hk => hk) trivial (Below.refl _ _) (Nat.le_refl _) (by simp) ?_; (case hd => rfl); (case hg => rfl); (case hr => first | (go_simp; done) | (go_simp; rfl)); (case hp => exact (Reps.none _ _))
                           intro v133 w54 ho55 hb hg_ hnew_
                           clear hg_ hnew_
                           (first | rw [← Ny132.out] at ho55 | (simp only [Int.reduceToNat] at ho55; rw [← Ny132.out] at ho55))
                           have n0_ := Aside0.mk (Kd.R_elder' (by (with_reducible repeat (first | apply Kd.R_alloc | apply Kd.R_drewN | apply Kd.R_drew)); exact HO_3.out) (Kd.R_base ho55) hb)
                           have n1_ := Aside0.mk (Kd.S_elder' (by (with_reducible repeat (first | apply Kd.S_alloc | apply Kd.S_drewN | apply Kd.S_drew)); exact HO_7.out) (Kd.R_base ho55) hb)
                           have n2_ := Aside0.mk (Kd.R_elder' (by (with_reducible repeat (first | apply Kd.R_alloc | apply Kd.R_drewN | apply Kd.R_drew)); exact HO_106001.out) (Kd.R_base ho55) hb)
                           have n3_ := Aside0.mk (Kd.R_lower ho55 (below_size (by repeat (first | (with_reducible first | exact HB.out | apply below_alloc | apply pw_below_drewN | apply below_drew1 | refine below_set ?_ GE105.out | refine below_set ?_ GE118.out) | exact HB.out))))
                           have n4_ := Aside0.mk (blk_below (g := gb105) (o := .cells #[.bool ((rd_T92 l0 x4_1).f0), u106001] 92 (0, 0)) (by (with_reducible repeat (first | refine blk_drewN ?_ _ | refine blk_drew ?_ | refine blk_alloc ?_ _)); exact BK105.out) hb)
                           have n5_ := Aside0.mk (blk_below (g := gb118) (o := .cells #[.int .i64 ((rd_T96 (rd_L5 ((rd_T92 l0 x4_1).f1) x6_3) x8_5).f0), .slice A117_1 ((rd_T96 (rd_L5 ((rd_T92 l0 x4_1).f1) x6_3) x8_5).f1).length c117_1] 96 (0, 0)) (by (with_reducible repeat (first | refine blk_drewN ?_ _ | refine blk_drew ?_ | refine blk_alloc ?_ _)); exact BK118.out) hb)
                           have n6_ := Aside0.mk (below_step (by repeat (first | (with_reducible first | exact HB.out | apply below_alloc | apply pw_below_drewN | apply below_drew1 | refine below_set ?_ GE105.out | refine below_set ?_ GE118.out) | exact HB.out)) hb)
                           clear HO_3
                           clear HO_7
                           clear HO_106001
                           clear BK105
                           clear BK118
                           clear HB
                           have HO_3 := n0_
                           have HO_7 := n1_
                           have HO_106001 := n2_
                           have HO134 := n3_
                           have BK105 := n4_
                           have BK118 := n5_
                           have HB := n6_
                           clear n0_ n1_ n2_ n3_ n4_ n5_ n6_
                           clear hb ho55
                           refine hK.out _ _ ⟨(blk_cell BK118.out 0).trans rfl, (blk_cell BK118.out 1).trans rfl⟩ (fun hHeld => ?_)
                           clear hK K
                           refine norm_ (a' := ?_) ?_ ?_
                           rotate_left
                           ·show Act.put _ (some 81) _ = _
                            simp only [Act.put, List.setIfInBounds_toArray, List.set_cons_zero, List.set_cons_succ, i64_w, i32_w]
                            rfl
                           refine one_ (i := 5) (N := some 83) #[true, true, true, true, true, true, false, false, false, false] rfl rfl (one_of HT_.out (by kernel_rfl)) (by decide) (fun K hK => ?_)
                           refine Kd.R_append_rows_step k108 (w0 := w) w.heap.size (by rfl) (.tmp 81) (.tmp 82) 94 108 (.agg #[(.int .i64 0), (.int .i64 0)]) 16 rfl Tryd.underlying94 info108 rfl (by decide) (by omega) v133 y132 ((rd_T96 (rd_L5 ((rd_T92 l0 x4_1).f1) x6_3) x8_5).f1) _ _ _ (fun _ => True) (fun _ => False) rfl rfl ?aO ?aR (fun _ _ h => h) (fun _ h => h.elim) ?aF ?aB ?aS ?aL ?_
                           (case aR => repeat (first | exact (Kd.C_below HR117_1.out HB.out) | (with_reducible refine Kd.C_alloc ?_ _) | (with_reducible refine Kd.C_drewN ?_ _) | (with_reducible refine Kd.C_drew ?_)))
                           (case aB => exact (by repeat (first | (with_reducible first | exact HB.out | apply below_alloc | apply pw_below_drewN | apply below_drew1 | refine below_set ?_ GE105.out | refine below_set ?_ GE118.out) | exact HB.out)))
                           (case aF => exact (fun _ _ => trivial))
                           (case aO => exact (by (with_reducible repeat (first | apply Kd.R_alloc | apply Kd.R_drewN | apply Kd.R_drew)); exact HO134.out))
                           (case aS => exact (below_size (by repeat (first | (with_reducible first | exact HB.out | apply below_alloc | apply pw_below_drewN | apply below_drew1 | refine below_set ?_ GE105.out | refine below_set ?_ GE118.out) | exact HB.out))))
                           (case aL => have := LMc47.out; omega)
                           intro v136 w56 ho hb hg hat
                           rw [← Ny135.out] at ho
                           have n0_ := Aside0.mk (Kd.R_after (ok := (fun k_ => some k_ ≠ (u7 : Value).ownBlock ∧ some k_ ≠ (u106001 : Value).ownBlock ∧ k_ ≠ gb105 ∧ k_ ≠ gb118)) (by (with_reducible repeat (first | apply Kd.R_alloc | apply Kd.R_drewN | apply Kd.R_drew)); exact HO_3.out) hg hat)
                           have n1_ := Aside0.mk (Kd.S_after (ok := (fun k_ => k_ ≠ gb118)) (by (with_reducible repeat (first | apply Kd.S_alloc | apply Kd.S_drewN | apply Kd.S_drew)); exact HO_7.out) hg hat)
                           have n2_ := Aside0.mk (Kd.R_after (ok := (fun k_ => some k_ ≠ (u7 : Value).ownBlock ∧ k_ ≠ gb118)) (by (with_reducible repeat (first | apply Kd.R_alloc | apply Kd.R_drewN | apply Kd.R_drew)); exact HO_106001.out) hg hat)
                           have n3_ := Aside0.mk (blk_grown (g := gb105) (o := .cells #[.bool ((rd_T92 l0 x4_1).f0), u106001] 92 (0, 0)) (by (with_reducible repeat (first | refine blk_drewN ?_ _ | refine blk_drew ?_ | refine blk_alloc ?_ _)); exact BK105.out) hg (Kd.R_ne HO134.out BK105.out (by decide)))
                           have n4_ := Aside0.mk (blk_grown (g := gb118) (o := .cells #[.int .i64 ((rd_T96 (rd_L5 ((rd_T92 l0 x4_1).f1) x6_3) x8_5).f0), .slice A117_1 ((rd_T96 (rd_L5 ((rd_T92 l0 x4_1).f1) x6_3) x8_5).f1).length c117_1] 96 (0, 0)) (by (with_reducible repeat (first | refine blk_drewN ?_ _ | refine blk_drew ?_ | refine blk_alloc ?_ _)); exact BK118.out) hg (Kd.R_ne HO134.out BK118.out (by decide)))
                           have n5_ := Aside0.mk (hb)
                           have n6_ := Aside0.mk (ho)
                           clear HO_3
                           clear HO_7
                           clear HO_106001
                           clear BK105
                           clear BK118
                           clear HB
                           clear HO134
                           have HO_3 := n0_
                           have HO_7 := n1_
                           have HO_106001 := n2_
                           have BK105 := n3_
                           have BK118 := n4_
                           have HB := n5_
                           have HO137 := n6_
                           clear n0_ n1_ n2_ n3_ n4_ n5_ n6_
                           clear ho hb hg hat
                           obtain ⟨Ao57, co57, eo57⟩ := Kd.R_slice HO137.out
                           (first | subst eo57 | (injection eo57 with f1_ f2_ f3_; have f4_ := f1_.symm; have f5_ := f3_.symm; clear f1_ f2_ f3_; subst f4_; subst f5_))
                           refine hK.out _ _ ⟨(blk_cell BK118.out 0).trans rfl, (blk_cell BK118.out 1).trans rfl⟩ (fun hHeld => ?_)
                           clear hK K
                           refine norm_ (a' := ?_) ?_ ?_
                           rotate_left
                           ·show Act.put _ (some 83) _ = _
                            simp only [Act.put, List.setIfInBounds_toArray, List.set_cons_zero, List.set_cons_succ, i64_w, i32_w]
                            rfl
                           refine pure_ (i := 6) (N := some 84) (v := ?_) (a' := ?_) #[true, true, true, true, true, true, true, false, false, false] rfl rfl (any_of HT_.out (by kernel_rfl)) (fun _ _ _ h => h) (Or.inl ⟨by rfl, ?_⟩) ?_ ?_
                           rotate_left
                           ·intro w'
                            go_simp
                            with_reducible rfl
                           rotate_left
                           ·simp only [Act.put, List.setIfInBounds_toArray, List.set_cons_zero, List.set_cons_succ, i64_w, i32_w]
                            rfl
                           refine one_ (i := 7) (N := some 85) #[true, true, true, true, true, true, true, true, false, false] rfl rfl (one_of HT_.out (by kernel_rfl)) (by decide) (fun K hK => ?_)
                           refine value_ (w1 := ?_) (v := ?_) (by rfl) rfl ?_ ?_
                           rotate_left 2
                           ·go_simp
                            constructor
                            ·rfl
                            ·rfl
                           refine hK.out _ _ ⟨(blk_cell (blk_alloc BK118.out _) 0).trans rfl, (blk_cell (blk_alloc BK118.out _) 1).trans rfl⟩ (fun hHeld => ?_)
                           clear hK K
                           refine norm_ (a' := ?_) ?_ ?_
                           rotate_left
                           ·show Act.put _ (some 85) _ = _
                            simp only [Act.put, List.setIfInBounds_toArray, List.set_cons_zero, List.set_cons_succ, i64_w, i32_w]
                            rfl
                           refine one_ (i := 8) (N := some 86) #[true, true, true, true, true, true, true, true, true, false] rfl rfl (one_of HT_.out (by kernel_rfl)) (by decide) (fun K hK => ?_)
                           refine Kd.S_append_step k96 (w0 := w) w.heap.size (by rfl) (.tmp 78) (.tmp 85) 93 96 (.agg #[(.int .i64 0), (.slice none 0 0)]) 32 rfl Tryd.underlying93 info96 rfl (by decide) (by omega) u7 x7_5 (⟨(rd_T96 (rd_L5 ((rd_T92 l0 x4_1).f1) x6_3) x8_5).f0, y135⟩ : S96) [.int .i64 ((rd_T96 (rd_L5 ((rd_T92 l0 x4_1).f1) x6_3) x8_5).f0), .slice Ao57 y135.length co57] (fun k_ => k_ ≠ gb118) (fun k_ => some k_ = (.slice Ao57 y135.length co57 : Value).ownBlock) rfl rfl ?aP (fun k_ hk_ => ((Kd.R_mono (ok' := fun k_ => ((fun k_ => k_ ≠ gb118)) k_ ∧ some k_ ≠ (u7 : Value).ownBlock) (Kd.R_types (Kd.R_apart' (HO137.out) (Kd.S_typed HO_7.out) (by decide)) BK118.out (by decide)) (fun k_ hk => ⟨hk.2, hk.1.2⟩))).1 k_ hk_.symm) ?aF ?aO ?aB ?aS ?aL ?_
                           (case aP => exact k96_mkM _ _ _ (⟨(rd_T96 (rd_L5 ((rd_T92 l0 x4_1).f1) x6_3) x8_5).f0, y135⟩ : S96) (Kd.R_mono (Kd.R_tight rfl (Kd.R_mono (ok' := fun k_ => ((fun k_ => k_ ≠ gb118)) k_ ∧ some k_ ≠ (u7 : Value).ownBlock) (Kd.R_types (Kd.R_apart' (HO137.out) (Kd.S_typed HO_7.out) (by decide)) BK118.out (by decide)) (fun k_ hk => ⟨hk.2, hk.1.2⟩))) (fun _ h_ => h_)))
                           (case aB => exact (by repeat (first | (with_reducible first | exact HB.out | apply below_alloc | apply pw_below_drewN | apply below_drew1 | refine below_set ?_ GE105.out | refine below_set ?_ GE118.out) | exact HB.out)))
                           (case aF => exact (fun k_ hk => Kd.freshB (g := gb118) (o := .cells #[.int .i64 ((rd_T96 (rd_L5 ((rd_T92 l0 x4_1).f1) x6_3) x8_5).f0), .slice A117_1 ((rd_T96 (rd_L5 ((rd_T92 l0 x4_1).f1) x6_3) x8_5).f1).length c117_1] 96 (0, 0)) (by (with_reducible repeat (first | refine blk_drewN ?_ _ | refine blk_drew ?_ | refine blk_alloc ?_ _)); exact BK118.out) k_ hk))
                           (case aO => exact (by (with_reducible repeat (first | apply Kd.S_alloc | apply Kd.S_drewN | apply Kd.S_drew)); exact Kd.S_mono HO_7.out (fun k_ hk => ⟨hk.1, fun e_ => hk.2 e_⟩)))
                           (case aS => exact (below_size (by repeat (first | (with_reducible first | exact HB.out | apply below_alloc | apply pw_below_drewN | apply below_drew1 | refine below_set ?_ GE105.out | refine below_set ?_ GE118.out) | exact HB.out))))
                           (case aL => have := LMc48.out; omega)
                           intro v139 w58 ho hb hg hat
                           rw [← Ny138.out] at ho
                           have n0_ := Aside0.mk (Kd.R_after (ok := (fun k_ => some k_ ≠ (u106001 : Value).ownBlock ∧ some k_ ≠ (.slice Ao57 y135.length co57 : Value).ownBlock ∧ k_ ≠ gb105 ∧ k_ ≠ gb118)) (by (with_reducible repeat (first | apply Kd.R_alloc | apply Kd.R_drewN | apply Kd.R_drew)); exact Kd.R_mono HO_3.out (fun _ hk => ⟨⟨hk.1.2.1, ⟨hk.2, ⟨hk.1.2.2.1, hk.1.2.2.2⟩⟩⟩, hk.1.1⟩)) hg hat)
                           have n1_ := Aside0.mk (Kd.R_after (ok := (fun k_ => some k_ ≠ (.slice Ao57 y135.length co57 : Value).ownBlock ∧ k_ ≠ gb118)) (by (with_reducible repeat (first | apply Kd.R_alloc | apply Kd.R_drewN | apply Kd.R_drew)); exact Kd.R_mono HO_106001.out (fun _ hk => ⟨⟨hk.2, hk.1.2⟩, hk.1.1⟩)) hg hat)
                           have n2_ := Aside0.mk (blk_grown (g := gb105) (o := .cells #[.bool ((rd_T92 l0 x4_1).f0), u106001] 92 (0, 0)) (by (with_reducible repeat (first | refine blk_drewN ?_ _ | refine blk_drew ?_ | refine blk_alloc ?_ _)); exact BK105.out) hg (Kd.S_ne HO_7.out BK105.out (by decide)))
                           have n3_ := Aside0.mk (blk_grown (g := gb118) (o := .cells #[.int .i64 ((rd_T96 (rd_L5 ((rd_T92 l0 x4_1).f1) x6_3) x8_5).f0), .slice A117_1 ((rd_T96 (rd_L5 ((rd_T92 l0 x4_1).f1) x6_3) x8_5).f1).length c117_1] 96 (0, 0)) (by (with_reducible repeat (first | refine blk_drewN ?_ _ | refine blk_drew ?_ | refine blk_alloc ?_ _)); exact BK118.out) hg (Kd.S_away HO_7.out (fun _ hk => hk.1)))
                           have n4_ := Aside0.mk (hb)
                           have n5_ := Aside0.mk (ho)
                           clear HO_3
                           clear HO_106001
                           clear BK105
                           clear BK118
                           clear HB
                           clear HO_7
                           clear HO137
                           have HO_3 := n0_
                           have HO_106001 := n1_
                           have BK105 := n2_
                           have BK118 := n3_
                           have HB := n4_
                           have HO140 := n5_
                           clear n0_ n1_ n2_ n3_ n4_ n5_
                           clear ho hb hg hat
                           refine hK.out _ _ ⟨(blk_cell BK118.out 0).trans rfl, (blk_cell BK118.out 1).trans rfl⟩ (fun hHeld => ?_)
                           clear hK K
                           refine norm_ (a' := ?_) ?_ ?_
                           rotate_left
                           ·show Act.put _ (some 86) _ = _
                            simp only [Act.put, List.setIfInBounds_toArray, List.set_cons_zero, List.set_cons_succ, i64_w, i32_w]
                            rfl
                           refine pure_ (i := 9) (N := some 7) (v := ?_) (a' := ?_) #[true, true, true, true, true, true, true, true, true, true] rfl rfl (any_of HT_.out (by kernel_rfl)) (fun _ _ _ h => h) (Or.inl ⟨by rfl, ?_⟩) ?_ ?_
                           rotate_left
                           ·intro w'
                            go_simp
                            with_reducible rfl
                           rotate_left
                           ·simp only [Act.put, List.setIfInBounds_toArray, List.set_cons_zero, List.set_cons_succ, i64_w, i32_w]
                            rfl
                           refine done_ (done_of HT_.out (by kernel_rfl)) ?_
                           try go_wp2
                           go_roundg kj17
                           case measure => have := HK1.out; have := HJ3.out; have := HK3.out; have := HJ10.out; have := HK5.out; have := HJ17.out; omega
                           case rel => exact ⟨(y138), (wrap64 (x8_5 + 1)), (by first | rfl | (simp; done) | (simp [*]; done)), H', ⟨by have := HK1.out; have := HJ3.out; have := HK3.out; have := HJ10.out; have := HK5.out; have := HJ17.out; omega⟩, ⟨by (with_reducible repeat (first | apply Kd.R_alloc | apply Kd.R_drewN | apply Kd.R_drew)); exact Kd.R_mono HO_3.out (fun _ hk => ⟨hk.2, ⟨hk.1.1, hk.1.2.2.1⟩⟩)⟩, ⟨by (with_reducible repeat (first | apply Kd.S_alloc | apply Kd.S_drewN | apply Kd.S_drew)); exact Kd.S_mono HO140.out (fun _ hk => trivial)⟩, ⟨by (with_reducible repeat (first | apply Kd.R_alloc | apply Kd.R_drewN | apply Kd.R_drew)); exact Kd.R_mono HO_106001.out (fun _ hk => hk.2)⟩, ⟨by (with_reducible repeat (first | refine blk_drewN ?_ _ | refine blk_drew ?_ | refine blk_alloc ?_ _)); exact BK105.out⟩, ⟨by repeat (first | (with_reducible first | exact HB.out | apply below_alloc | apply pw_below_drewN | apply below_drew1 | refine below_set ?_ GE105.out | refine below_set ?_ GE118.out) | exact HB.out)⟩⟩
                          ·rw [if_neg c48] at H
                           exact absurd H (by simp)
                         ·rw [if_neg c47] at H
                          exact absurd H (by simp)
                       ·rw [if_neg c30] at H
                        exact absurd H (by simp)
                      ·rw [if_neg c29] at H
                       exact absurd H (by simp)
                     ·rw [if_neg c28] at H
                      exact absurd H (by simp)
                    ·rw [if_neg c27] at H
                     exact absurd H (by simp)
                   ·rw [if_neg c26] at H
                    exact absurd H (by simp)
                  ·rw [if_neg c25] at H
                   exact absurd H (by simp)
                 ·replace c24 := Bool.eq_false_iff.mpr c24
                  subst c24
                  have H1 : (if x106001_3.length < 5864062014805 then (logjamlaw26_Own.l1 kj17 l0 x3_1 x4_1 (wrap64 (x6_3 + 1)) ((rd_T92 l0 x4_1).f0) (x106001_3 ++ [x7_5])) else (none)) = some r := by rw [if_neg (show ¬ (false = true) by decide)] at H; exact H
                  clear H
                  have H := H1
                  clear H1
                  by_cases c59 : x106001_3.length < 5864062014805
                  ·rw [if_pos c59] at H
                   have LMc59 := Aside0.mk c59
                   clear c59
                   obtain ⟨y141, hy141⟩ : ∃ y_ : List (List (S96)), y_ = (x106001_3 ++ [x7_5]) := ⟨_, rfl⟩
                   replace H : (logjamlaw26_Own.l1 kj17 l0 x3_1 x4_1 (wrap64 (x6_3 + 1)) ((rd_T92 l0 x4_1).f0) y141) = some r := by first | (rw [hy141]; with_reducible exact H) | (have H2_ := (Option.bind_some _ _).symm.trans H; rw [hy141]; with_reducible exact H2_) | (have H2_ := (Option.bind_some _ _).symm.trans H; with_reducible exact H2_) | with_reducible exact H | (rw [hy141]; exact H) | exact H
                   have Ny141 := Aside0.mk hy141
                   clear hy141
                   have H' := Aside0.mk H
                   clear H
                   have hcz60_0 : wc.cell? ⟨gb105, 0, none⟩ = some (.bool ((rd_T92 l0 x4_1).f0)) := (blk_cell BK105.out 0).trans rfl
                   have hcz60_1 : wc.cell? ⟨gb105, 1, none⟩ = some (u106001) := (blk_cell BK105.out 1).trans rfl
                   have hfz60_0 := blk_frozen BK105.out 0
                   have hfz60_1 := blk_frozen BK105.out 1
                   obtain ⟨Ao62, co62, eo62⟩ := Kd.S_slice HO_7.out
                   subst eo62
                   go_wp2_with (first | ((with_reducible refine gate_builtin (b := .append) (xs := #[.tmp 88, .tmp 90]) rfl ?_); at_builtin; refine Kd.R_append (Kd.slice 96 k96) (w0 := w) w.heap.size rfl (.tmp 88) (.tmp 90) 90 93 (.slice none 0 0) 24 rfl Tryd.underlying90 info93 rfl (by decide) (by omega) u106001 x106001_3 x7_5 [.slice Ao62 x7_5.length co62] (fun _ => True) (fun k_ => ((fun _ => True)) k_ ∧ some k_ ≠ (u106001 : Value).ownBlock) rfl rfl ?aP (fun _ hk => hk) ?aF ?aO ?aB ?aS ?aL ?_; (case aP => exact Kd.M_row (Kd.R_mono (Kd.R_apart' ((Kd.S_R HO_7.out)) (Kd.R_typed HO_106001.out) (by decide)) (fun k_ hk => ⟨trivial, hk.2⟩))); (case aB => exact (by repeat (first | (with_reducible first | exact HB.out | apply below_alloc | apply pw_below_drewN | apply below_drew1 | refine below_set ?_ GE105.out) | exact HB.out))); (case aF => exact (fun _ _ => trivial)); (case aO => exact (by (with_reducible repeat (first | apply Kd.R_alloc | apply Kd.R_drewN | apply Kd.R_drew)); exact Kd.R_mono HO_106001.out (fun _ hk => trivial))); (case aS => exact (below_size (by repeat (first | (with_reducible first | exact HB.out | apply below_alloc | apply pw_below_drewN | apply below_drew1 | refine below_set ?_ GE105.out) | exact HB.out)))); (case aL => have := LMc59.out; omega); intro v142 w61 ho hb hg hat; rw [← Ny141.out] at ho; have n0_ := Aside0.mk (Kd.R_after (ok := (fun k_ => some k_ ≠ (.slice Ao62 x7_5.length co62 : Value).ownBlock ∧ k_ ≠ gb105)) (by (with_reducible repeat (first | apply Kd.R_alloc | apply Kd.R_drewN | apply Kd.R_drew)); exact Kd.R_mono HO_3.out (fun _ hk => ⟨⟨hk.1, hk.2.2⟩, hk.2.1⟩)) hg hat); have n1_ := Aside0.mk (blk_grown (g := gb105) (o := .cells #[.bool ((rd_T92 l0 x4_1).f0), u106001] 92 (0, 0)) (by (with_reducible repeat (first | refine blk_drewN ?_ _ | refine blk_drew ?_ | refine blk_alloc ?_ _)); exact BK105.out) hg (Kd.R_ne HO_106001.out BK105.out (by decide))); have n2_ := Aside0.mk (hb); have n3_ := Aside0.mk (ho); clear HO_3; clear BK105; clear HB; clear HO_106001; clear HO_7; have HO_3 := n0_; have BK105 := n1_; have HB := n2_; have HO143 := n3_; clear n0_ n1_ n2_ n3_; clear ho hb hg hat; obtain ⟨Ao63, co63, eo63⟩ := Kd.R_slice HO143.out; subst eo63; have hcz64_0 : w61.cell? ⟨gb105, 0, none⟩ = some (.bool ((rd_T92 l0 x4_1).f0)) := (blk_cell BK105.out 0).trans rfl; have hcz64_1 : w61.cell? ⟨gb105, 1, none⟩ = some (u106001) := (blk_cell BK105.out 1).trans rfl; have hfz64_0 := blk_frozen BK105.out 0; have hfz64_1 := blk_frozen BK105.out 1))
                   go_roundg kj17
                   case measure => have := HK1.out; have := HJ3.out; have := HK3.out; have := HJ10.out; have := HK5.out; have := HJ17.out; omega
                   case rel => exact ⟨(wrap64 (x6_3 + 1)), (y141), (.slice Ao63 y141.length co63), (by first | rfl | (simp; done) | (simp [*]; done)), H', ⟨by have := HK1.out; have := HJ3.out; have := HK3.out; have := HJ10.out; have := HK5.out; have := HJ17.out; omega⟩, ⟨by (with_reducible repeat (first | apply Kd.R_alloc | apply Kd.R_drewN | apply Kd.R_drew)); exact Kd.R_mono (Kd.R_far (p := ⟨gb105, 1, none⟩) (Kd.R_mono HO_3.out (fun k_ hk => (⟨hk, hk.1.2⟩ : _ ∧ k_ ≠ gb105))) (fun _ hk => hk.2) (.slice Ao63 y141.length co63)) (fun _ hk => ⟨hk.1.2, hk.1.1.2⟩)⟩, ⟨by (with_reducible repeat (first | apply Kd.R_alloc | apply Kd.R_drewN | apply Kd.R_drew)); exact Kd.R_mono (Kd.R_far (p := ⟨gb105, 1, none⟩) (Kd.R_types HO143.out BK105.out (by decide)) (fun _ hk => hk.2) (.slice Ao63 y141.length co63)) (fun _ hk => trivial)⟩, ⟨by (with_reducible repeat (first | refine blk_drewN ?_ _ | refine blk_drew ?_ | refine blk_alloc ?_ _)); refine blk_put (cs := #[.bool ((rd_T92 l0 x4_1).f0), u106001]) ?_ 1 _ rfl; (with_reducible repeat (first | refine blk_drewN ?_ _ | refine blk_drew ?_ | refine blk_alloc ?_ _)); exact BK105.out⟩, ⟨by repeat (first | (with_reducible first | exact HB.out | apply below_alloc | apply pw_below_drewN | apply below_drew1 | refine below_set ?_ GE105.out) | exact HB.out)⟩⟩
                  ·rw [if_neg c59] at H
                   exact absurd H (by simp)
            ·replace c15 := Bool.eq_false_iff.mpr c15
             subst c15
             have H1 : (if x3_1.length < 4398046511104 then (logjamlaw26_Own.l0 kj10 l0 (x3_1 ++ [(⟨((rd_T92 l0 x4_1).f0), x106001_3⟩ : S92)]) (wrap64 (x4_1 + 1))) else (none)) = some r := by rw [if_neg (show ¬ (false = true) by decide)] at H; exact H
             clear H
             have H := H1
             clear H1
             by_cases c65 : x3_1.length < 4398046511104
             ·rw [if_pos c65] at H
              have LMc65 := Aside0.mk c65
              clear c65
              obtain ⟨y107, hy107⟩ : ∃ y_ : List (S92), y_ = (x3_1 ++ [(⟨((rd_T92 l0 x4_1).f0), x106001_3⟩ : S92)]) := ⟨_, rfl⟩
              replace H : (logjamlaw26_Own.l0 kj10 l0 y107 (wrap64 (x4_1 + 1))) = some r := by first | (rw [hy107]; with_reducible exact H) | (have H2_ := (Option.bind_some _ _).symm.trans H; rw [hy107]; with_reducible exact H2_) | (have H2_ := (Option.bind_some _ _).symm.trans H; with_reducible exact H2_) | with_reducible exact H | (rw [hy107]; exact H) | exact H
              have Ny107 := Aside0.mk hy107
              clear hy107
              have H' := Aside0.mk H
              clear H
              have hcz66_0 : wc.cell? ⟨gb105, 0, none⟩ = some (.bool ((rd_T92 l0 x4_1).f0)) := (blk_cell BK105.out 0).trans rfl
              have hcz66_1 : wc.cell? ⟨gb105, 1, none⟩ = some (u106001) := (blk_cell BK105.out 1).trans rfl
              have hfz66_0 := blk_frozen BK105.out 0
              have hfz66_1 := blk_frozen BK105.out 1
              obtain ⟨Ao68, co68, eo68⟩ := Kd.R_slice HO_106001.out
              subst eo68
              go_wp2_with (first | ((with_reducible refine gate_builtin (b := .append) (xs := #[.tmp 93, .tmp 95]) rfl ?_); at_builtin; refine Kd.R_append k92 (w0 := w) w.heap.size rfl (.tmp 93) (.tmp 95) 23 92 (.agg #[(.bool false), (.slice none 0 0)]) 32 rfl Tryd.underlying23 info92 rfl (by decide) (by omega) u3 x3_1 (⟨((rd_T92 l0 x4_1).f0), x106001_3⟩ : S92) [.bool ((rd_T92 l0 x4_1).f0), .slice Ao68 x106001_3.length co68] (fun k_ => k_ ≠ gb105) (fun k_ => ((fun k_ => k_ ≠ gb105)) k_ ∧ some k_ ≠ (u3 : Value).ownBlock) rfl rfl ?aP (fun _ hk => hk) ?aF ?aO ?aB ?aS ?aL ?_; (case aP => exact k92_mkM _ _ _ (⟨((rd_T92 l0 x4_1).f0), x106001_3⟩ : S92) (Kd.R_mono (Kd.R_types (Kd.R_apart' (HO_106001.out) (Kd.R_typed HO_3.out) (by decide)) BK105.out (by decide)) (fun k_ hk => ⟨hk.2, hk.1.2⟩))); (case aB => exact (by repeat (first | (with_reducible first | exact HB.out | apply below_alloc | apply pw_below_drewN | apply below_drew1 | refine below_set ?_ GE105.out) | exact HB.out))); (case aF => exact (fun k_ hk => Kd.freshB (g := gb105) (o := .cells #[.bool ((rd_T92 l0 x4_1).f0), .slice Ao68 x106001_3.length co68] 92 (0, 0)) (by (with_reducible repeat (first | refine blk_drewN ?_ _ | refine blk_drew ?_ | refine blk_alloc ?_ _)); exact BK105.out) k_ hk)); (case aO => exact (by (with_reducible repeat (first | apply Kd.R_alloc | apply Kd.R_drewN | apply Kd.R_drew)); exact Kd.R_mono HO_3.out (fun _ hk => hk.2))); (case aS => exact (below_size (by repeat (first | (with_reducible first | exact HB.out | apply below_alloc | apply pw_below_drewN | apply below_drew1 | refine below_set ?_ GE105.out) | exact HB.out)))); (case aL => have := LMc65.out; omega); intro v108 w67 ho hb hg hat; rw [← Ny107.out] at ho; have n0_ := Aside0.mk (blk_grown (g := gb105) (o := .cells #[.bool ((rd_T92 l0 x4_1).f0), .slice Ao68 x106001_3.length co68] 92 (0, 0)) (by (with_reducible repeat (first | refine blk_drewN ?_ _ | refine blk_drew ?_ | refine blk_alloc ?_ _)); exact BK105.out) hg (Kd.R_away HO_3.out (fun _ hk => hk.2))); have n1_ := Aside0.mk (hb); have n2_ := Aside0.mk (ho); clear BK105; clear HB; clear HO_3; clear HO_106001; have BK105 := n0_; have HB := n1_; have HO109 := n2_; clear n0_ n1_ n2_; clear ho hb hg hat))
              go_roundg kj10
              case measure => have := HK1.out; have := HJ3.out; have := HK3.out; have := HJ10.out; omega
              case rel => exact ⟨(y107), (wrap64 (x4_1 + 1)), (by first | rfl | (simp; done) | (simp [*]; done)), H', ⟨by have := HK1.out; have := HJ3.out; have := HK3.out; have := HJ10.out; omega⟩, ⟨by (with_reducible repeat (first | apply Kd.R_alloc | apply Kd.R_drewN | apply Kd.R_drew)); exact Kd.R_mono HO109.out (fun _ hk => trivial)⟩, ⟨by repeat (first | (with_reducible first | exact HB.out | apply below_alloc | apply pw_below_drewN | apply below_drew1 | refine below_set ?_ GE105.out) | exact HB.out)⟩⟩
             ·rw [if_neg c65] at H
              exact absurd H (by simp)
       ·rw [if_neg c8] at H
        exact absurd H (by simp)
      ·rw [if_neg c7] at H
       exact absurd H (by simp)
     ·replace c6 := Bool.eq_false_iff.mpr c6
      subst c6
      have H1 : (some x3_1) = some r := by rw [if_neg (show ¬ (false = true) by decide)] at H; exact H
      clear H
      have H := H1
      clear H1
      obtain rfl := Option.some.inj H
      go_wp2
      go_ret
      exact ⟨_, by first | rfl | (simp [errW_none, errW_some] <;> rfl) | (simp [*, errW_none, errW_some] <;> rfl), by (with_reducible repeat (first | apply Kd.R_alloc | apply Kd.R_drewN | apply Kd.R_drew)); exact HO_3.out, by repeat (first | (with_reducible first | exact HB.out | apply below_alloc | apply pw_below_drewN | apply below_drew1) | exact HB.out)⟩
end Go.Proofs.YtadepdeckapgcaaDoor.PWitnessTells
end

section
namespace Go.Proofs.YtadepdeckapgcaaDoor
open Go.RowKit Go.Proofs.YtadepdeckapgcaaDoorW.PrintWords Go.Proofs.YtadepdeckapgcaaDoorW.PrintLast Go.Proofs.YtadepdeckapgcaaDoorW.PrintMore PWitnessTells
set_option linter.unusedSimpArgs false
set_option linter.unusedVariables false
def ownM (m : NTerm) : NTerm := ⟨m.f0, m.f1.take 70⟩
def ownW (w : List NTerm) : List NTerm := (w.take 6).map ownM
def ownN (x : NNode) : NNode := ⟨x.f0, (x.f1.take 6).map ownW⟩
def ownL (l : List NNode) : List NNode := (l.take 70).map ownN
theorem getD_take {α : Type} (d : α) (l : List α) (n k : Nat) (h : k < n) : (l.take n).getD k d = l.getD k d := by
  rw [List.getD_eq_getElem?_getD, List.getElem?_take, if_pos h, ← List.getD_eq_getElem?_getD]
theorem take_lt {α : Type} (l : List α) (n j d : Nat) (h : j + (d + 1) = (l.take n).length) : j < n ∧ j < l.length ∧ j < (l.take n).length := by
  have := List.length_take (i := n) (l := l)
  omega
theorem ownM_eq (m : NTerm) (f : List NShare) (h : f = m.f1.take 70) : (⟨m.f0, f⟩ : NTerm) = ownM m := by rw [h]; rfl
theorem ev_own_l2 (l out : List NNode) (i a : Nat) (st : Bool) (dn : List (List NTerm)) (r : List NNode) (hi : i < l.length) (ha : a < (rd_T92 l (i : Int)).f1.length) (hm : (rd_T92 l (i : Int)).f1.length ≤ MX) (hdn : dn.length ≤ 6) (hway : Bw (rd_L5 (rd_T92 l (i : Int)).f1 (a : Int))) :
    ∀ (d j : Nat) (acc : List NTerm), j + d = ((rd_L5 (rd_T92 l (i : Int)).f1 (a : Int)).take 6).length → acc.length ≤ j →
      Ev (fun k => logjamlaw26_Own.l1 k l out i ((a + 1 : Nat) : Int) st (dn ++ [acc ++ (((rd_L5 (rd_T92 l (i : Int)).f1 (a : Int)).take 6).drop j).map ownM])) r →
      Ev (fun k => logjamlaw26_Own.l2 k l out i a acc j st dn) r := by
  have hwa := Lib.hid <| wrap_succ a (rd_T92 l (i : Int)).f1.length ha hm
  generalize hW : rd_L5 (rd_T92 l (i : Int)).f1 (a : Int) = way at *
  have htl : (way.take 6).length = min 6 way.length := List.length_take
  intro d
  induction d with
  | zero =>
    intro j acc hj hac h
    rw [List.drop_of_length_le (by omega), List.map_nil, List.append_nil] at h
    have h2 : Ev (fun k => logjamlaw26_Own.j5 k l out i a acc j false st dn) r := by
      refine Ev.step (f := fun k => logjamlaw26_Own.l1 k l out i ((a + 1 : Nat) : Int) st (dn ++ [acc])) (fun k => ?_) h
      simp only [logjamlaw26_Own.j5]
      rw [if_neg (by simp), if_pos (by omega), hwa.out]
    by_cases hjl : j < way.length
    · refine Ev.step (f := fun k => logjamlaw26_Own.j5 k l out i a acc j false st dn) (fun k => ?_) h2
      simp only [logjamlaw26_Own.l2, hW]
      rw [if_pos (by omega), if_pos (by omega), if_pos (by omega), if_pos (by omega), if_pos (by omega), decide_eq_false (by omega)]
    · refine Ev.step (f := fun k => logjamlaw26_Own.j5 k l out i a acc j false st dn) (fun k => ?_) h2
      simp only [logjamlaw26_Own.l2, hW]
      rw [if_pos (by omega), if_pos (by omega), if_pos (by omega), if_pos (by omega), if_neg (by omega)]
  | succ d ih =>
    intro j acc hj hac h
    obtain ⟨hj6, hjl, hjt⟩ := take_lt way 6 j d hj
    have hwj := Lib.hid <| wrap_succ j way.length hjl hway.1
    rw [drop_cons' z96 (way.take 6) j hjt, getD_take z96 way 6 j hj6] at h
    have hrd : rd_T96 way (j : Int) = way.getD j z96 := rfl
    have hmm : (way.getD j z96).f1.length ≤ MX := hway.2 _ (getD_mem z96 way j hjl)
    have h' : Ev (fun k => logjamlaw26_Own.l1 k l out i ((a + 1 : Nat) : Int) st (dn ++ [(acc ++ [ownM (way.getD j z96)]) ++ ((way.take 6).drop (j + 1)).map ownM])) r := by rw [List.append_assoc]; exact h
    have hj1 : j + 1 + d = (way.take 6).length := by rw [← hj]; omega
    have hacc : acc.length ≤ 6 := by omega
    have ih' := ih (j + 1) (acc ++ [ownM (way.getD j z96)]) hj1 (by rw [List.length_append, List.length_singleton]; omega) h'
    generalize way.getD j z96 = m at *
    refine Ev.step (f := fun k => logjamlaw26_Own.j5 k l out i a acc j true st dn) (fun k => ?_) ?_
    · simp only [logjamlaw26_Own.l2, hW]
      rw [if_pos (by omega), if_pos (by omega), if_pos (by omega), if_pos (by omega), if_pos (by omega), decide_eq_true (by omega)]
    refine Ev.step (f := fun k => logjamlaw26_Own.l2 k l out i a (acc ++ [ownM m]) ((j + 1 : Nat) : Int) st dn) (fun k => ?_) ih'
    simp only [logjamlaw26_Own.j5, hW]
    rw [if_pos trivial, if_pos (by omega), if_pos (by omega), if_pos (by omega), if_pos (by omega), if_pos (by omega), if_pos (by omega), hrd, hwj.out]
    by_cases h70 : (m.f1.length : Int) > 70
    · rw [if_pos h70, if_pos (by omega)]
      simp only [Option.bind_some, List.nil_append, List.length_nil, List.length_take]
      rw [if_pos (by omega), if_pos (by omega), ownM_eq m _ rfl]
    · rw [if_neg h70]
      simp only [Option.bind_some, List.nil_append, List.length_nil]
      rw [if_pos (by omega), if_pos (by omega), ownM_eq m _ (List.take_of_length_le (by omega)).symm]
theorem ev_own_l1 (l out : List NNode) (i : Nat) (st : Bool) (r : List NNode) (hi : i < l.length) (hil : l.length ≤ MX) (hout : out.length ≤ 70) (hws : Bws (rd_T92 l (i : Int)).f1) :
    ∀ (d a : Nat) (dn : List (List NTerm)), a + d = ((rd_T92 l (i : Int)).f1.take 6).length → dn.length ≤ a →
      Ev (fun k => logjamlaw26_Own.l0 k l (out ++ [⟨st, dn ++ (((rd_T92 l (i : Int)).f1.take 6).drop a).map ownW⟩]) ((i + 1 : Nat) : Int)) r →
      Ev (fun k => logjamlaw26_Own.l1 k l out i a st dn) r := by
  have hwi := Lib.hid <| wrap_succ i l.length hi hil
  have htl : ((rd_T92 l (i : Int)).f1.take 6).length = min 6 (rd_T92 l (i : Int)).f1.length := List.length_take
  intro d
  induction d with
  | zero =>
    intro a dn hj hac h
    rw [List.drop_of_length_le (by omega), List.map_nil, List.append_nil] at h
    have h2 : Ev (fun k => logjamlaw26_Own.j3 k l out i a false st dn) r := by
      refine Ev.step (f := fun k => logjamlaw26_Own.l0 k l (out ++ [⟨st, dn⟩]) ((i + 1 : Nat) : Int)) (fun k => ?_) h
      simp only [logjamlaw26_Own.j3]
      rw [if_neg (by simp), if_pos (by omega), hwi.out]
    by_cases hjl : a < (rd_T92 l (i : Int)).f1.length
    · refine Ev.step (f := fun k => logjamlaw26_Own.j3 k l out i a false st dn) (fun k => ?_) h2
      simp only [logjamlaw26_Own.l1]
      rw [if_pos (by omega), if_pos (by omega), if_pos (by omega), decide_eq_false (by omega)]
    · refine Ev.step (f := fun k => logjamlaw26_Own.j3 k l out i a false st dn) (fun k => ?_) h2
      simp only [logjamlaw26_Own.l1]
      rw [if_pos (by omega), if_pos (by omega), if_neg (by omega)]
  | succ d ih =>
    intro a dn hj hac h
    obtain ⟨ha6, hal, hat⟩ := take_lt (rd_T92 l (i : Int)).f1 6 a d hj
    rw [drop_cons' [] ((rd_T92 l (i : Int)).f1.take 6) a hat, getD_take _ _ _ _ ha6] at h
    have hrd : rd_L5 (rd_T92 l (i : Int)).f1 (a : Int) = (rd_T92 l (i : Int)).f1.getD a [] := rfl
    have ih' := ih (a + 1) (dn ++ [ownW (rd_L5 (rd_T92 l (i : Int)).f1 (a : Int))]) (by omega) (by rw [List.length_append, List.length_singleton]; omega) (by rw [hrd, List.append_assoc]; exact h)
    refine Ev.step (f := fun k => logjamlaw26_Own.j3 k l out i a true st dn) (fun k => ?_) ?_
    · simp only [logjamlaw26_Own.l1]
      rw [if_pos (by omega), if_pos (by omega), if_pos (by omega), decide_eq_true (by omega)]
    refine Ev.step (f := fun k => logjamlaw26_Own.l2 k l out i a [] ((0 : Nat) : Int) st dn) (fun k => by simp only [logjamlaw26_Own.j3]; rw [if_pos trivial]; rfl) ?_
    refine ev_own_l2 l out i a st dn r hi hal hws.1 (by omega) (hws.2 _ (getD_mem [] _ a hal)) ((rd_L5 (rd_T92 l (i : Int)).f1 (a : Int)).take 6).length 0 [] (Nat.zero_add _) (Nat.le_refl _) ?_
    exact ih'
theorem ev_own_l0 (l : List NNode) (hb : Bns l) : ∀ (d i : Nat) (out : List NNode), i + d = (l.take 70).length → out.length ≤ i → Ev (fun k => logjamlaw26_Own.l0 k l out i) (out ++ ((l.take 70).drop i).map ownN) := by
  have htl : (l.take 70).length = min 70 l.length := List.length_take
  intro d
  induction d with
  | zero =>
    intro i out hi ho
    rw [List.drop_of_length_le (by omega), List.map_nil, List.append_nil]
    have h2 : Ev (fun k => logjamlaw26_Own.j1 k l out i false) out := Ev.step (f := fun _ => some out) (fun k => by simp only [logjamlaw26_Own.j1]; rw [if_neg (by simp)]) (Ev.now _)
    by_cases hil : i < l.length
    · exact Ev.step (f := fun k => logjamlaw26_Own.j1 k l out i false) (fun k => by simp only [logjamlaw26_Own.l0]; rw [if_pos (by omega), decide_eq_false (by omega)]) h2
    · exact Ev.step (f := fun k => logjamlaw26_Own.j1 k l out i false) (fun k => by simp only [logjamlaw26_Own.l0]; rw [if_neg (by omega)]) h2
  | succ d ih =>
    intro i out hi ho
    obtain ⟨hi7, hil, hit⟩ := take_lt l 70 i d hi
    rw [drop_cons' z92 (l.take 70) i hit, getD_take _ _ _ _ hi7]
    have hrd : rd_T92 l (i : Int) = l.getD i z92 := rfl
    have ih' := ih (i + 1) (out ++ [ownN (rd_T92 l (i : Int))]) (by omega) (by simp; omega)
    have hws : Bws (rd_T92 l (i : Int)).f1 := hb.2 _ (getD_mem z92 l i hil)
    rw [List.map_cons, ← hrd]
    refine Ev.step (f := fun k => logjamlaw26_Own.j1 k l out i true) (fun k => by simp only [logjamlaw26_Own.l0]; rw [if_pos (by omega), decide_eq_true (by omega)]) ?_
    refine Ev.step (f := fun k => logjamlaw26_Own.l1 k l out i ((0 : Nat) : Int) (rd_T92 l (i : Int)).f0 []) (fun k => by simp only [logjamlaw26_Own.j1]; rw [if_pos trivial, if_pos (by omega), if_pos (by omega)]; rfl) ?_
    refine ev_own_l1 l out i _ _ hil hb.1 (by omega) hws ((rd_T92 l (i : Int)).f1.take 6).length 0 [] (Nat.zero_add _) (Nat.le_refl _) ?_
    simpa [ownN] using ih'
theorem ev_own (l : List NNode) (hb : Bns l) : Ev (fun k => logjamlaw26_Own.f k l) (ownL l) :=
  Ev.congr (f := fun k => logjamlaw26_Own.l0 k l [] ((0 : Nat) : Int)) (fun k => rfl) (by simpa [ownL] using ev_own_l0 l hb (l.take 70).length 0 [] (by omega) (Nat.le_refl _))
theorem wOwn26 (w : World) (A : Option Addr) (c : Nat) (l : List NNode) (hC : Kd.C k92 w A l.length l) (hc : l.length ≤ c) :
    Calls Tryd.prog 14 #[.slice A l.length c] w fun e w' => ∃ v, e = .returned v ∧ k92.R 92 w' w.heap.size Any_ v (ownL l) ∧ Below w.heap.size w w' := by
  obtain ⟨k, hk⟩ := (ev_own l (bns_of hC)).rounds
  exact logjamlaw26_Own.calls k A c l _ w hC hc hk
theorem ownL_sns (l : List NNode) : Sns (ownL l) := by
  refine ⟨by simp [ownL]; omega, fun x hx => ?_⟩
  obtain ⟨y, _, rfl⟩ := List.mem_map.1 hx
  refine ⟨by simp [ownN]; omega, fun w hw => ?_⟩
  obtain ⟨u, _, rfl⟩ := List.mem_map.1 hw
  refine ⟨by simp [ownW]; omega, fun m hm => ?_⟩
  obtain ⟨v, _, rfl⟩ := List.mem_map.1 hm
  simp [ownM]; omega
end Go.Proofs.YtadepdeckapgcaaDoor
end

section
namespace Go.Proofs.YtadepdeckapgcaaDoor
open Go.RowKit Go.Proofs.YtadepdeckapgcaaDoorW.PrintWords Go.Proofs.YtadepdeckapgcaaDoorW.PrintLast Go.Proofs.YtadepdeckapgcaaDoorW.PrintMore PWitnessTells
set_option linter.unusedSimpArgs false
set_option linter.unusedVariables false
theorem own_first {W : World} {base : Nat} {v : Value} {y : NNode} (h : k92.R 92 W base Any_ v [y]) :
    ∃ g cap A1 c1, v = .slice (some ⟨g, 0, none⟩) 1 cap ∧ W.cell? ⟨g, 0, none⟩ = some (.bool y.f0) ∧ W.cell? ⟨g, 1, none⟩ = some (.slice A1 y.f1.length c1) ∧ k92.M W base Any_ y [.bool y.f0, .slice A1 y.f1.length c1] := by
  obtain ⟨g, c, rfl, _⟩ := Kd.R_form h (by simp)
  obtain ⟨cs, _, hM, hcell, _⟩ := Kd.R_elem (n := 1) h ⟨false, []⟩ 0 (by omega) (by omega)
  obtain ⟨v1, rfl, hR⟩ := k92_openM hM
  obtain ⟨A1, c1, rfl⟩ := Kd.R_slice hR
  refine ⟨g, c, A1, c1, rfl, ?_, ?_, k92_mkM _ _ _ _ (Kd.R_mono hR (fun _ _ => trivial))⟩
  · exact hcell 0 _ rfl
  · exact hcell 1 _ rfl
def OwRel (w : World) (R Y : Nat) (time : Int) (xs : Array Value) (d : List Int) (i : Value) (wr : World) : Prop :=
  ∃ (k : Nat) (vd : Value), k ≤ (d.take 70).length ∧ i = .int .i64 k ∧ PtAt w R Y time xs vd (.slice none 0 0) ((d.take 70).take k) [] wr
def OwRel2 (w : World) (R Y : Nat) (time : Int) (xs : Array Value) (vd : Value) (d : List Int) (n : List NNode) (i : Value) (wr : World) : Prop :=
  ∃ (k : Nat) (vn : Value), k ≤ (n.take 70).length ∧ i = .int .i64 k ∧ PtAt w R Y time xs vd vn (d.take 70) (((n.take 70).take k).map ownN) wr
set_option maxRecDepth 100000 in
set_option maxHeartbeats 1000000 in
theorem wOwn36 (w : World) (time : Int) (A1 : Option Addr) (c1 : Nat) (d : List Int) (A2 : Option Addr) (c2 : Nat) (n : List NNode) (h1 : Kd.C (Kd.int .i64) w A1 d.length d) (h2 : d.length ≤ c1) (h3 : Kd.C k92 w A2 n.length n) (h4 : n.length ≤ c2) :
    Calls Tryd.prog 13 #[.agg #[.int .i64 time, .slice A1 d.length c1, .slice A2 n.length c2]] w fun e w' =>
      ∃ v1 v2, e = .returned (.agg #[.int .i64 time, v1, v2]) ∧ (Kd.int .i64).R 3 w' w.heap.size Any_ v1 (d.take 70) ∧ k92.R 92 w' w.heap.size Any_ v2 (ownL n) ∧ Below w.heap.size w w' := by
  have hm1 := h1.2.1
  have hm3 := h3.2.1
  have HD := Lib.hid h1; have HN := Lib.hid h3
  clear h1 h3
  obtain ⟨dt, hdt⟩ : ∃ x, x = d.take 70 := ⟨_, rfl⟩
  have hdtl : dt.length = min 70 d.length := by rw [hdt, List.length_take]
  obtain ⟨nt, hnt⟩ : ∃ x, x = n.take 70 := ⟨_, rfl⟩
  have hntl : nt.length = min 70 n.length := by rw [hnt, List.length_take]
  have HP0 : Hid (PtAt w (w.heap.size + 1) (w.heap.size + 1 + 1) time #[.int .i64 time, .slice A1 d.length c1, .slice A2 n.length c2] (.slice none 0 0) (.slice none 0 0) [] [] (((w.alloc (.cells #[.int .i64 time, .slice A1 d.length c1, .slice A2 n.length c2] 25)).alloc (.cells #[.int .i64 0, .slice none 0 0, .slice none 0 0] 25)).alloc (.cells #[.int .i64 time, .slice none 0 0, .slice none 0 0] 25))) := Lib.hid (by
    refine ⟨((Blk.new _ _ _).alloc _).alloc _, ?_, ?_, Kd.R_nil _ _ _ _ _, Kd.R_nil _ _ _ _ _, (((Below.refl _ _).alloc (Nat.le_refl _) _).alloc (by simp) _).alloc (by simp <;> omega) _⟩
    · have q := (Blk.new (w.alloc (.cells #[.int .i64 time, .slice A1 d.length c1, .slice A2 n.length c2] 25)) #[.int .i64 0, .slice none 0 0, .slice none 0 0] 25).alloc (.cells #[.int .i64 time, .slice none 0 0, .slice none 0 0] 25)
      simpa using q
    · have q := Blk.new ((w.alloc (.cells #[.int .i64 time, .slice A1 d.length c1, .slice A2 n.length c2] 25)).alloc (.cells #[.int .i64 0, .slice none 0 0, .slice none 0 0] 25)) #[.int .i64 time, .slice none 0 0, .slice none 0 0] 25
      simpa using q)
  have HDT := Lib.hid hdt; have HNT := Lib.hid hnt
  clear hdt hnt
  go_enter Tryd.func13, Tryd.ntmps13
  go_wp2
  go_loopw [4] (fun i wr => OwRel w (w.heap.size + 1) (w.heap.size + 1 + 1) time #[.int .i64 time, .slice A1 d.length c1, .slice A2 n.length c2] d i wr) (fun i _ => dt.length - (intOf i).toNat)
  case atStart => exact ⟨0, _, Nat.zero_le _, rfl, HP0.out⟩
  case round =>
    obtain ⟨k, vd, hk, rfl, hP⟩ := hrel
    rw [← HDT.out] at hk hP
    obtain ⟨dd, hdd⟩ : ∃ z, z = dt.take k := ⟨_, rfl⟩
    have hdl : dd.length = k := by rw [hdd, List.length_take]; omega
    rw [← hdd] at hP
    subst hdl
    obtain ⟨Ad, cd, rfl⟩ := Kd.R_slice hP.od
    have HDD := Lib.hid hdd; have HP2 := Lib.hid hP
    have y0 := hP.y.cell 0; have y1 := hP.y.cell 1; have y2 := hP.y.cell 2
    have v0 := hP.x.cell 0; have v1 := hP.x.cell 1; have v2 := hP.x.cell 2
    simp at y0 y1 y2 v0 v1 v2
    by_cases hlt : dd.length < dt.length
    · obtain ⟨ad, hA, h0⟩ := at_ints (Kd.C_below HD.out hP.b) dd.length (by omega)
      have htk := take_snoc' 0 dt dd.length hlt
      rw [HDT.out, getD_take 0 d 70 dd.length (by omega), ← HDT.out, ← hdd] at htk
      generalize d.getD dd.length 0 = t at *
      subst hA
      have hk70 : decide ((dd.length : Int) < 70) = true := decide_eq_true (by omega)
      have hkd : decide ((dd.length : Int) < (d.length : Int)) = true := decide_eq_true (by omega)
      have HTK := Lib.hid htk
      have HPd := Lib.hid (HP2.out.quiet (Fr.refl _ _).drew)
      have y1a : ∀ o, (wr.alloc o).cell? ⟨w.heap.size + 1 + 1, 1, none⟩ = some (.slice Ad dd.length cd) := fun o => by simpa using (HP2.out.y.alloc o).cell 1
      have hYl : w.heap.size + 1 + 1 < wr.heap.size := HP2.out.y.lt
      clear hP hdd htk
      go_wp2_with fail
      go_region_law (refine rAppStep (W := wr.drew) (Kd.int .i64) (w0 := w) w.heap.size rfl _ _ 22 3 (.int .i64 0) 8 rfl Tryd.underlying22 infoInt rfl (by decide) (by decide) (.slice Ad dd.length cd) dd t [.int .i64 t] rfl rfl rfl (by intro q hq; simp [Kd.int, Kd.scalar] at hq) HPd.out.od HPd.out.b HPd.out.b.size (by omega) ?_; intro v1 w4 ho _ hg _; obtain ⟨de, hde⟩ : ∃ z, z = dd ++ [t] := ⟨_, rfl⟩; rw [← hde] at ho; obtain ⟨Ae, ce, hve⟩ := Kd.R_slice ho; subst hve; have HDE := Lib.hid hde; have HPg := Lib.hid (PtAt.growD HPd.out (by omega) (by omega) hg ho); have q2 := grown_blk hg HPd.out.y (own_not_blk HPd.out.y (Kd.R_own HPd.out.od).choose_spec (by decide)); have qc := q2.cell 1; have qf := q2.free 1; simp at qc; clear hde ho hg q2)
      all_goals
        go_wp2_with fail
        go_roundw
        case rel => exact ⟨dd.length + 1, .slice Ae de.length ce, by rw [← HDT.out]; omega, by go_num, by rw [← HDT.out, HTK.out, ← HDE.out]; exact HPg.out⟩
        case measure => simp [intOf]; omega
    · have hdd2 : dd = dt := by rw [hdd, List.take_of_length_le (by omega)]
      have HDD2 := Lib.hid hdd2
      obtain ⟨wo, hwo⟩ : ∃ x, x = wr := ⟨_, rfl⟩
      subst hwo
      clear hP hdd hdd2
      rcases Nat.lt_or_ge dd.length d.length with hq | hq
      all_goals
        have hkd : decide ((dd.length : Int) < (d.length : Int)) = decide (dd.length < d.length) := by simp
        first
          | (rw [decide_eq_true hq] at hkd; have hk71 : decide ((dd.length : Int) < 70) = false := decide_eq_false (by omega))
          | rw [decide_eq_false (show ¬ dd.length < d.length by omega)] at hkd
        go_wp2
        go_loopw [6] (fun i wr => OwRel2 w (w.heap.size + 1) (w.heap.size + 1 + 1) time #[.int .i64 time, .slice A1 d.length c1, .slice A2 n.length c2] (.slice Ad dd.length cd) d n i wr) (fun i _ => nt.length - (intOf i).toNat)
        case atStart => exact ⟨0, _, Nat.zero_le _, rfl, by rw [← HDT.out, ← HDD2.out]; exact HP2.out⟩
        case round =>
          obtain ⟨k, vn, hk2, rfl, hP⟩ := hrel
          rw [← HDT.out, ← HDD2.out, ← HNT.out] at hP
          rw [← HNT.out] at hk2
          obtain ⟨nn, hnn⟩ : ∃ z, z = (nt.take k).map ownN := ⟨_, rfl⟩
          have hnl : nn.length = k := by rw [hnn, List.length_map, List.length_take]; omega
          rw [← hnn] at hP
          subst hnl
          obtain ⟨An, cn, rfl⟩ := Kd.R_slice hP.on
          have HNN := Lib.hid hnn; have HP3 := Lib.hid hP
          have y0 := hP.y.cell 0; have y1 := hP.y.cell 1; have y2 := hP.y.cell 2
          have v0 := hP.x.cell 0; have v1 := hP.x.cell 1; have v2 := hP.x.cell 2
          simp at y0 y1 y2 v0 v1 v2
          by_cases hlt2 : nn.length < nt.length
          · have hln : nn.length < n.length := by omega
            have hk72 : decide ((nn.length : Int) < 70) = true := decide_eq_true (by omega)
            have hkn : decide ((nn.length : Int) < (n.length : Int)) = true := decide_eq_true (by omega)
            have htk := take_snoc' z92 nt nn.length hlt2
            rw [HNT.out, getD_take z92 n 70 nn.length (by omega), ← HNT.out] at htk
            have hmid : (n.take (nn.length + 1)).drop nn.length = [n.getD nn.length z92] := by
              rw [take_snoc' z92 n nn.length hln, List.drop_append_of_le_length (by simp; omega), List.drop_of_length_le (by simp; omega)]
              rfl
            have hC1 := Kd.C_mid (c := c2) (Kd.C_below HN.out hP.b) (lo := nn.length) (hi := nn.length + 1) (by omega) (by omega) h4
            rw [hmid, if_neg (by omega)] at hC1
            generalize n.getD nn.length z92 = x at *
            obtain ⟨ad2, _, _, hA2, _⟩ := at_T92 (Kd.C_below HN.out hP.b) nn.length (by omega) (by omega)
            subst hA2
            have hwr : IntKind.i64.wrap ((nn.length : Int) + 1) = (nn.length : Int) + 1 := by
              rw [IntKind.wrap_i64]; omega
            have hcn : ¬ c2 = nn.length := by omega
            have hcb : (nn.length : Int) + 1 ≤ (c2 : Int) := by omega
            have hn0 : (0 : Int) ≤ (nn.length : Int) + 1 := by omega
            have htn : ((nn.length : Int) + 1).toNat = nn.length + 1 := by omega
            have HTK := Lib.hid htk; have HC1 : Hid (Kd.C k92 wr (some (ad2.add (nn.length * 2))) [x].length [x]) := Lib.hid hC1
            have hc1' : [x].length ≤ c2 - nn.length := by show 1 ≤ c2 - nn.length; omega
            have HN5 : Hid (Quiet wr wr.drew) := Lib.hid (Fr.refl _ _).drew
            have hz5 : w.heap.size ≤ wr.drew.heap.size := HP3.out.b.size
            have hRY : w.heap.size + 1 ≠ w.heap.size + 1 + 1 := by omega
            have hYY : w.heap.size < w.heap.size + 1 + 1 := by omega
            clear hP hnn htk hmid hC1
            go_wp2_with fail
            go_region_law (first
              | (go_simp; go_at_call 14; refine (wOwn26 _ (some (ad2.add (nn.length * 2))) (c2 - nn.length) [x] (Kd.C_below HC1.out (Quiet.bel HN5.out)) hc1').mono ?_; rintro e w6 ⟨v6, rfl, hr6, hb6⟩; obtain ⟨g6, cap6, A6, c6, hv6, e0, e1, hM6⟩ := own_first hr6; subst hv6; have HP6 := Lib.hid (HP3.out.quiet (HN5.out.quiet (Quiet.of hb6))); have k2 := HP6.out.y.cell 2; simp at k2; have k2a : ∀ o, (w6.alloc o).cell? ⟨w.heap.size + 1 + 1, 2, none⟩ = some (.slice An nn.length cn) := (fun o => by simpa using (HP6.out.y.alloc o).cell 2); have hY6 : w.heap.size + 1 + 1 < w6.heap.size := HP6.out.y.lt; have HM6 := Lib.hid hM6; clear hr6 hb6 hM6)
              | (have hq7 := HM6.out; refine rAppStep k92 (w0 := w) w.heap.size rfl _ _ 23 92 _ 32 rfl Tryd.underlying23 infoNode rfl (by decide) (by decide) (.slice An nn.length cn) nn (ownN x) _ rfl rfl (k92.M_lower hz5 HM6.out) (by decide) HP6.out.on HP6.out.b HP6.out.b.size (by omega) ?_; intro v7 w7 ho _ hg _; obtain ⟨ne, hne⟩ : ∃ z, z = nn ++ [ownN x] := ⟨_, rfl⟩; rw [← hne] at ho; obtain ⟨A7, c7, hv7⟩ := Kd.R_slice ho; subst hv7; have HNE := Lib.hid hne; have HP7 := Lib.hid (PtAt.growN HP6.out hRY hYY hg ho); have q2 := grown_blk hg HP6.out.y (own_not_blk HP6.out.y (Kd.R_own HP6.out.on).choose_spec (by decide)); have qc := q2.cell 2; have qf := q2.free 2; simp at qc; clear hne ho hg q2))
            all_goals
              go_wp2_with fail
              go_roundw
              case rel =>
                refine ⟨nn.length + 1, .slice A7 ne.length c7, by rw [← HNT.out]; omega, by go_num, ?_⟩
                rw [← HDT.out, ← HDD2.out, ← HNT.out, HTK.out, List.map_append, ← HNN.out, List.map_cons, List.map_nil, ← HNE.out]
                exact HP7.out
              case measure => simp [intOf]; omega
          · have hnn2 : nn = ownL n := by rw [hnn, List.take_of_length_le (by omega), HNT.out]; rfl
            have HN2 := Lib.hid hnn2
            have r0 := hP.r.cell 0; have r1 := hP.r.cell 1; have r2 := hP.r.cell 2
            have f0 := hP.r.free 0; have f1 := hP.r.free 1; have f2 := hP.r.free 2
            simp at r0 r1 r2
            have hkn : decide ((nn.length : Int) < (n.length : Int)) = decide (nn.length < n.length) := by simp
            have hk72 : decide ((nn.length : Int) < 70) = decide (nn.length < 70) := by rw [decide_eq_decide]; omega
            clear hP hnn hnn2
            rcases Nat.lt_or_ge nn.length n.length with hq2 | hq2
            all_goals
              first
                | rw [decide_eq_true hq2, ] at hkn
                | rw [decide_eq_false (show ¬ nn.length < n.length by omega)] at hkn
              first
                | rw [decide_eq_false (show ¬ nn.length < 70 by omega)] at hk72
                | clear hk72
              go_wp2
              refine bodyPost_ret (results_cell_row rfl _ _ (w.heap.size + 1) 25 #[.int .i64 time, .slice Ad dd.length cd, .slice An nn.length cn] (0, 0) _ rfl ?blk Tryd.underlying25 rfl (by kernel_rfl)) rfl ?_
              case blk =>
                have q := ((HP3.out.r.set 0 (.int .i64 time)).set 1 (.slice Ad dd.length cd)).set 2 (.slice An nn.length cn)
                simp at q
                exact q
              refine ⟨.slice Ad dd.length cd, .slice An nn.length cn, rfl, ?_, ?_, ?_⟩
              · rw [← HDT.out, ← HDD2.out]
                exact Kd.R_set (Kd.R_set (Kd.R_set HP3.out.od HP3.out.r (by decide) 0 (.int .i64 time)) (HP3.out.r.set 0 (.int .i64 time)) (by decide) 1 (.slice Ad dd.length cd)) ((HP3.out.r.set 0 (.int .i64 time)).set 1 (.slice Ad dd.length cd)) (by decide) 2 (.slice An nn.length cn)
              · rw [← HN2.out]
                exact Kd.R_set (Kd.R_set (Kd.R_set HP3.out.on HP3.out.r (by decide) 0 (.int .i64 time)) (HP3.out.r.set 0 (.int .i64 time)) (by decide) 1 (.slice Ad dd.length cd)) ((HP3.out.r.set 0 (.int .i64 time)).set 1 (.slice Ad dd.length cd)) (by decide) 2 (.slice An nn.length cn)
              · exact ((HP3.out.b.setCell (by show w.heap.size ≤ w.heap.size + 1; omega) _).setCell (by show w.heap.size ≤ w.heap.size + 1; omega) _).setCell (by show w.heap.size ≤ w.heap.size + 1; omega) _
end Go.Proofs.YtadepdeckapgcaaDoor
end

section
namespace Go.Proofs.YtadepdeckapgcaaDoor
open Go.RowKit Go.Proofs.YtadepdeckapgcaaDoorW.PrintWords Go.Proofs.YtadepdeckapgcaaDoorW.PrintLast Go.Proofs.YtadepdeckapgcaaDoorW.PrintMore PWitnessTells
set_option linter.unusedSimpArgs false
set_option linter.unusedVariables false
theorem half_div (s k : Nat) : s / 2 ^ k / 2 = s / 2 ^ (k + 1) := by rw [Nat.div_div_eq_div_mul, Nat.pow_succ]
theorem tdiv_half (s i : Nat) (hs : s < B64) : IntKind.u64.wrap (Int.tdiv ((s / 2 ^ i : Nat) : Int) 2) = ((s / 2 ^ (i + 1) : Nat) : Int) := by
  have hx : s / 2 ^ i < B64 := Nat.lt_of_le_of_lt (Nat.div_le_self _ _) hs
  rw [← half_div]
  generalize s / 2 ^ i = x at *
  rw [Int.tdiv_eq_ediv_of_nonneg (by omega), IntKind.wrap_u64]
  unfold B64 at hx
  omega
theorem tmod_nat (x : Nat) : Int.tmod ((x : Nat) : Int) 2 = ((x % 2 : Nat) : Int) := by
  rw [Int.tmod_eq_emod_of_nonneg (by omega)]; omega
theorem wrap_lt64 (i : Nat) (h : i < 100) : wrap64 ((i : Int) + 1) = ((i + 1 : Nat) : Int) := wrap_succ i 100 h (by decide)
theorem ev_has_l0 (s n : Nat) (hs : s < B64) (hn : n ≤ 63) : ∀ d i, i + d = n → Ev (fun k => logjamref02_Has.l0 k ((s / 2 ^ i : Nat) : Int) (n : Int) (i : Int)) (Int.tmod ((s / 2 ^ n : Nat) : Int) 2 == 1) := by
  intro d
  induction d with
  | zero =>
    intro i hi
    obtain rfl : i = n := by omega
    refine Ev.step (f := fun _ => some (Int.tmod ((s / 2 ^ i : Nat) : Int) 2 == 1)) (fun k => ?_) (Ev.now _)
    simp only [logjamref02_Has.l0]
    rw [if_neg (by omega)]
  | succ d ih =>
    intro i hi
    refine Ev.step (f := fun k => logjamref02_Has.l0 k ((s / 2 ^ (i + 1) : Nat) : Int) (n : Int) ((i + 1 : Nat) : Int)) (fun k => ?_) (ih (i + 1) (by omega))
    simp only [logjamref02_Has.l0]
    rw [if_pos (by omega), tdiv_half s i hs, wrap_lt64 i (by omega)]
theorem ev_has (s : Nat) (hs : s < B64) (t : Int) : Ev (fun k => logjamref02_Has.f k (s : Int) t) (hasB s t) := by
  by_cases h0 : t < 0
  · have e : hasB s t = false := by unfold hasB; rw [decide_eq_false (by unfold vt; omega)]; rfl
    rw [e]
    refine Ev.congr (f := fun k => logjamref02_Has.j0 k (s : Int) t true) (fun k => by simp only [logjamref02_Has.f]; rw [if_pos h0]) ?_
    exact Ev.step (f := fun _ => some false) (fun k => by simp only [logjamref02_Has.j0]; rw [if_pos trivial]) (Ev.now _)
  · by_cases h1 : t > 63
    · have e : hasB s t = false := by unfold hasB; rw [decide_eq_false (by unfold vt; omega)]; rfl
      rw [e]
      refine Ev.congr (f := fun k => logjamref02_Has.j0 k (s : Int) t true) (fun k => by simp only [logjamref02_Has.f]; rw [if_neg h0, decide_eq_true h1]) ?_
      exact Ev.step (f := fun _ => some false) (fun k => by simp only [logjamref02_Has.j0]; rw [if_pos trivial]) (Ev.now _)
    · obtain ⟨n, rfl⟩ := Int.eq_ofNat_of_zero_le (show 0 ≤ t by omega)
      have hn : n ≤ 63 := by omega
      have e : (Int.tmod ((s / 2 ^ n : Nat) : Int) 2 == 1) = hasB s n := by
        rw [tmod_nat]
        unfold hasB
        rw [decide_eq_true (by unfold vt; omega), Bool.true_and, Nat.testBit_eq_decide_div_mod_eq, Bool.eq_iff_iff, Int.toNat_natCast]
        generalize s / 2 ^ n = x
        simp; omega
      rw [← e]
      refine Ev.congr (f := fun k => logjamref02_Has.j0 k (s : Int) n false) (fun k => by simp only [logjamref02_Has.f]; rw [if_neg h0, decide_eq_false h1]) ?_
      refine Ev.step (f := fun k => logjamref02_Has.l0 k ((s / 2 ^ 0 : Nat) : Int) (n : Int) ((0 : Nat) : Int)) (fun k => by simp only [logjamref02_Has.j0]; rw [if_neg (by simp), Nat.pow_zero, Nat.div_one]; rfl) ?_
      exact ev_has_l0 s n hs hn n 0 (Nat.zero_add _)
end Go.Proofs.YtadepdeckapgcaaDoor
end

section
namespace Go.Proofs.YtadepdeckapgcaaDoor
open Go.RowKit Go.Proofs.YtadepdeckapgcaaDoorW.PrintWords Go.Proofs.YtadepdeckapgcaaDoorW.PrintLast Go.Proofs.YtadepdeckapgcaaDoorW.PrintMore PWitnessTells
set_option linter.unusedSimpArgs false
set_option linter.unusedVariables false
theorem hasB_nat (s : Nat) (i : Nat) (h : i ≤ 63) : hasB s i = s.testBit i := by
  unfold hasB; rw [decide_eq_true (by unfold vt; omega)]; simp
theorem setExt (a b : Nat) (ha : a < B64) (hb : b < B64) (h : ∀ t, hasB a t = hasB b t) : a = b := by
  apply Nat.eq_of_testBit_eq
  intro i
  by_cases hi : i ≤ 63
  · rw [← hasB_nat a i hi, ← hasB_nat b i hi, h]
  · have hp : 18446744073709551616 ≤ 2 ^ i := by
      have : 2 ^ 64 ≤ 2 ^ i := Nat.pow_le_pow_right (by decide) (by omega)
      omega
    rw [Nat.testBit_lt_two_pow (Nat.lt_of_lt_of_le ha hp), Nat.testBit_lt_two_pow (Nat.lt_of_lt_of_le hb hp)]
theorem hasB_withB (s : Nat) (t u : Int) : hasB (withB s t) u = (hasB s u || decide (vt t ∧ u = t)) := by
  unfold hasB withB
  by_cases hu : vt u
  · rw [decide_eq_true hu]
    by_cases ht : vt t
    · rw [if_pos ht, Nat.testBit_or, Nat.testBit_two_pow, Bool.true_and, Bool.true_and]
      congr 1
      rw [decide_eq_decide]
      unfold vt at hu ht; constructor
      · intro e; exact ⟨ht, by omega⟩
      · intro e; omega
    · rw [if_neg ht, decide_eq_false (fun q => ht q.1)]; simp
  · rw [decide_eq_false hu, decide_eq_false (show ¬ (vt t ∧ u = t) from fun q => hu (q.2 ▸ q.1))]; simp
theorem woutB_and (s : Nat) (hs : s < B64) (t : Int) (h : vt t) : woutB s t = s &&& (18446744073709551615 - 2 ^ t.toNat) := by
  rw [andNot_eq s t.toNat hs (by unfold vt at h; omega)]
  unfold woutB hasB
  simp [h]
theorem hasB_woutB (s : Nat) (hs : s < B64) (t u : Int) : hasB (woutB s t) u = (hasB s u && decide (u ≠ t)) := by
  by_cases ht : vt t
  · rw [woutB_and s hs t ht]
    unfold hasB
    by_cases hu : vt u
    · have hx : (18446744073709551615 - 2 ^ t.toNat).testBit u.toNat = decide (u ≠ t) := by
        have hp := pow_lt t ht
        unfold B64 at hp
        have := Nat.testBit_two_pow_sub_succ (x := 2 ^ t.toNat) (n := 64) (by omega) u.toNat
        rw [show 2 ^ 64 - (2 ^ t.toNat + 1) = 18446744073709551615 - 2 ^ t.toNat by omega] at this
        rw [this, Nat.testBit_two_pow]
        unfold vt at hu ht
        rw [decide_eq_true (by omega), Bool.true_and]
        by_cases e : u = t
        · subst e; simp
        · rw [decide_eq_true e, decide_eq_false (by omega)]; rfl
      rw [Nat.testBit_and, hx, Bool.and_assoc]
    · rw [decide_eq_false hu]; simp
  · have : hasB s t = false := by unfold hasB; simp [ht]
    unfold woutB
    rw [this]
    by_cases e : u = t
    · subst e; simp [this]
    · simp [e]
theorem hasB_ofL (l : List Int) : ∀ (s : Nat) (u : Int), hasB (ofL s l) u = (hasB s u || decide (vt u ∧ u ∈ l)) := by
  induction l with
  | nil => intro s u; simp [ofL]
  | cons t r ih =>
    intro s u
    rw [ofL_cons, ih, hasB_withB, Bool.or_assoc]
    congr 1
    rw [← Bool.decide_or, decide_eq_decide]
    constructor
    · rintro (⟨a, rfl⟩ | ⟨a, b⟩)
      · exact ⟨a, by simp⟩
      · exact ⟨a, by simp [b]⟩
    · rintro ⟨a, b⟩
      rcases List.mem_cons.1 b with rfl | b
      · exact .inl ⟨a, rfl⟩
      · exact .inr ⟨a, b⟩
theorem hasB_vt {s : Nat} {t : Int} (h : hasB s t = true) : vt t := by unfold hasB at h; simp at h; exact h.1
theorem firstB_has (s : Nat) (h0 : s ≠ 0) (h : s < B64) : hasB s (firstB s) = true := by
  rw [← mem_listB, listB_step s h0 h]; simp
def card (s : Nat) : Nat := (List.range 64).countP fun i => s.testBit i
theorem countP_one (p q : Nat → Bool) (t : Nat) (hp : p t = false) (hq : q t = true) (h : ∀ i, i ≠ t → q i = p i) : ∀ n, (List.range n).countP q = (List.range n).countP p + if t < n then 1 else 0 := by
  intro n
  induction n with
  | zero => simp
  | succ n ih =>
    rw [List.range_succ, List.countP_append, List.countP_append, ih]
    by_cases e : n = t
    · subst e; simp [hp, hq]
    · simp only [List.countP_cons, List.countP_nil, h n e]
      by_cases hl : t < n
      · simp only [hl, show t < n + 1 by omega, if_true]; omega
      · simp only [hl, show ¬ t < n + 1 by omega, if_false]; omega
theorem card_with (s : Nat) (t : Int) (hv : vt t) (h : hasB s t = false) : card (withB s t) = card s + 1 := by
  unfold card
  have hv' := hv; unfold vt at hv'
  rw [countP_one (fun i => s.testBit i) (fun i => (withB s t).testBit i) t.toNat]
  · rw [if_pos (by omega)]
  · unfold hasB at h; simpa [hv] using h
  · unfold withB; rw [if_pos hv, Nat.testBit_or, Nat.testBit_two_pow]; simp
  · intro i hi; unfold withB; rw [if_pos hv, Nat.testBit_or, Nat.testBit_two_pow, decide_eq_false (Ne.symm hi), Bool.or_false]
theorem with_wout (s : Nat) (hs : s < B64) (t : Int) (h : hasB s t = true) : withB (woutB s t) t = s := by
  refine setExt _ _ (withB_lt' _ (by unfold woutB; split <;> (generalize 2 ^ t.toNat = x; omega)) _) hs (fun u => ?_)
  rw [hasB_withB, hasB_woutB s hs]
  by_cases e : u = t
  · subst e; rw [h]; simp [hasB_vt h]
  · simp [e]
theorem woutB_lt' (s : Nat) (hs : s < B64) (t : Int) : woutB s t < B64 := by unfold woutB; split <;> (generalize 2 ^ t.toNat = x; omega)
theorem card_wout (s : Nat) (hs : s < B64) (t : Int) (h : hasB s t = true) : card (woutB s t) + 1 = card s := by
  rw [← card_with (woutB s t) t (hasB_vt h) (by rw [hasB_woutB s hs]; simp), with_wout s hs t h]
theorem card_le (s : Nat) : card s ≤ 64 := by
  unfold card; have := List.countP_le_length (p := fun i => s.testBit i) (l := List.range 64); simpa using this
theorem hasB_bit' (o t : Int) : hasB (bit1 o) t = decide (vt t ∧ o = t) := by
  have : bit1 o = withB 0 o := by unfold bit1 withB; split <;> simp
  rw [this, hasB_withB]
  have : hasB 0 t = false := by unfold hasB; simp
  rw [this, Bool.false_or, decide_eq_decide]
  constructor
  · rintro ⟨a, rfl⟩; exact ⟨a, rfl⟩
  · rintro ⟨a, rfl⟩; exact ⟨a, rfl⟩
theorem pair_lt {l : List Int} (h : l.Pairwise (· < ·)) (i j : Nat) (hij : i < j) (hj : j < l.length) : l.getD i 0 < l.getD j 0 := by
  have := List.pairwise_iff_getElem.1 h i j (by omega) hj hij
  simpa [show i < l.length by omega, hj] using this
def lackOf (dead : Nat) (way : List NTerm) : List NShare := (way.getD (lacksL dead 0 way).toNat z96).f1
def shF (dead : Nat) : Nat × Nat → List NShare → Nat × Nat
  | mt, [] => mt
  | mt, s :: r => shF dead (if hasB dead s.f0 && !hasB mt.1 s.f0 then (withB mt.1 s.f0, withB mt.2 s.f0) else mt) r
theorem shF_cons (dead : Nat) (mt : Nat × Nat) (s : NShare) (r : List NShare) : shF dead mt (s :: r) = shF dead (if hasB dead s.f0 && !hasB mt.1 s.f0 then (withB mt.1 s.f0, withB mt.2 s.f0) else mt) r := rfl
def wyF (dead : Nat) : Nat × Nat → List (List NTerm) → Nat × Nat
  | mt, [] => mt
  | mt, w :: r => wyF dead (shF dead mt (lackOf dead w)) r
theorem wyF_cons (dead : Nat) (mt : Nat × Nat) (w : List NTerm) (r : List (List NTerm)) : wyF dead mt (w :: r) = wyF dead (shF dead mt (lackOf dead w)) r := rfl
def shTo (dead : Nat) (l : List NShare) (v : Int) : Prop := hasB dead v = true ∧ ∃ s ∈ l, s.f0 = v
def goesTo (dead : Nat) (ws : List (List NTerm)) (v : Int) : Prop := ∃ w ∈ ws, shTo dead (lackOf dead w) v
def Grown (P : Int → Prop) (a b : Nat × Nat) : Prop :=
  b.1 < B64 ∧ b.2 < B64 ∧ (∀ u, hasB b.1 u = true ↔ hasB a.1 u = true ∨ P u) ∧ (∀ u, hasB b.2 u = true ↔ hasB a.2 u = true ∨ (P u ∧ hasB a.1 u = false)) ∧
    2 * (64 - card b.1) + card b.2 ≤ 2 * (64 - card a.1) + card a.2
def Sub2 (a : Nat × Nat) : Prop := a.1 < B64 ∧ a.2 < B64 ∧ ∀ u, hasB a.2 u = true → hasB a.1 u = true
theorem Grown.refl {a : Nat × Nat} (h : Sub2 a) : Grown (fun _ => False) a a := ⟨h.1, h.2.1, fun u => by simp, fun u => by simp, Nat.le_refl _⟩
theorem Grown.sub {P : Int → Prop} {a b : Nat × Nat} (g : Grown P a b) (h : Sub2 a) : Sub2 b :=
  ⟨g.1, g.2.1, fun u hu => by
    rcases (g.2.2.2.1 u).1 hu with q | q
    · exact (g.2.2.1 u).2 (.inl (h.2.2 u q))
    · exact (g.2.2.1 u).2 (.inr q.1)⟩
theorem Grown.trans {P Q : Int → Prop} {a b c : Nat × Nat} (g : Grown P a b) (k : Grown Q b c) : Grown (fun u => P u ∨ Q u) a c := by
  refine ⟨k.1, k.2.1, fun u => ?_, fun u => ?_, Nat.le_trans k.2.2.2.2 g.2.2.2.2⟩
  · rw [k.2.2.1, g.2.2.1, or_assoc]
  · rw [k.2.2.2.1, g.2.2.2.1]
    have e : hasB b.1 u = false ↔ ¬ (hasB a.1 u = true ∨ P u) := by rw [← g.2.2.1]; simp
    rw [e]
    have e2 : hasB a.1 u = false ↔ ¬ hasB a.1 u = true := by simp
    rw [e2]
    by_cases h1 : hasB a.1 u = true <;> by_cases h2 : P u <;> by_cases h3 : Q u <;> simp [h1, h2, h3]
theorem Grown.congr {P Q : Int → Prop} {a b : Nat × Nat} (g : Grown P a b) (h : ∀ u, P u ↔ Q u) : Grown Q a b :=
  ⟨g.1, g.2.1, fun u => by rw [g.2.2.1, h], fun u => by rw [g.2.2.2.1, h], g.2.2.2.2⟩
theorem one_grown (dead : Nat) (mt : Nat × Nat) (h : Sub2 mt) (t : Int) : Grown (fun u => hasB dead u = true ∧ u = t) mt (if hasB dead t && !hasB mt.1 t then (withB mt.1 t, withB mt.2 t) else mt) := by
  by_cases c : (hasB dead t && !hasB mt.1 t) = true
  · rw [if_pos c]
    simp only [Bool.and_eq_true, Bool.not_eq_true'] at c
    have hv := hasB_vt c.1
    have h2 : hasB mt.2 t = false := by
      cases q : hasB mt.2 t
      · rfl
      · have := h.2.2 t q; rw [c.2] at this; cases this
    refine ⟨withB_lt' _ h.1 _, withB_lt' _ h.2.1 _, fun u => ?_, fun u => ?_, ?_⟩
    · show hasB (withB mt.1 t) u = true ↔ _
      rw [hasB_withB]
      simp only [Bool.or_eq_true, decide_eq_true_eq]
      constructor
      · rintro (q | q)
        · exact .inl q
        · exact .inr ⟨q.2 ▸ c.1, q.2⟩
      · rintro (q | q)
        · exact .inl q
        · exact .inr ⟨hv, q.2⟩
    · show hasB (withB mt.2 t) u = true ↔ _
      rw [hasB_withB]
      simp only [Bool.or_eq_true, decide_eq_true_eq]
      constructor
      · rintro (q | q)
        · exact .inl q
        · exact .inr ⟨⟨q.2 ▸ c.1, q.2⟩, q.2 ▸ c.2⟩
      · rintro (q | q)
        · exact .inl q
        · exact .inr ⟨hv, q.1.2⟩
    · show 2 * (64 - card (withB mt.1 t)) + card (withB mt.2 t) ≤ _
      have := card_le (withB mt.1 t)
      rw [card_with _ _ hv c.2] at *
      rw [card_with _ _ hv h2]
      omega
  · rw [if_neg c]
    have c' : hasB dead t = true → hasB mt.1 t = true := by
      intro q; cases r : hasB mt.1 t
      · exact absurd (by simp [q, r]) c
      · rfl
    refine ⟨h.1, h.2.1, fun u => ⟨.inl, ?_⟩, fun u => ⟨.inl, ?_⟩, Nat.le_refl _⟩
    · rintro (q | ⟨q1, rfl⟩)
      · exact q
      · exact c' q1
    · rintro (q | ⟨⟨q1, rfl⟩, q2⟩)
      · exact q
      · rw [c' q1] at q2; cases q2
theorem shF_grown (dead : Nat) : ∀ (l : List NShare) (mt : Nat × Nat), Sub2 mt → Grown (shTo dead l) mt (shF dead mt l)
  | [], mt, h => (Grown.refl h).congr (fun u => by unfold shTo; simp)
  | s :: r, mt, h => by
    rw [shF_cons]
    have g := one_grown dead mt h s.f0
    refine (g.trans (shF_grown dead r _ (g.sub h))).congr (fun u => ?_)
    unfold shTo
    constructor
    · rintro (⟨a, b⟩ | ⟨a, x, hx, e⟩)
      · exact ⟨a, s, by simp, b.symm⟩
      · exact ⟨a, x, by simp [hx], e⟩
    · rintro ⟨a, x, hx, e⟩
      rcases List.mem_cons.1 hx with rfl | hx
      · exact .inl ⟨a, e.symm⟩
      · exact .inr ⟨a, x, hx, e⟩
theorem wyF_grown (dead : Nat) : ∀ (l : List (List NTerm)) (mt : Nat × Nat), Sub2 mt → Grown (goesTo dead l) mt (wyF dead mt l)
  | [], mt, h => (Grown.refl h).congr (fun u => by unfold goesTo; simp)
  | w :: r, mt, h => by
    rw [wyF_cons]
    have g := shF_grown dead (lackOf dead w) mt h
    refine (g.trans (wyF_grown dead r _ (g.sub h))).congr (fun u => ?_)
    unfold goesTo
    simp
def Closed (dead : Nat) (d : List Int) (n : List NNode) (S : Nat) : Prop := ∀ i, i < d.length → hasB S (d.getD i 0) = true → ∀ v, goesTo dead (n.getD i z92).f1 v → hasB S v = true
def CoreOK (dead : Nat) (d : List Int) (n : List NNode) (t : Int) (met : Nat) : Prop :=
  met < B64 ∧ hasB met t = true ∧ (∀ u, hasB met u = true → hasB dead u = true) ∧ Closed dead d n met ∧ ∀ S, Closed dead d n S → hasB S t = true → ∀ u, hasB met u = true → hasB S u = true
theorem CoreOK.unique {dead : Nat} {d : List Int} {n : List NNode} {t : Int} {a b : Nat} (h : CoreOK dead d n t a) (k : CoreOK dead d n t b) : a = b :=
  setExt a b h.1 k.1 (fun u => by rw [Bool.eq_iff_iff]; exact ⟨h.2.2.2.2 b k.2.2.2.1 k.2.1 u, k.2.2.2.2 a h.2.2.2.1 h.2.1 u⟩)
def CInv (dead : Nat) (d : List Int) (n : List NNode) (t : Int) (mt : Nat × Nat) : Prop :=
  Sub2 mt ∧ hasB mt.1 t = true ∧ (∀ u, hasB mt.1 u = true → hasB dead u = true) ∧
    (∀ i, i < d.length → hasB mt.1 (d.getD i 0) = true → hasB mt.2 (d.getD i 0) = false → ∀ v, goesTo dead (n.getD i z92).f1 v → hasB mt.1 v = true) ∧
    ∀ S, Closed dead d n S → hasB S t = true → ∀ u, hasB mt.1 u = true → hasB S u = true
theorem CInv.done {dead : Nat} {d : List Int} {n : List NNode} {t : Int} {met : Nat} (h : CInv dead d n t (met, 0)) : CoreOK dead d n t met :=
  ⟨h.1.1, h.2.1, h.2.2.1, fun i hi hu v hv => h.2.2.2.1 i hi hu (by unfold hasB; simp) v hv, h.2.2.2.2⟩
theorem CInv.start {dead : Nat} {d : List Int} {n : List NNode} {t : Int} (h : hasB dead t = true) : CInv dead d n t (bit1 t, bit1 t) := by
  have hu : ∀ u, hasB (bit1 t) u = true ↔ u = t := fun u => by
    rw [hasB_bit']; simp only [decide_eq_true_eq]
    exact ⟨fun q => q.2.symm, fun q => ⟨q ▸ hasB_vt h, q.symm⟩⟩
  refine ⟨⟨bit1_lt t, bit1_lt t, fun u q => q⟩, (hu t).2 rfl, fun u q => by rw [(hu u).1 q]; exact h, ?_, ?_⟩
  · intro i hi h1 h2 v hv
    simp only at h1 h2
    rw [h1] at h2; cases h2
  · intro S hS ht u q
    rw [(hu u).1 q]; exact ht
theorem CInv.step {dead : Nat} {d : List Int} {n : List NNode} {t : Int} {met todo : Nat} (hp : d.Pairwise (· < ·)) (h : CInv dead d n t (met, todo)) (h0 : todo ≠ 0) (i : Nat) (hi : i < d.length) (he : d.getD i 0 = firstB todo) :
    CInv dead d n t (wyF dead (met, woutB todo (firstB todo)) (n.getD i z92).f1) ∧
      2 * (64 - card (wyF dead (met, woutB todo (firstB todo)) (n.getD i z92).f1).1) + card (wyF dead (met, woutB todo (firstB todo)) (n.getD i z92).f1).2 < 2 * (64 - card met) + card todo := by
  obtain ⟨⟨s1, s2, s3⟩, h1, h2, h3, h4⟩ := h
  simp only at s1 s2 s3 h1 h2 h3 h4
  have hf := firstB_has todo h0 s2
  have hw := hasB_woutB todo s2 (firstB todo)
  have hs : Sub2 (met, woutB todo (firstB todo)) := ⟨s1, woutB_lt' _ s2 _, fun u q => s3 u (by simp only at q; rw [hw] at q; simp at q; exact q.1)⟩
  have g := wyF_grown dead (n.getD i z92).f1 _ hs
  have hc := card_wout todo s2 _ hf
  refine ⟨⟨g.sub hs, (g.2.2.1 t).2 (.inl h1), fun u q => ?_, fun j hj q1 q2 v hv => ?_, fun S hS ht u q => ?_⟩, Nat.lt_of_le_of_lt g.2.2.2.2 (by show 2 * (64 - card met) + card (woutB todo (firstB todo)) < _; omega)⟩
  · rcases (g.2.2.1 u).1 q with q | ⟨w, _, q, _⟩
    · exact h2 u q
    · exact q
  · by_cases hji : d.getD j 0 = firstB todo
    · have : j = i := by
        rcases Nat.lt_trichotomy j i with r | r | r
        · have := pair_lt hp j i r hi; omega
        · exact r
        · have := pair_lt hp i j r hj; omega
      subst this
      exact (g.2.2.1 v).2 (.inr hv)
    · rcases (g.2.2.1 _).1 q1 with r | r
      · refine (g.2.2.1 v).2 (.inl (h3 j hj r ?_ v hv))
        cases q : hasB todo (d.getD j 0)
        · rfl
        · exfalso
          have : hasB (woutB todo (firstB todo)) (d.getD j 0) = true := by rw [hw, q, decide_eq_true hji]; rfl
          rw [(g.2.2.2.1 _).2 (.inl this)] at q2; cases q2
      · cases q : hasB met (d.getD j 0)
        · rw [(g.2.2.2.1 _).2 (.inr ⟨r, q⟩)] at q2; cases q2
        · refine (g.2.2.1 v).2 (.inl (h3 j hj q ?_ v hv))
          cases q' : hasB todo (d.getD j 0)
          · rfl
          · exfalso
            have : hasB (woutB todo (firstB todo)) (d.getD j 0) = true := by rw [hw, q', decide_eq_true hji]; rfl
            rw [(g.2.2.2.1 _).2 (.inl this)] at q2; cases q2
  · rcases (g.2.2.1 u).1 q with r | r
    · exact h4 S hS ht u r
    · refine hS i hi ?_ u r
      rw [he]
      exact h4 S hS ht _ (s3 _ hf)
end Go.Proofs.YtadepdeckapgcaaDoor
end

section
namespace Go.Proofs.YtadepdeckapgcaaDoor
open Go.RowKit Go.Proofs.YtadepdeckapgcaaDoorW.PrintWords Go.Proofs.YtadepdeckapgcaaDoorW.PrintLast Go.Proofs.YtadepdeckapgcaaDoorW.PrintMore PWitnessTells
set_option linter.unusedSimpArgs false
set_option linter.unusedVariables false
theorem wOfOne (w : World) (t : Int) (bb : Nat) (h : w.cell? ⟨bb, 0, none⟩ = some (.int .i64 t)) : Calls Tryd.prog 57 #[.slice (some ⟨bb, 0, none⟩) 1 1] w fun e w' => e = .returned (.int .u64 (bit1 t : Nat)) ∧ w = w' := by
  have hb := bit1_lt t
  have E : Hid (bits .or .u64 0 ((bit1 t : Nat) : Int) = (bit1 t : Nat)) := by
    unfold Hid
    have := u64_or_nat 0 _ (by decide) hb
    simpa using this
  go_enter Tryd.func57, Tryd.ntmps57
  go_wp2
  refine wp_loop_rounds 2 ?_; rw [rounds_succ]
  go_wp2_with (go_at_call 104; refine (wOne _ _).mono ?_; rintro e w' ⟨rfl, rfl⟩)
  rw [rounds_succ]
  go_wp2
  go_ret
  exact ⟨ret_int E.out, rfl⟩
theorem bs_at (l : List Int) (hl : l.length ≤ MX) (t : Int) : ∃ i b, BsOK l t (i, b) ∧ ∀ (w : World) (A : Option Addr) (c : Nat), Kd.C (Kd.int .i64) w A l.length l → l.length ≤ c →
    Calls Tryd.prog 55 #[.slice A l.length c, .int .i64 t] w fun e w' => e = .returned (.tuple #[.int .i64 i, .bool b]) ∧ ∃ n, w' = w.drewN n := by
  obtain ⟨⟨i, b⟩, h1, h2⟩ := ev_bs_l0 l hl t l.length 0 l.length (by omega) (by omega) (by omega) (fun _ => ⟨fun i hi => by omega, fun i h1 h2 => by omega⟩)
  obtain ⟨k, hk⟩ := h1.rounds
  exact ⟨i, b, h2, fun w A c hC hc => (slices_BinarySearch_int_int.calls k A c l t i b w hC hc hk).mono fun e w' ⟨he, hd⟩ => ⟨he, hd.out⟩⟩
theorem q_same {P : Program} {f : FuncId} {args : Array Value} {w : World} {n : Nat} {v : Value} (h : Calls P f args (w.drewN n) fun e w' => e = .returned v ∧ w.drewN n = w') : Calls P f args (w.drewN n) fun e w'' => e = .returned v ∧ ∃ m, w'' = w.drewN m :=
  h.mono fun _ _ ⟨he, hm⟩ => ⟨he, n, hm.symm⟩
def CoreRes (time : Int) (d : List Int) (n : List NNode) (t : Int) (l : List Int) : Prop :=
  (soundR time d n = true → hasB (ofL 0 d) t = true → ∃ met, CoreOK (ofL 0 d) d n t met ∧ l = listB met) ∧ ((soundR time d n && hasB (ofL 0 d) t) = false → l = [])
def CoRel (w : World) (dead : Nat) (d : List Int) (n : List NNode) (t : Int) (s6 s7 : Value) (wr : World) : Prop := ∃ met todo : Nat, s6 = .int .u64 met ∧ s7 = .int .u64 todo ∧ CInv dead d n t (met, todo) ∧ Quiet w wr
def WyRel (w : World) (dead : Nat) (ws : List (List NTerm)) (fin : Nat × Nat) (s6 s7 i : Value) (wr : World) : Prop := ∃ (k : Nat) (mt : Nat × Nat), k ≤ ws.length ∧ i = .int .i64 k ∧ s6 = .int .u64 mt.1 ∧ s7 = .int .u64 mt.2 ∧ Sub2 mt ∧ wyF dead mt (ws.drop k) = fin ∧ Quiet w wr
def ShRel (w : World) (dead : Nat) (l : List NShare) (fin : Nat × Nat) (s6 s7 i : Value) (wr : World) : Prop := ∃ (k : Nat) (mt : Nat × Nat), k ≤ l.length ∧ i = .int .i64 k ∧ s6 = .int .u64 mt.1 ∧ s7 = .int .u64 mt.2 ∧ Sub2 mt ∧ shF dead mt (l.drop k) = fin ∧ Quiet w wr
theorem sound_way {dead : Nat} {n : List NNode} (h : nodesOk dead n = true) (x : NNode) (hx : x ∈ n) (w : List NTerm) (hw : w ∈ x.f1) : ∃ j : Nat, lacksL dead 0 w = (j : Int) ∧ j < w.length := by
  unfold nodesOk at h
  have h1 := List.all_eq_true.1 (List.all_eq_true.1 h x hx) w hw
  unfold wayOk at h1
  simp only [decide_eq_true_eq] at h1
  rcases lacksL_range dead w 0 with q | ⟨j, q1, q2⟩
  · omega
  · exact ⟨j, by rw [q1]; omega, q2⟩
theorem one_sub {dead : Nat} {mt : Nat × Nat} (h : Sub2 mt) (t : Int) : Sub2 (if hasB dead t && !hasB mt.1 t then (withB mt.1 t, withB mt.2 t) else mt) := (one_grown dead mt h t).sub h
set_option maxRecDepth 100000 in
set_option maxHeartbeats 4000000 in
theorem wCore (w : World) (hT : Tb w) (time : Int) (A1 : Option Addr) (c1 : Nat) (d : List Int) (A2 : Option Addr) (c2 : Nat) (n : List NNode) (h1 : Kd.C (Kd.int .i64) w A1 d.length d) (h2 : d.length ≤ c1) (h3 : Kd.C k92 w A2 n.length n) (h4 : n.length ≤ c2) (t : Int) :
    Calls Tryd.prog 22 #[.agg #[.int .i64 time, .slice A1 d.length c1, .slice A2 n.length c2], .int .i64 t] w fun e w' => ∃ (l : List Int) (v : Value), CoreRes time d n t l ∧ e = .returned v ∧ w'.ownsRow w.heap.size 3 1 v l.length (nums .i64 l) ∧ Below w.heap.size w w' := by
  have hbx : ∀ o, Quiet w (w.alloc o) := fun o => by (repeat (first | exact Fr.refl _ _ | assumption | (refine Fr.quiet ?_ (by assumption)) | refine Fr.quiet ?_ HF.out | refine Fr.quiet ?_ HF2.out | refine Fr.drew ?_ | refine Fr.drewN ?_ _ | refine Fr.alloc ?_ _ | refine Fr.setCell ?_ (.inr (by first | omega | (simp; done) | (simp; omega))) _))
  have SD := Lib.hid (fun wz (q : Quiet w wz) => wSound wz time A1 c1 d A2 c2 n (Kd.C_below h1 q.bel) h2 (Kd.C_below h3 q.bel) h4)
  have OF := Lib.hid (fun wz (q : Quiet w wz) => wOf wz A1 c1 d (Kd.C_below h1 q.bel) h2)
  have hdl := ofL_lt d 0 (by decide)
  have hB : Hid (∀ wz, Quiet (w.alloc (.cells #[.int .i64 time, .slice A1 d.length c1, .slice A2 n.length c2] 25)) wz → wz.cell? ⟨w.heap.size, 0, none⟩ = some (.int .i64 time) ∧ wz.cell? ⟨w.heap.size, 1, none⟩ = some (.slice A1 d.length c1) ∧ wz.cell? ⟨w.heap.size, 2, none⟩ = some (.slice A2 n.length c2)) := by
    intro wz q
    exact ⟨q.cell (by simp) (fun x => x), q.cell (by simp) (fun x => x), q.cell (by simp) (fun x => x)⟩
  have HD := Lib.hid h1
  have HN := Lib.hid h3
  have HT := Lib.hid hT
  have hm3 := h3.2.1
  have hml := (C_len h1).2
  clear h1 h3 hT
  by_cases c0 : (soundR time d n && hasB (ofL 0 d) t) = true
  · have hs : soundR time d n = true := by simp only [Bool.and_eq_true] at c0; exact c0.1
    have hd : hasB (ofL 0 d) t = true := by simp only [Bool.and_eq_true] at c0; exact c0.2
    have hRes : Hid (∀ met, CoreOK (ofL 0 d) d n t met → CoreRes time d n t (listB met)) := fun met hm => ⟨fun _ _ => ⟨met, hm, rfl⟩, fun q => by rw [c0] at q; cases q⟩
    have hck : chkR time d n = 0 := by unfold soundR at hs; simp only [Bool.and_eq_true, decide_eq_true_eq] at hs; exact hs.1
    have hok : nodesOk (ofL 0 d) n = true := by unfold soundR at hs; simp only [Bool.and_eq_true] at hs; exact hs.2
    obtain ⟨hlen, hdc, _⟩ := chkR_zero _ _ _ hck
    have HOk := Lib.hid (fun x hx w hw => sound_way hok x hx w hw)
    have hst := CInv.start (n := n) (d := d) hd
    have hofm : ∀ u, hasB (ofL 0 d) u = true → u ∈ d := fun u hu => by rw [hasB_ofL] at hu; unfold hasB at hu; simp at hu; exact hu.2
    rw [hs] at SD
    generalize ofL 0 d = dead at *
    have HSt := Lib.hid hst; have HDC := Lib.hid hdc; have HLen := Lib.hid hlen; have HOf := Lib.hid hofm
    clear c0 hs hck hok hst hdc hlen hofm
    go_enter Tryd.func22, Tryd.ntmps22
    go_wp2_with (go_at_call 57; refine (OF.out _ (hbx _)).mono ?_; rintro e w' ⟨rfl, rfl⟩)
    refine (SD.out _ (hbx _)).mono ?_
    rintro e w1 ⟨rfl, hq1⟩
    have HQ1 : Hid (Quiet w w1) := (hbx _).quiet hq1
    obtain ⟨x0, x1, x2⟩ := hB.out w1 hq1
    have hs1 := HQ1.out.size
    clear hq1
    go_wp2_with (first
      | (go_at_call 62; refine (wHas _ _ hdl _).mono ?_; rintro e w' ⟨rfl, rfl⟩)
      | (go_at_call 57; refine (wOfOne _ t _ (by go_simp)).mono ?_; rintro e w' ⟨rfl, rfl⟩))
    go_loopw [6, 7] (fun s6 s7 wr => CoRel w1 dead d n t s6 s7 wr) (fun s6 s7 _ => 2 * (64 - card (intOf s6).toNat) + card (intOf s7).toNat)
    case atStart => exact ⟨_, _, rfl, rfl, HSt.out, by (repeat (first | exact Fr.refl _ _ | assumption | (refine Fr.quiet ?_ (by assumption)) | refine Fr.quiet ?_ HF.out | refine Fr.quiet ?_ HF2.out | refine Fr.drew ?_ | refine Fr.drewN ?_ _ | refine Fr.alloc ?_ _ | refine Fr.setCell ?_ (.inr (by first | omega | (simp; done) | (simp; omega))) _))⟩
    case round =>
      obtain ⟨met, todo, rfl, rfl, hinv, hQ⟩ := hrel
      obtain ⟨wo, hwo⟩ : ∃ x, x = wr := ⟨_, rfl⟩
      subst hwo
      have hQw : Quiet w wo := HQ1.out.quiet hQ
      have hTo : Tb wo := HT.out.quiet hQw
      have hmt := hinv.1.1
      have htd := hinv.1.2.1
      simp only at hmt htd
      by_cases h0 : todo = 0
      · subst h0
        have hR := hRes.out met hinv.done
        have LS := Lib.hid (wList wo met hmt hTo)
        have HQw := Lib.hid hQw
        clear hinv hQ hQw hTo
        generalize listB met = lm at *
        have HR := Lib.hid hR
        clear hR
        go_wp2_with (go_at_call 66; refine LS.out.mono ?_; rintro e w' ⟨v, rfl, hown, hbel⟩; have HO := Lib.hid hown; have HBl := Lib.hid hbel; clear hown hbel)
        go_ret
        exact ⟨lm, v, HR.out, rfl, own_weaken HO.out HQw.out.size, Fr.below (HQw.out.quiet (Quiet.of HBl.out)) (fun _ _ x => x)⟩
      · have hfh := firstB_has todo h0 htd
        have hfd := HOf.out _ (hinv.2.2.1 _ (hinv.1.2.2 _ hfh))
        obtain ⟨bi, bb, hbo, BSc⟩ := bs_at d hml (firstB todo)
        have hbt : bb = true := by
          cases bb
          · exact absurd hfd (hbo.2 HDC.out rfl)
          · rfl
        subst hbt
        obtain ⟨j, ej, hj, hje⟩ := hbo.1 rfl
        simp only at ej
        subst ej
        obtain ⟨hstep, hmeas⟩ := CInv.step (deadC_pairwise d (-1) HDC.out).2 hinv h0 j hj hje
        have hwo := woutB_lt' todo htd (firstB todo)
        have hsub : Sub2 (met, woutB todo (firstB todo)) := ⟨hmt, hwo, fun u q => hinv.1.2.2 u (by rw [hasB_woutB todo htd] at q; simp at q; exact q.1)⟩
        have h0' : ((todo : Int) != 0) = true := by simp; omega
        have hjn : j < n.length := by rw [← HLen.out]; exact hj
        have FI := Lib.hid (fun wz hz => wFirst wz todo htd hz)
        have BSq := Lib.hid (fun wz (q : Quiet w wz) => BSc wz A1 c1 (Kd.C_below HD.out q.bel) h2)
        have WO := Lib.hid (fun wz => wWithout wz todo htd (firstB todo))
        obtain ⟨bd, B1, d1, eB, y0, y1, l2, g2⟩ := at_T92 (Kd.C_below HN.out hQw.bel) j (by omega) (by omega)
        have r2 : rd_T92 n (j : Int) = n.getD j z92 := rfl
        rw [r2] at y0 y1 l2 g2
        have HOx := Lib.hid (HOk.out _ (getD_mem z92 n j hjn))
        generalize n.getD j z92 = x at *
        simp only [Int.toNat_natCast] at y0 y1
        have x1' := hQ.cell x1 (fun x => x)
        have x2' := hQ.cell x2 (fun x => x)
        subst eB
        have hj0 : (0 : Int) ≤ (j : Int) := by omega
        have hj1 : (j : Int) < (n.length : Int) := by omega
        have hm2 := g2.2.1
        have HStep := Lib.hid hstep; have HMeas := Lib.hid hmeas; have HSub := Lib.hid hsub; have HG := Lib.hid g2
        have HQ := Lib.hid hQ; have HQw := Lib.hid hQw; have HTo := Lib.hid hTo
        have HM0 : Hid (2 * (64 - card (intOf (.int .u64 met)).toNat) + card (intOf (.int .u64 todo)).toNat = 2 * (64 - card met) + card todo) := Lib.hid (by simp [intOf])
        clear hstep hmeas hsub g2 hQ hQw hTo r2 hfh hfd hbo BSc hje hinv x0 x1 x2 h0 y0 hwo
        generalize hfu : firstB todo = u at *
        generalize hto : woutB todo u = todo2 at *
        generalize hfin : wyF dead (met, todo2) x.f1 = fin at *
        have HFin := Lib.hid hfin
        clear hfin hfu hto
        go_wp2_with fail
        go_quiet ((first
          | (go_at_call 63; exact q_same (FI.out _ (HTo.out.quiet ((Fr.refl _ _).drewN _))))
          | (go_at_call 55; exact Calls.quiet_of (BSq.out _ (HQw.out.drewN _)))))
        have HQn : Hid (Quiet w1 (wo.drewN nq)) := HQ.out.drewN nq
        have HQwn : Hid (Quiet w (wo.drewN nq)) := HQw.out.drewN nq
        have HTn : Hid (Tb (wo.drewN nq)) := HTo.out.quiet ((Fr.refl _ _).drewN _)
        have HGn := Lib.hid (Kd.C_below HG.out (Quiet.bel ((Fr.refl _ _).drewN nq)))
        go_wp2_with (first
          | (go_at_call 63; refine (FI.out _ HTn.out).mono ?_; rintro e w' ⟨rfl, rfl⟩)
          | (go_at_call 64; refine (WO.out _).mono ?_; rintro e w' ⟨rfl, rfl⟩))
        go_loopw [6, 7, 53] (fun s6 s7 i wr => WyRel (wo.drewN nq) dead x.f1 fin s6 s7 i wr) (fun _ _ i _ => x.f1.length - (intOf i).toNat)
        case atStart => exact ⟨0, (met, todo2), Nat.zero_le _, rfl, rfl, rfl, HSub.out, HFin.out, Fr.refl _ _⟩
        case round =>
          obtain ⟨k, mt, hk, rfl, rfl, rfl, hsub, hwy, hQ2⟩ := hrel
          obtain ⟨wq, hwq⟩ : ∃ x, x = wr := ⟨_, rfl⟩
          subst hwq
          by_cases hlt : k < x.f1.length
          · obtain ⟨ad4, A4, c4, hA4, z0, hl4, hC5⟩ := at_L5 (Kd.C_below HGn.out hQ2.bel) k (by omega) (by omega)
            have hdr := drop_cons [] x.f1 k hlt
            have hrd : rd_L5 x.f1 (k : Int) = x.f1.getD k [] := rfl
            rw [hrd] at z0 hl4 hC5
            rw [hdr, wyF_cons] at hwy
            obtain ⟨jj, hjj, hjl⟩ := HOx.out _ (getD_mem [] x.f1 k hlt)
            simp only [Int.toNat_natCast] at z0
            generalize x.f1.getD k [] = way at *
            subst hA4
            obtain ⟨ae, A5, c5, hA5, u0, u1, hl5, hC6⟩ := at_T96 hC5 jj (by omega) (by omega)
            have hrt : rd_T96 way (jj : Int) = way.getD jj z96 := rfl
            have hlo : (way.getD jj z96).f1 = lackOf dead way := by unfold lackOf; rw [hjj]; rfl
            rw [hrt, hlo] at u1 hl5 hC6
            simp only [Int.toNat_natCast] at u1
            have LK := Lib.hid (wLacks wq way A4 c4 hC5 hl4 dead hdl)
            rw [hjj] at LK
            have hm6 := hC6.2.1
            have HWy := Lib.hid hwy; have HSub2 := Lib.hid hsub; have HQ2 := Lib.hid hQ2; have HC6 := Lib.hid hC6
            have hjj0 : (0 : Int) ≤ (jj : Int) := by omega
            have hjj1 : (jj : Int) < (way.length : Int) := by omega
            subst hA5
            clear hwy hsub hQ2 hC5 hC6 hdr hrd hjj hrt hlo u0
            generalize hfr : lackOf dead way = from_ at *
            clear hfr
            go_wp2_with fail
            refine LK.out.mono ?_
            rintro e w3 ⟨rfl, hq3⟩
            have u1' := hq3.cellA u1
            have HQ3 : Hid (Quiet (wo.drewN nq) w3) := HQ2.out.quiet hq3
            have HC7 := Lib.hid (Kd.C_below HC6.out hq3.bel)
            clear hq3 u1
            go_wp2_with fail
            go_loopw [6, 7, 65] (fun s6 s7 i wr => ShRel w3 dead from_ (shF dead mt from_) s6 s7 i wr) (fun _ _ i _ => from_.length - (intOf i).toNat)
            case atStart => exact ⟨0, mt, Nat.zero_le _, rfl, rfl, rfl, HSub2.out, rfl, Fr.refl _ _⟩
            case round =>
              obtain ⟨q, mt2, hq, rfl, rfl, rfl, hsub3, hsh, hQ4⟩ := hrel
              by_cases hlq : q < from_.length
              · obtain ⟨af, hAf, v0, v1⟩ := at_T108 (Kd.C_below HC7.out hQ4.bel) q (by omega) (by omega)
                have hdr := drop_cons z108 from_ q hlq
                have hrd : rd_T108 from_ (q : Int) = from_.getD q z108 := rfl
                rw [hrd] at v0 v1
                rw [hdr, shF_cons] at hsh
                generalize from_.getD q z108 = s at *
                obtain ⟨st, sn⟩ := s
                simp only [Int.toNat_natCast] at v0 v1 hsh
                subst hAf
                have hb1 := hsub3.1
                have hb2 := hsub3.2.1
                have hsub4 := one_sub (dead := dead) hsub3 st
                have HQ4 := Lib.hid hQ4
                have HSub3 := Lib.hid hsub3
                clear hdr hrd hQ4 hsub3
                cases hb : hasB dead st
                · rw [hb] at hsh
                  have HSh : Hid (shF dead mt2 (from_.drop (q + 1)) = shF dead mt from_) := Lib.hid (by simpa using hsh)
                  clear hsh hsub4
                  go_wp2_with (go_at_call 62; refine (wHas _ _ (by assumption) _).mono ?_; rintro e w' ⟨rfl, rfl⟩)
                  go_roundw
                  case rel => exact ⟨q + 1, mt2, by omega, by go_num, rfl, rfl, HSub3.out, HSh.out, by have q := HQ4.out; (repeat (first | exact Fr.refl _ _ | assumption | (refine Fr.quiet ?_ (by assumption)) | refine Fr.quiet ?_ HF.out | refine Fr.quiet ?_ HF2.out | refine Fr.drew ?_ | refine Fr.drewN ?_ _ | refine Fr.alloc ?_ _ | refine Fr.setCell ?_ (.inr (by first | omega | (simp; done) | (simp; omega))) _))⟩
                  case measure => simp [intOf]; omega
                · cases hb' : hasB mt2.1 st
                  · rw [hb, hb'] at hsh hsub4
                    have HSh : Hid (shF dead (withB mt2.1 st, withB mt2.2 st) (from_.drop (q + 1)) = shF dead mt from_) := Lib.hid (by simpa using hsh)
                    have HSub4 : Hid (Sub2 (withB mt2.1 st, withB mt2.2 st)) := Lib.hid (by simpa using hsub4)
                    clear hsh hsub4
                    go_wp2_with (go_at_call 62; refine (wHas _ _ (by assumption) _).mono ?_; rintro e w' ⟨rfl, rfl⟩)
                    go_quiet (((go_at_call 65; exact q_same (wWith _ _ (by assumption) _))))
                    go_wp2
                    go_roundw
                    case rel => exact ⟨q + 1, (withB mt2.1 st, withB mt2.2 st), by omega, by go_num, rfl, rfl, HSub4.out, HSh.out, by have q := HQ4.out; (repeat (first | exact Fr.refl _ _ | assumption | (refine Fr.quiet ?_ (by assumption)) | refine Fr.quiet ?_ HF.out | refine Fr.quiet ?_ HF2.out | refine Fr.drew ?_ | refine Fr.drewN ?_ _ | refine Fr.alloc ?_ _ | refine Fr.setCell ?_ (.inr (by first | omega | (simp; done) | (simp; omega))) _))⟩
                    case measure => simp [intOf]; omega
                  · rw [hb, hb'] at hsh
                    have HSh : Hid (shF dead mt2 (from_.drop (q + 1)) = shF dead mt from_) := Lib.hid (by simpa using hsh)
                    clear hsh hsub4
                    go_wp2_with (go_at_call 62; refine (wHas _ _ (by assumption) _).mono ?_; rintro e w' ⟨rfl, rfl⟩)
                    go_roundw
                    case rel => exact ⟨q + 1, mt2, by omega, by go_num, rfl, rfl, HSub3.out, HSh.out, by have q := HQ4.out; (repeat (first | exact Fr.refl _ _ | assumption | (refine Fr.quiet ?_ (by assumption)) | refine Fr.quiet ?_ HF.out | refine Fr.quiet ?_ HF2.out | refine Fr.drew ?_ | refine Fr.drewN ?_ _ | refine Fr.alloc ?_ _ | refine Fr.setCell ?_ (.inr (by first | omega | (simp; done) | (simp; omega))) _))⟩
                    case measure => simp [intOf]; omega
              · have hx2 : mt2 = shF dead mt from_ := by rw [← hsh, List.drop_of_length_le (by omega)]; rfl
                have HE := Lib.hid hx2
                have HQ4 := Lib.hid hQ4
                have HSub3 := Lib.hid hsub3
                clear hx2 hsh hQ4 hsub3
                go_wp2
                go_roundw
                case rel => exact ⟨k + 1, mt2, by omega, by go_num, rfl, rfl, HSub3.out, by rw [HE.out]; exact HWy.out, HQ3.out.quiet HQ4.out⟩
                case measure => simp [intOf]; omega
          · have hx2 : mt = fin := by rw [← hwy, List.drop_of_length_le (by omega)]; rfl
            have HE := Lib.hid hx2
            have HQ2 := Lib.hid hQ2
            clear hx2 hwy hQ2 hsub
            go_wp2
            go_roundw
            case rel => exact ⟨mt.1, mt.2, rfl, rfl, by rw [HE.out]; exact HStep.out, HQn.out.quiet HQ2.out⟩
            case measure => rw [HM0.out, HE.out]; have := HMeas.out; simpa [intOf] using this
  · have hRes : CoreRes time d n t [] := ⟨fun q1 q2 => absurd (by rw [q1, q2]; rfl) c0, fun _ => rfl⟩
    have c1' : (soundR time d n && hasB (ofL 0 d) t) = false := by simpa using c0
    have HRes := Lib.hid hRes
    clear hRes c0
    generalize ofL 0 d = dead at *
    cases hs : soundR time d n
    · rw [hs] at SD
      clear c1' hs
      go_enter Tryd.func22, Tryd.ntmps22
      go_wp2_with (go_at_call 57; refine (OF.out _ (hbx _)).mono ?_; rintro e w' ⟨rfl, rfl⟩)
      refine (SD.out _ (hbx _)).mono ?_
      rintro e w1 ⟨rfl, hq1⟩
      have HQ1 : Hid (Quiet w w1) := (hbx _).quiet hq1
      clear hq1
      go_wp2
      go_ret
      exact ⟨[], _, HRes.out, rfl, own_nil _ _ _ _, Fr.below HQ1.out (fun _ _ x => x)⟩
    · rw [hs] at SD c1'
      have hd : hasB dead t = false := by simpa using c1'
      clear c1' hs
      go_enter Tryd.func22, Tryd.ntmps22
      go_wp2_with (go_at_call 57; refine (OF.out _ (hbx _)).mono ?_; rintro e w' ⟨rfl, rfl⟩)
      refine (SD.out _ (hbx _)).mono ?_
      rintro e w1 ⟨rfl, hq1⟩
      have HQ1 : Hid (Quiet w w1) := (hbx _).quiet hq1
      clear hq1
      go_wp2_with (go_at_call 62; refine (wHas _ _ hdl _).mono ?_; rintro e w' ⟨rfl, rfl⟩)
      go_ret
      exact ⟨[], _, HRes.out, rfl, own_nil _ _ _ _, Fr.below HQ1.out (fun _ _ x => x)⟩
end Go.Proofs.YtadepdeckapgcaaDoor
end

section
namespace Go.Proofs.YtadepdeckapgcaaDoor
open Go.RowKit Go.Proofs.YtadepdeckapgcaaDoorW.PrintWords Go.Proofs.YtadepdeckapgcaaDoorW.PrintLast Go.Proofs.YtadepdeckapgcaaDoorW.PrintMore PWitnessTells
set_option linter.unusedSimpArgs false
set_option linter.unusedVariables false
def sF (dead : Nat) : Nat → List NShare → Nat
  | S, [] => S
  | S, s :: r => sF dead (if hasB dead s.f0 then withB S s.f0 else S) r
theorem sF_cons (dead S : Nat) (s : NShare) (r : List NShare) : sF dead S (s :: r) = sF dead (if hasB dead s.f0 then withB S s.f0 else S) r := rfl
def nF (dead : Nat) : Nat → List (List NTerm) → Nat
  | S, [] => S
  | S, w :: r => nF dead (sF dead S (lackOf dead w)) r
theorem nF_cons (dead S : Nat) (w : List NTerm) (r : List (List NTerm)) : nF dead S (w :: r) = nF dead (sF dead S (lackOf dead w)) r := rfl
def rF (dead : Nat) : Nat → List Int → List NNode → Nat
  | S, t :: d, x :: n => rF dead (if hasB S t then nF dead S x.f1 else S) d n
  | S, _, _ => S
theorem rF_cons (dead S : Nat) (t : Int) (d : List Int) (x : NNode) (n : List NNode) : rF dead S (t :: d) (x :: n) = rF dead (if hasB S t then nF dead S x.f1 else S) d n := rfl
def kF (dead : Nat) (d : List Int) (n : List NNode) : Nat → Nat → Nat
  | 0, S => S
  | r + 1, S => kF dead d n r (rF dead S d n)
theorem kF_succ (dead : Nat) (d : List Int) (n : List NNode) (r S : Nat) : kF dead d n (r + 1) S = kF dead d n r (rF dead S d n) := rfl
theorem ite_lt' {c : Prop} [Decidable c] {a b B : Nat} (ha : a < B) (hb : b < B) : (if c then a else b) < B := by split <;> assumption
theorem sF_lt (dead : Nat) : ∀ (l : List NShare) (S : Nat), S < B64 → sF dead S l < B64
  | [], _, h => h
  | s :: r, S, h => by rw [sF_cons]; exact sF_lt dead r _ (ite_lt' (withB_lt' S h _) h)
theorem nF_lt (dead : Nat) : ∀ (l : List (List NTerm)) (S : Nat), S < B64 → nF dead S l < B64
  | [], _, h => h
  | w :: r, S, h => by rw [nF_cons]; exact nF_lt dead r _ (sF_lt dead _ _ h)
theorem rF_lt (dead : Nat) : ∀ (d : List Int) (n : List NNode) (S : Nat), S < B64 → rF dead S d n < B64
  | [], _, _, h => h
  | _ :: _, [], _, h => h
  | t :: d, x :: n, S, h => by rw [rF_cons]; exact rF_lt dead d n _ (ite_lt' (nF_lt dead _ S h) h)
theorem sF_has (dead : Nat) (u : Int) : ∀ (l : List NShare) (S : Nat), hasB (sF dead S l) u = true ↔ hasB S u = true ∨ shTo dead l u
  | [], S => by simp [sF, shTo]
  | s :: r, S => by
    rw [sF_cons, sF_has dead u r]
    unfold shTo
    by_cases q : hasB dead s.f0 = true
    · rw [if_pos q, hasB_withB, Bool.or_eq_true, decide_eq_true_eq]
      constructor
      · rintro ((h | ⟨_, rfl⟩) | ⟨h, y, hy, e⟩)
        · exact .inl h
        · exact .inr ⟨q, s, by simp, rfl⟩
        · exact .inr ⟨h, y, by simp [hy], e⟩
      · rintro (h | ⟨h, y, hy, e⟩)
        · exact .inl (.inl h)
        · rcases List.mem_cons.1 hy with rfl | hy
          · exact .inl (.inr ⟨hasB_vt q, e.symm⟩)
          · exact .inr ⟨h, y, hy, e⟩
    · rw [if_neg q]
      constructor
      · rintro (h | ⟨h, y, hy, e⟩)
        · exact .inl h
        · exact .inr ⟨h, y, by simp [hy], e⟩
      · rintro (h | ⟨h, y, hy, e⟩)
        · exact .inl h
        · rcases List.mem_cons.1 hy with rfl | hy
          · exact absurd (e ▸ h) q
          · exact .inr ⟨h, y, hy, e⟩
theorem nF_has (dead : Nat) (u : Int) : ∀ (l : List (List NTerm)) (S : Nat), hasB (nF dead S l) u = true ↔ hasB S u = true ∨ goesTo dead l u
  | [], S => by simp [nF, goesTo]
  | w :: r, S => by
    rw [nF_cons, nF_has dead u r, sF_has]
    unfold goesTo
    constructor
    · rintro ((h | h) | ⟨y, hy, h⟩)
      · exact .inl h
      · exact .inr ⟨w, by simp, h⟩
      · exact .inr ⟨y, by simp [hy], h⟩
    · rintro (h | ⟨y, hy, h⟩)
      · exact .inl (.inl h)
      · rcases List.mem_cons.1 hy with rfl | hy
        · exact .inl (.inr h)
        · exact .inr ⟨y, hy, h⟩
theorem rF_mono (dead : Nat) (u : Int) : ∀ (d : List Int) (n : List NNode) (S : Nat), hasB S u = true → hasB (rF dead S d n) u = true
  | [], _, _, h => h
  | _ :: _, [], _, h => h
  | t :: d, x :: n, S, h => by
    rw [rF_cons]; apply rF_mono
    by_cases q : hasB S t = true
    · rw [if_pos q, nF_has]; exact .inl h
    · rw [if_neg q]; exact h
def ClosedZ (dead : Nat) (z : List (Int × NNode)) (T : Nat) : Prop := ∀ p ∈ z, hasB T p.1 = true → ∀ v, goesTo dead p.2.f1 v → hasB T v = true
theorem rF_in (dead : Nat) (T : Nat) : ∀ (d : List Int) (n : List NNode) (S : Nat), ClosedZ dead (d.zip n) T → (∀ u, hasB S u = true → hasB T u = true) → ∀ u, hasB (rF dead S d n) u = true → hasB T u = true
  | [], _, _, _, h, u, hu => h u hu
  | _ :: _, [], _, _, h, u, hu => h u hu
  | t :: d, x :: n, S, hc, h, u, hu => by
    rw [rF_cons] at hu
    refine rF_in dead T d n _ (fun p hp => hc p (by simp [hp])) (fun v hv => ?_) u hu
    by_cases q : hasB S t = true
    · rw [if_pos q, nF_has] at hv
      rcases hv with hv | hv
      · exact h v hv
      · exact hc (t, x) (by simp) (h t q) v hv
    · rw [if_neg q] at hv; exact h v hv
theorem rF_fix (dead : Nat) : ∀ (d : List Int) (n : List NNode) (S : Nat), S < B64 → rF dead S d n = S → ClosedZ dead (d.zip n) S
  | [], _, _, _, _ => fun p hp => by simp at hp
  | _ :: _, [], _, _, _ => fun p hp => by simp at hp
  | t :: d, x :: n, S, hS, h => by
    rw [rF_cons] at h
    have hsub : ∀ u, hasB (if hasB S t then nF dead S x.f1 else S) u = true → hasB S u = true := fun u hu => by
      have := rF_mono dead u d n _ hu; rwa [h] at this
    have he : (if hasB S t then nF dead S x.f1 else S) = S := by
      refine setExt _ _ (ite_lt' (nF_lt dead _ S hS) hS) hS (fun u => ?_)
      rw [Bool.eq_iff_iff]
      refine ⟨hsub u, fun hu => ?_⟩
      by_cases q : hasB S t = true
      · rw [if_pos q, nF_has]; exact .inl hu
      · rw [if_neg q]; exact hu
    rw [he] at h
    have ih := rF_fix dead d n S hS h
    intro p hp
    rcases List.mem_cons.1 (by simpa using hp : p ∈ (t, x) :: d.zip n) with rfl | hp
    · intro q v hv
      rw [if_pos q] at he
      have : hasB (nF dead S x.f1) v = true := (nF_has dead v x.f1 S).2 (.inr hv)
      rwa [he] at this
    · exact ih p hp
theorem closed_zip (dead : Nat) (d : List Int) (n : List NNode) (hl : d.length = n.length) (T : Nat) : ClosedZ dead (d.zip n) T ↔ Closed dead d n T := by
  constructor
  · intro h i hi hu v hv
    have hz : i < (d.zip n).length := by simp; omega
    refine h ((d.zip n).getD i (0, z92)) (getD_mem _ _ _ hz) ?_ v ?_
    · rw [zip_getD d n i hi hl]; exact hu
    · rw [zip_getD d n i hi hl]; exact hv
  · intro h p hp hu v hv
    obtain ⟨i, hi, he⟩ := List.getElem_of_mem hp
    have hz : i < d.length := by simp at hi; omega
    have e := zip_getD d n i hz hl
    rw [List.getD_eq_getElem?_getD, List.getElem?_eq_getElem hi, Option.getD_some, he] at e
    rw [e] at hu hv
    exact h i hz hu v hv
theorem card_sub (a b : Nat) (h : ∀ u, hasB a u = true → hasB b u = true) : card a ≤ card b := by
  unfold card
  refine List.countP_mono_left (fun i hi hp => ?_)
  have hi' : i ≤ 63 := by have := List.mem_range.1 hi; omega
  have := h i (by rw [hasB_nat a i hi']; exact hp)
  rwa [hasB_nat b i hi'] at this
theorem card_lt (a b : Nat) (ha : a < B64) (hb : b < B64) (h : ∀ u, hasB a u = true → hasB b u = true) (hne : a ≠ b) : card a + 1 ≤ card b := by
  obtain ⟨u, hu⟩ : ∃ u, hasB a u ≠ hasB b u := by
    by_cases q : ∃ u, hasB a u ≠ hasB b u
    · exact q
    · exact absurd (setExt a b ha hb (fun t => Decidable.byContradiction fun e => q ⟨t, e⟩)) hne
  have h1 : hasB a u = false := by
    cases q : hasB a u
    · rfl
    · exact absurd (q.trans (h u q).symm) hu
  have h2 : hasB b u = true := by
    cases q : hasB b u
    · exact absurd (h1.trans q.symm) hu
    · rfl
  rw [← card_with a u (hasB_vt h2) h1]
  refine card_sub _ _ (fun v hv => ?_)
  rw [hasB_withB, Bool.or_eq_true, decide_eq_true_eq] at hv
  rcases hv with hv | ⟨_, rfl⟩
  · exact h v hv
  · exact h2
theorem card_withB_le (s : Nat) (t : Int) : card (withB s t) ≤ card s + 1 := by
  by_cases h : vt t
  · cases q : hasB s t
    · rw [card_with s t h q]; omega
    · refine Nat.le_trans (card_sub _ s (fun v hv => ?_)) (Nat.le_succ _)
      rw [hasB_withB, Bool.or_eq_true, decide_eq_true_eq] at hv
      rcases hv with hv | ⟨_, rfl⟩
      · exact hv
      · exact q
  · have e : withB s t = s := if_neg h
    rw [e]; omega
theorem card_ofL : ∀ (l : List Int) (s : Nat), card (ofL s l) ≤ card s + l.length
  | [], s => by simp [ofL]
  | t :: r, s => by
    rw [ofL_cons]
    have h1 := card_ofL r (withB s t)
    have h2 := card_withB_le s t
    simp only [List.length_cons]
    omega
theorem kF_fix (dead : Nat) (d : List Int) (n : List NNode) (S : Nat) (h : rF dead S d n = S) : ∀ r, kF dead d n r S = S
  | 0 => rfl
  | r + 1 => by rw [kF_succ, h]; exact kF_fix dead d n S h r
theorem kF_lt (dead : Nat) (d : List Int) (n : List NNode) : ∀ (r S : Nat), S < B64 → kF dead d n r S < B64
  | 0, _, h => h
  | r + 1, S, h => by rw [kF_succ]; exact kF_lt dead d n r _ (rF_lt dead d n S h)
theorem kF_mono (dead : Nat) (d : List Int) (n : List NNode) (u : Int) : ∀ (r S : Nat), hasB S u = true → hasB (kF dead d n r S) u = true
  | 0, _, h => h
  | r + 1, S, h => by rw [kF_succ]; exact kF_mono dead d n u r _ (rF_mono dead u d n S h)
theorem kF_in (dead : Nat) (d : List Int) (n : List NNode) (T : Nat) (hc : ClosedZ dead (d.zip n) T) : ∀ (r S : Nat), (∀ u, hasB S u = true → hasB T u = true) → ∀ u, hasB (kF dead d n r S) u = true → hasB T u = true
  | 0, _, h, u, hu => h u hu
  | r + 1, S, h, u, hu => by rw [kF_succ] at hu; exact kF_in dead d n T hc r _ (rF_in dead T d n S hc h) u hu
theorem dead_closed (dead : Nat) (z : List (Int × NNode)) : ClosedZ dead z dead := fun _ _ _ v ⟨_, _, h⟩ => h.1
theorem kF_done (dead : Nat) (hd : dead < B64) (d : List Int) (n : List NNode) : ∀ (r S : Nat), S < B64 → (∀ u, hasB S u = true → hasB dead u = true) → card dead ≤ card S + r → rF dead (kF dead d n r S) d n = kF dead d n r S
  | 0, S, hS, hs, hc => by
    have h1 := rF_lt dead d n S hS
    have h2 := rF_in dead dead d n S (dead_closed dead _) hs
    have h3 := card_sub (rF dead S d n) dead h2
    by_cases q : rF dead S d n = S
    · exact q
    · have := card_lt S (rF dead S d n) hS h1 (fun u hu => rF_mono dead u d n S hu) (fun e => q e.symm)
      omega
  | r + 1, S, hS, hs, hc => by
    by_cases q : rF dead S d n = S
    · rw [kF_fix dead d n S q]; exact q
    · rw [kF_succ]
      have h1 := rF_lt dead d n S hS
      have := card_lt S (rF dead S d n) hS h1 (fun u hu => rF_mono dead u d n S hu) (fun e => q e.symm)
      exact kF_done dead hd d n r _ h1 (rF_in dead dead d n S (dead_closed dead _) hs) (by omega)
theorem kF_core (d : List Int) (n : List NNode) (hl : d.length = n.length) (t : Int) (ht : hasB (ofL 0 d) t = true) : CoreOK (ofL 0 d) d n t (kF (ofL 0 d) d n d.length (withB 0 t)) := by
  have hd := ofL_lt d 0 (by decide)
  have h0 : withB 0 t < B64 := withB_lt' 0 (by decide) t
  have hv := hasB_vt ht
  have hz : ∀ u, hasB 0 u = false := fun u => by unfold hasB; simp
  have hsub : ∀ T, hasB T t = true → ∀ u, hasB (withB 0 t) u = true → hasB T u = true := fun T hT u hu => by
    rw [hasB_withB, hz, Bool.false_or, decide_eq_true_eq] at hu; rw [hu.2]; exact hT
  have hc : card (ofL 0 d) ≤ card (withB 0 t) + d.length := by
    have h1 := card_ofL d 0
    have h2 : card 0 = 0 := by decide
    omega
  have hfix := kF_done (ofL 0 d) hd d n d.length (withB 0 t) h0 (hsub _ ht) hc
  have hlt := kF_lt (ofL 0 d) d n d.length (withB 0 t) h0
  refine ⟨hlt, kF_mono _ d n t _ _ (by rw [hasB_withB, decide_eq_true ⟨hv, rfl⟩]; simp), kF_in _ d n _ (dead_closed _ _) _ _ (hsub _ ht), (closed_zip _ d n hl _).1 (rF_fix _ d n _ hlt hfix), fun T hT hTt => ?_⟩
  exact kF_in _ d n T ((closed_zip _ d n hl T).2 hT) _ _ (hsub T hTt)
def coreR (time : Int) (d : List Int) (n : List NNode) (t : Int) : List Int :=
  if soundR time d n = true ∧ 0 ≤ findL t 0 d then listB (kF (ofL 0 d) d n d.length (withB 0 t)) else []
theorem core_eq (time : Int) (d : List Int) (n : List NNode) (t : Int) (l : List Int) (h : CoreRes time d n t l) : l = coreR time d n t := by
  unfold coreR
  cases hs : soundR time d n
  · rw [if_neg (by simp)]
    exact h.2 (by rw [hs]; rfl)
  · have hz : chkR time d n = 0 := by unfold soundR at hs; simp at hs; exact hs.1
    obtain ⟨hlen, hdc, _⟩ := chkR_zero _ _ _ hz
    have hr := deadC_range d (-1) (by omega) hdc
    have h0 : ∀ u, hasB 0 u = false := fun u => by unfold hasB; simp
    by_cases q : 0 ≤ findL t 0 d
    · rw [if_pos ⟨rfl, q⟩]
      have hm : t ∈ d := by
        rcases findL_spec t d 0 with ⟨e, _⟩ | ⟨j, _, hj, e⟩
        · omega
        · rw [← e]; exact getD_mem 0 d j hj
      have ht : hasB (ofL 0 d) t = true := by
        rw [hasB_ofL, h0, Bool.false_or, decide_eq_true_eq]; exact ⟨hr t hm, hm⟩
      obtain ⟨met, hmet, rfl⟩ := h.1 hs ht
      rw [hmet.unique (kF_core d n hlen t ht)]
    · rw [if_neg (fun e => q e.2)]
      refine h.2 ?_
      rw [hs, Bool.true_and, hasB_ofL, h0, Bool.false_or, decide_eq_false_iff_not]
      rintro ⟨_, hm⟩
      rcases findL_spec t d 0 with ⟨_, e⟩ | ⟨j, e, _, _⟩
      · exact e hm
      · omega
end Go.Proofs.YtadepdeckapgcaaDoor
end
