/- LawHistoryReplays, part 5: what the proof stands on (merged by wip/shake.py out of the session's texts and of what the print wrote for this claim). -/
import Derived.Test.YtadepdeckapgcaaYcD

section
namespace Go.Proofs.Ytadepdeckapgcaa.Hi
open Go.Proofs.Ytadepdeckapgcaa Go.RowKit Go.Maps Go.Proofs.YtadepdeckapgcaaW.PrintWords Go.Proofs.YtadepdeckapgcaaW.PrintLast Go.Proofs.YtadepdeckapgcaaW.PrintMore Go.Proofs.Ytadepdeckapgcaa.PHj Go.Proofs.Ytadepdeckapgcaa.PHi
set_option linter.unusedVariables false
set_option linter.unusedSimpArgs false
def SetRel (w : World) (i : Nat) (cs : Cs) (O : List Og) (g8 c8 pm : Nat) (ms : Array Value) (bs7 : Nat) (A7 : Option Addr) (c7 : Nat) (Lr : List Pr) (v6 v14 : Value) (wj : World) : Prop :=
  ∃ (j : Nat) (cs2 : Cs) (A8 : Option Addr) (c8' : Nat), j ≤ Lr.length ∧ v14 = .int .i64 j ∧ v6 = .slice A8 (allL cs2).length c8' ∧ Hid (setAll (Lr.drop j) cs2 = setAll Lr cs) ∧ Hid (AtAt w (2 * i) cs2 (.slice A8 (allL cs2).length c8') O (.slice (some ⟨g8, 0, none⟩) O.length c8) pm ms wj) ∧ Hid (R22 wj bs7 (.slice A7 Lr.length c7) Lr)
set_option maxRecDepth 100000 in
set_option maxHeartbeats 16000000 in
theorem wRReplay (w : World) (v : Value) (d : List De22) (hd : d.length ≤ 60) (hD : D22 w v d) (A : Option Addr) (c : Nat) (l : List Mk) (hC : Kd.C k29 w A l.length l) (hl : l.length ≤ 1000) (hm : ∀ m ∈ l, inM m) :
    Calls Try.prog 18 #[v, .slice A l.length c] w fun e w' => ∃ v' bs, e = .returned (.tuple #[v', .bool (repG l (newOf d) (fun _ => []) true).2]) ∧ w.heap.size ≤ bs ∧ R22 w' bs v' (allL (repG l (newOf d) (fun _ => []) true).1) ∧ Quiet w w' := by
  have HC := Lib.hid hC
  have HM := Lib.hid hm
  have HN := Lib.hid (rNew22 w v d hd hD)
  have hnl := newOf_len d
  clear hC hm hD
  go_enter Try.func18, Try.ntmps18
  go_wp2_with fail
  refine HN.out.mono ?_
  rintro e w1 ⟨A1, c1, rfl, hr1, hq1⟩
  have HR0 : Hid (RfAt w 0 (newOf d) (.slice A1 (allL (newOf d)).length c1) [] (.slice (some ⟨w1.heap.size, 0, none⟩) 0 0) (w1.alloc (.cells #[] 72))) := Lib.hid (RfAt.made hq1 _ (Nat.le_refl _) hr1 (by omega))
  clear HN hr1
  go_wp2
  go_loopw [6, 7, 8, 9] (fun v6 v7 v8 v9 wr => ∃ (i : Nat) (cs : Cs) (A6 : Option Addr) (c6 : Nat) (O : List Og) (g8 c8 : Nat) (ok : Bool), i ≤ l.length ∧ v9 = .int .i64 i ∧ v7 = .bool ok ∧ v6 = .slice A6 (allL cs).length c6 ∧ v8 = .slice (some ⟨g8, 0, none⟩) O.length c8 ∧ Hid (repG (l.drop i) cs (gL O) ok = repG l (newOf d) (fun _ => []) true) ∧ Hid (RfAt w (2 * i) cs (.slice A6 (allL cs).length c6) O (.slice (some ⟨g8, 0, none⟩) O.length c8) wr)) (fun _ _ _ v9 _ => l.length - (intOf v9).toNat)
  case atStart => exact ⟨0, _, _, _, [], _, _, _, Nat.zero_le _, rfl, rfl, rfl, rfl, Lib.hid rfl, HR0⟩
  case round =>
    obtain ⟨i, cs, A6, c6, O, g8, c8, ok, hi, rfl, rfl, rfl, rfl, HQ, HR⟩ := hrel
    clear HR0
    by_cases hlt : i < l.length
    · obtain ⟨ad, eA, x0, x1, x2, x3, x4⟩ := at_T29 HC.out (i : Int) (by omega) (by omega)
      cases eA
      have hr : rd_T29 l (i : Int) = l[i] := by unfold rd_T29; simp [hlt]
      rw [hr] at x0 x1 x2 x3 x4
      simp only [Int.toNat_natCast] at x0 x1 x2 x3 x4
      have hmi := HM.out _ (List.getElem_mem hlt)
      have hq := HQ.out
      have hbel := HR.out.bel
      have hbq : Below w.heap.size w wr := hbel.below (fun _ _ q => q)
      rw [List.drop_eq_getElem_cons hlt] at hq
      generalize l[i] = m at x0 x1 x2 x3 x4 hmi hq
      obtain ⟨f0, f1, f2, f3, f4⟩ := m
      dsimp only at x0 x1 x2 x3 x4
      replace x0 := (hbq.cell (World.block_lt_of_cell? w _ x0)).trans x0
      replace x1 := (hbq.cell (World.block_lt_of_cell? w _ x1)).trans x1
      replace x2 := (hbq.cell (World.block_lt_of_cell? w _ x2)).trans x2
      replace x3 := (hbq.cell (World.block_lt_of_cell? w _ x3)).trans x3
      replace x4 := (hbq.cell (World.block_lt_of_cell? w _ x4)).trans x4
      obtain ⟨ms, hms⟩ : ∃ z : Array Value, z = #[.int .i64 f0, .int .i64 f1, .int .i64 f2, .int .i64 f3, .int .i64 f4] := ⟨_, rfl⟩
      have HA0 : Hid (AtAt w (2 * i) cs (.slice A6 (allL cs).length c6) O (.slice (some ⟨g8, 0, none⟩) O.length c8) wr.heap.size ms (wr.alloc (.cells ms 29))) := Lib.hid ⟨HR.out.quiet ((Fr.refl _ wr).alloc _), Blk.new wr ms _⟩
      rw [hms] at HA0
      simp only [repG] at hq
      clear HQ
      have HQ := Lib.hid hq
      have hbw : w.heap.size ≤ wr.heap.size := hbel.size
      have hol := HR.out.ol
      clear hq hbel hbq hr HR hms
      go_wp2
      obtain ⟨wo, hwo⟩ : ∃ x, x = wr := ⟨_, rfl⟩
      subst hwo
      go_loopw [12, 11] (fun v12 v11 wi => ∃ (j : Nat), j ≤ O.length ∧ v12 = .int .i64 j ∧ v11 = .int .i64 (atF O f2 j) ∧ Hid (AtAt w (2 * i) cs (.slice A6 (allL cs).length c6) O (.slice (some ⟨g8, 0, none⟩) O.length c8) wo.heap.size #[.int .i64 f0, .int .i64 f1, .int .i64 f2, .int .i64 f3, .int .i64 f4] wi)) (fun v12 _ _ => O.length - (intOf v12).toNat)
      case atStart => exact ⟨0, Nat.zero_le _, rfl, rfl, HA0⟩
      case round =>
        clear HA0 x0 x1 x2 x3 x4
        obtain ⟨j, hj, rfl, rfl, HA⟩ := hrel
        by_cases hjl : j < O.length
        · obtain ⟨e0, e1, e2, e3, e4⟩ := HA.out.rf.at j hjl
          have y2 := HA.out.blk.cell 2; simp at y2
          have hst : atF O f2 (j + 1) = if O[j].n = f2 then (j : Int) else atF O f2 j := by
            simp only [atF]
            rw [show O.getD j ⟨0, [], .int .i64 0⟩ = O[j] by simp [hjl]]
          by_cases hn : O[j].n = f2
          · have hnb : (O[j].n == f2) = true := by simp [hn]
            rw [if_pos hn] at hst
            have HST := Lib.hid hst
            generalize O[j].n = nj at e1 hnb
            clear hst hn
            go_wp2
            go_region
            go_wp2
            go_roundw
            case rel => exact ⟨j + 1, by omega, by go_num, by rw [HST.out], Lib.hid (HA.out.quiet ((Fr.refl _ _).drew))⟩
            case measure => simp [intOf]; omega
          · have hnb : (O[j].n == f2) = false := by simp [hn]
            rw [if_neg hn] at hst
            have HST := Lib.hid hst
            generalize O[j].n = nj at e1 hnb
            clear hst hn
            go_wp2
            go_region
            go_wp2
            go_roundw
            case rel => exact ⟨j + 1, by omega, by go_num, by rw [HST.out], Lib.hid (HA.out.quiet ((Fr.refl _ _).drew))⟩
            case measure => simp [intOf]; omega
        · obtain rfl : j = O.length := by omega
          have y0 := HA.out.blk.cell 0; have y1 := HA.out.blk.cell 1; have y2 := HA.out.blk.cell 2; have y3 := HA.out.blk.cell 3; have y4 := HA.out.blk.cell 4
          simp at y0 y1 y2 y3 y4
          clear hjl
          by_cases hend : f2 > 0 ∧ (f0 = 3 ∨ f0 = 4)
          · have hie : isEnd ⟨f0, f1, f2, f3, f4⟩ = true := by
              unfold isEnd
              rcases hend.2 with rfl | rfl <;> simp [hend.1]
            rw [if_pos hie] at HQ
            have c2b : decide (f2 > 0) = true := by simpa using hend.1
            have h34 := hend.2
            clear hie hend
            rcases atF_cases O f2 O.length (Nat.le_refl _) with hat | ⟨a, ha, _, hat, en⟩
            · rw [hat]
              have hno := atF_none O f2 O.length (Nat.le_refl _) hat
              have hg0 := gL_none f2 O (fun j hj => hno j hj hj)
              have hq := HQ.out
              have hup : updO (gL O) f2 [] = gL O := by rw [← hg0]; exact updO_self _ _
              rw [hup, hg0] at hq
              simp only [List.reverse_nil, setAll, ite_self] at hq
              have HQ3 := Lib.hid hq
              clear hq HQ hup hg0 hno hat
              rcases h34 with c3 | c4
              · have c3b : (f0 == 3) = true := by simp [c3]
                clear c3
                go_wp2
                go_roundw
                case rel => exact ⟨i + 1, cs, A6, c6, O, g8, c8, ok, by omega, by go_num, rfl, rfl, rfl, HQ3, Lib.hid (HA.out.rf.next.next)⟩
                case measure => simp [intOf]; omega
              · have c3b : (f0 == 3) = false := by simp [c4]
                have c4b : (f0 == 4) = true := by simp [c4]
                clear c4
                go_wp2
                go_roundw
                case rel => exact ⟨i + 1, cs, A6, c6, O, g8, c8, ok, by omega, by go_num, rfl, rfl, rfl, HQ3, Lib.hid (HA.out.rf.next.next)⟩
                case measure => simp [intOf]; omega
            · rw [hat]
              have HEN := Lib.hid en
              obtain ⟨e0, e1, e2, e3, e4⟩ := HA.out.rf.at a ha
              obtain ⟨Au, cu, bsu, hvu, hbu, hru⟩ := HA.out.rf.u O[a] (List.getElem_mem ha)
              obtain ⟨Au', cu', e', hcu, hCu⟩ := hru.reads
              rw [hvu] at e' e3
              injection e' with e5 _ e6
              subst e5 e6
              have hlu := HA.out.rf.ul O[a] (List.getElem_mem ha)
              have hgl := gL_at O HA.out.rf.un a ha
              rw [en] at hgl e1
              have hq := HQ.out
              rw [hgl] at hq
              generalize O[a].u = Lu at *
              have HU := Lib.hid (wGUndo wr Au cu Lu hCu (by omega) f2)
              unfold gA at HU
              obtain ⟨Lr, hLr⟩ : ∃ z, z = Lu.reverse := ⟨_, rfl⟩
              rw [← hLr] at hq HU
              have hlr : Lr.length ≤ 2 * i := by rw [hLr, List.length_reverse]; exact hlu
              have HQ3 := Lib.hid hq
              clear hq HQ hgl hCu hru hvu hat hLr en
              rcases h34 with c3 | c4
              · have c3b : (f0 == 3) = true := by simp [c3]
                have c4b : (f0 == 4) = false := by simp [c3]
                have hq := HQ3.out
                rw [if_neg (by omega)] at hq
                have HQ4 := Lib.hid hq
                clear hq HQ3 c3
                go_wp2_with fail
                refine HU.out.mono ?_
                rintro e w7 ⟨A7, c7, rfl, hr7, hb7⟩
                have HA7 := Lib.hid (HA.out.quiet (Fr.of_below hb7))
                obtain ⟨bs7, hbs7⟩ : ∃ z, z = wr.heap.size := ⟨_, rfl⟩
                rw [← hbs7] at hr7
                have HR7 := Lib.hid (R22.of hr7)
                have u0 := HA7.out.blk.cell 0; have u2 := HA7.out.blk.cell 2
                simp at u0 u2
                clear hr7 hb7 HU HA hbs7 y0 y2 y3 y4 e0 e1 e2 e3 e4
                go_wp2
                go_loopw [6, 14] (fun v6 v14 wj => v14 = .int .i64 0 ∧ v6 = .slice A6 (allL cs).length c6 ∧ Hid (AtAt w (2 * i) cs (.slice A6 (allL cs).length c6) O (.slice (some ⟨g8, 0, none⟩) O.length c8) wo.heap.size #[.int .i64 f0, .int .i64 f1, .int .i64 f2, .int .i64 f3, .int .i64 f4] wj)) (fun _ v14 _ => 0)
                case atStart => exact ⟨rfl, rfl, HA7⟩
                case round =>
                  clear HA7 HR7 u0 u2
                  obtain ⟨rfl, rfl, HAx⟩ := hrel
                  have u0 := HAx.out.blk.cell 0; have u2 := HAx.out.blk.cell 2
                  simp at u0 u2
                  have HBg := Lib.hid (show Calls Try.prog 46 #[.slice none 0 0, .int .i64 f2] wr fun e w' => e = .returned (.agg #[.slice none 0 0, .int .i64 f2, .int .i64 0, .slice none 0 0, .slice none 0 0]) ∧ Quiet wr w' from wGBegin wr f2)
                  rcases Nat.eq_zero_or_pos Lr.length with hz | hz
                  · have hd0 : decide ((0 : Int) < (Lr.length : Int)) = false := decide_eq_false (by omega)
                    go_wp2_with (go_at_call 46; refine HBg.out.mono ?_; rintro e w9 ⟨rfl, hq9⟩; have HA9 := Lib.hid (HAx.out.quiet hq9); have q9 := HA9.out.rf.at a ha; have q90 := q9.1; have q91 := q9.2.1; have q92 := q9.2.2.1; have q93 := q9.2.2.2.1; have q94 := q9.2.2.2.2; have fz := fun i => HA9.out.rf.o.frozenAt i; clear hq9 q9)
                    go_roundw
                    case rel =>
                      refine ⟨i + 1, _, _, _, O.set a ⟨f2, [], .slice none 0 0⟩, g8, c8, ok, by omega, by go_num, rfl, rfl, by rw [List.length_set], ?_, ?_⟩
                      · exact Lib.hid (by rw [gL_set O a ha _ HA9.out.rf.un HEN.out.symm]; exact HQ4.out)
                      · have q := (HA9.out.rf.put a ha ⟨f2, [], .slice none 0 0⟩ HEN.out.symm ⟨none, 0, w.heap.size, rfl, Nat.le_refl _, R22.of (ok := fun _ => True) (Kd.R_nil _ _ _ _ _)⟩ (Nat.zero_le _)).1
                        exact Lib.hid (by rw [List.length_set]; exact q.next)
                    case measure => simp [intOf]; omega
                  · have hd0 : decide ((0 : Int) < (Lr.length : Int)) = true := decide_eq_true (by omega)
                    go_wp2_with (go_at_call 46; refine HBg.out.mono ?_; rintro e w9 ⟨rfl, hq9⟩; have HA9 := Lib.hid (HAx.out.quiet hq9); have q9 := HA9.out.rf.at a ha; have q90 := q9.1; have q91 := q9.2.1; have q92 := q9.2.2.1; have q93 := q9.2.2.2.1; have q94 := q9.2.2.2.2; have fz := fun i => HA9.out.rf.o.frozenAt i; clear hq9 q9)
                    go_roundw
                    case rel =>
                      refine ⟨i + 1, _, _, _, O.set a ⟨f2, [], .slice none 0 0⟩, g8, c8, ok, by omega, by go_num, rfl, rfl, by rw [List.length_set], ?_, ?_⟩
                      · exact Lib.hid (by rw [gL_set O a ha _ HA9.out.rf.un HEN.out.symm]; exact HQ4.out)
                      · have q := (HA9.out.rf.put a ha ⟨f2, [], .slice none 0 0⟩ HEN.out.symm ⟨none, 0, w.heap.size, rfl, Nat.le_refl _, R22.of (ok := fun _ => True) (Kd.R_nil _ _ _ _ _)⟩ (Nat.zero_le _)).1
                        exact Lib.hid (by rw [List.length_set]; exact q.next)
                    case measure => simp [intOf]; omega
              · have c3b : (f0 == 3) = false := by simp [c4]
                have c4b : (f0 == 4) = true := by simp [c4]
                have hq := HQ3.out
                rw [if_pos c4] at hq
                have HQ5 := Lib.hid hq
                clear hq HQ3 c4
                go_wp2_with fail
                refine HU.out.mono ?_
                rintro e w7 ⟨A7, c7, rfl, hr7, hb7⟩
                have HA7 := Lib.hid (HA.out.quiet (Fr.of_below hb7))
                obtain ⟨bs7, hbs7⟩ : ∃ z, z = wr.heap.size := ⟨_, rfl⟩
                rw [← hbs7] at hr7
                have HR7 := Lib.hid (R22.of hr7)
                have u0 := HA7.out.blk.cell 0; have u2 := HA7.out.blk.cell 2
                simp at u0 u2
                clear hr7 hb7 HU HA hbs7 y0 y2 y3 y4 e0 e1 e2 e3 e4
                go_wp2
                go_loopw [6, 14] (fun v6 v14 wj => SetRel w i cs O g8 c8 wo.heap.size #[.int .i64 f0, .int .i64 f1, .int .i64 f2, .int .i64 f3, .int .i64 f4] bs7 A7 c7 Lr v6 v14 wj) (fun _ v14 _ => Lr.length - (intOf v14).toNat)
                case atStart => exact ⟨0, cs, A6, c6, Nat.zero_le _, rfl, rfl, rfl, HA7, HR7⟩
                case round =>
                  clear HA7 HR7 u0 u2
                  obtain ⟨j, cs2, A8, c8', hj, rfl, rfl, HSA, HA8, HR8⟩ := hrel
                  have u0 := HA8.out.blk.cell 0; have u2 := HA8.out.blk.cell 2
                  simp at u0 u2
                  by_cases hjl : j < Lr.length
                  · obtain ⟨A7', c7', e7, hc7, hC7⟩ := HR8.out.reads
                    injection e7 with e7 _ e8
                    subst e7 e8
                    obtain ⟨ad7, eA7, z0, z1⟩ := at_T76 hC7 (j : Int) (by omega) (by omega)
                    cases eA7
                    have hr7 : rd_T76 Lr (j : Int) = Lr[j] := by unfold rd_T76; simp [hjl]
                    rw [hr7] at z0 z1
                    simp only [Int.toNat_natCast] at z0 z1
                    have hsq := HSA.out
                    rw [List.drop_eq_getElem_cons hjl] at hsq
                    generalize Lr[j] = x at z0 z1 hsq
                    obtain ⟨p0, p1⟩ := x
                    dsimp only at z0 z1
                    simp only [setAll] at hsq
                    have HSQ := Lib.hid hsq
                    have hqd : Quiet wr wr.drew := (Fr.refl _ wr).drew
                    have HA8d := Lib.hid (HA8.out.quiet hqd)
                    have HR8d := Lib.hid (R22.quiet HR8.out hqd)
                    obtain ⟨bs8, hb8, hr8⟩ := HA8d.out.rf.c
                    have HS := Lib.hid (rSet22 wr.drew bs8 A8 c8' cs2 (Nat.le_trans HA8d.out.rf.csl (by decide)) hr8 p0 p1)
                    have hwz : w.heap.size ≤ wr.drew.heap.size := HA8d.out.rf.bel.size
                    clear hsq HSA hr7 hC7 hr8 hqd
                    go_upto_region 18 with fail
                    go_region_law (first
                      | (go_simp; go_at_call 45; refine HS.out.mono ?_; rintro e w9 ⟨A9, c9, rfl, hr9, hq9⟩; have HA9 := Lib.hid (HA8d.out.quiet hq9); have HR9 := Lib.hid (R22.quiet HR8d.out hq9); have HRN := Lib.hid hr9; clear hr9 hq9))
                    all_goals
                      go_wp2
                      go_roundw
                      case rel => exact ⟨j + 1, _, A9, c9, by omega, by go_num, rfl, HSQ, Lib.hid ⟨HA9.out.rf.setc _ hwz HRN.out (cSet_len _ _ _), HA9.out.blk⟩, HR9⟩
                      case measure => simp [intOf]; omega
                  · obtain rfl : j = Lr.length := by omega
                    have hse := HSA.out
                    rw [List.drop_of_length_le (by omega)] at hse
                    simp only [setAll] at hse
                    have hq := HQ5.out
                    rw [← hse] at hq
                    have HQ4 := Lib.hid hq
                    have HAx := HA8
                    have HBg := Lib.hid (show Calls Try.prog 46 #[.slice none 0 0, .int .i64 f2] wr fun e w' => e = .returned (.agg #[.slice none 0 0, .int .i64 f2, .int .i64 0, .slice none 0 0, .slice none 0 0]) ∧ Quiet wr w' from wGBegin wr f2)
                    clear hse hq HSA HQ5
                    go_wp2_with (go_at_call 46; refine HBg.out.mono ?_; rintro e w9 ⟨rfl, hq9⟩; have HA9 := Lib.hid (HAx.out.quiet hq9); have q9 := HA9.out.rf.at a ha; have q90 := q9.1; have q91 := q9.2.1; have q92 := q9.2.2.1; have q93 := q9.2.2.2.1; have q94 := q9.2.2.2.2; have fz := fun i => HA9.out.rf.o.frozenAt i; clear hq9 q9)
                    go_roundw
                    case rel =>
                      refine ⟨i + 1, _, _, _, O.set a ⟨f2, [], .slice none 0 0⟩, g8, c8, ok, by omega, by go_num, rfl, rfl, by rw [List.length_set], ?_, ?_⟩
                      · exact Lib.hid (by rw [gL_set O a ha _ HA9.out.rf.un HEN.out.symm]; exact HQ4.out)
                      · have q := (HA9.out.rf.put a ha ⟨f2, [], .slice none 0 0⟩ HEN.out.symm ⟨none, 0, w.heap.size, rfl, Nat.le_refl _, R22.of (ok := fun _ => True) (Kd.R_nil _ _ _ _ _)⟩ (Nat.zero_le _)).1
                        exact Lib.hid (by rw [List.length_set]; exact q.next)
                    case measure => simp [intOf]; omega
          · have hie : isEnd ⟨f0, f1, f2, f3, f4⟩ = false := Bool.eq_false_iff.2 (fun q => hend (by unfold isEnd at q; simpa using q))
            rw [if_neg (by rw [hie]; simp)] at HQ
            have HE := Lib.hid (wRacc wr ⟨f0, f1, f2, f3, f4⟩)
            generalize acc ⟨f0, f1, f2, f3, f4⟩ = ia at HE HQ
            clear hie
            by_cases c2 : f2 > 0
            · have c2b : decide (f2 > 0) = true := by simpa using c2
              have c3b : (f0 == 3) = false := beq_eq_false_iff_ne.2 (fun e => hend ⟨c2, .inl e⟩)
              have c4b : (f0 == 4) = false := beq_eq_false_iff_ne.2 (fun e => hend ⟨c2, .inr e⟩)
              clear hend
              go_wp2_with fail
              refine HE.out.mono ?_
              rintro e w6 ⟨rfl, hb6⟩
              have HA6 := Lib.hid (HA.out.quiet (Fr.of_below hb6))
              have z0 := HA6.out.blk.cell 0; have z2 := HA6.out.blk.cell 2; have z3 := HA6.out.blk.cell 3; have z4 := HA6.out.blk.cell 4
              simp at z0 z2 z3 z4
              clear hb6 HE HA y0 y1 y2 y3 y4
              cases ia
              case false =>
                rw [if_neg (by simp)] at HQ
                go_wp2
                go_roundw
                case rel => exact ⟨i + 1, cs, A6, c6, O, g8, c8, ok, by omega, by go_num, rfl, rfl, rfl, HQ, Lib.hid HA6.out.rf.next.next⟩
                case measure => simp [intOf]; omega
              rw [if_pos rfl] at HQ
              obtain ⟨bs6, hb6, hr6⟩ := HA6.out.rf.c
              have HF := Lib.hid (rFind22 w6 bs6 A6 c6 cs (Nat.le_trans HA6.out.rf.csl (by decide)) hr6 f3)
              clear hr6
              cases hfx : fidx f3 cs with
              | none =>
                obtain ⟨k1, k2⟩ := fI_none hfx
                rw [k1] at HF
                rw [k2] at HQ
                rw [if_pos rfl] at HQ
                clear k1 k2
                go_wp2_with fail
                refine HF.out.mono ?_
                rintro e w7 ⟨rfl, hq7⟩
                have HA7 := Lib.hid (HA6.out.quiet hq7)
                have v0 := HA7.out.blk.cell 0; have v2 := HA7.out.blk.cell 2; have v3 := HA7.out.blk.cell 3; have v4 := HA7.out.blk.cell 4
                simp at v0 v2 v3 v4
                clear hq7 HF HA6 z0 z2 z3 z4
                go_wp2
                go_region
                go_wp2
                go_roundw
                case rel => exact ⟨i + 1, cs, A6, c6, O, g8, c8, false, by omega, by go_num, rfl, rfl, rfl, HQ, Lib.hid (HA7.out.quiet ((Fr.refl _ w7).drew)).rf.next.next⟩
                case measure => simp [intOf]; omega
              | some p =>
                obtain ⟨k1, k2⟩ := fI_some hfx
                obtain ⟨hp, _⟩ := fidx_lt f3 cs p hfx
                rw [k1] at HF
                rw [k2] at HQ
                rw [if_neg (by simp)] at HQ
                obtain ⟨gv, hgv⟩ : ∃ z, z = (cAt cs p).2.2 := ⟨_, rfl⟩
                dsimp only at HQ
                rw [← hgv] at HQ
                have HGV := Lib.hid hgv
                clear hgv
                clear k1 k2
                go_wp2_with fail
                refine HF.out.mono ?_
                rintro e w7 ⟨rfl, hq7⟩
                have HA7 := Lib.hid (HA6.out.quiet hq7)
                have v0 := HA7.out.blk.cell 0; have v2 := HA7.out.blk.cell 2; have v3 := HA7.out.blk.cell 3; have v4 := HA7.out.blk.cell 4
                simp at v0 v2 v3 v4
                obtain ⟨bs7, hb7, hr7⟩ := HA7.out.rf.c
                obtain ⟨A7, c7, e7, hc7, hC7⟩ := hr7.reads
                injection e7 with e71 _ e72
                subst e71 e72
                obtain ⟨ad7, eA7, m0, m1⟩ := at_T76 hC7 (p : Int) (by omega) (by rw [allL_len]; omega)
                cases eA7
                rw [rd_allL cs p hp] at m1
                simp only [Int.toNat_natCast] at m1
                rw [show cs[p].2.2 = gv from by rw [HGV.out, cAt_lt cs p hp]] at m1
                have hpb : decide ((p : Int) < 0) = false := decide_eq_false (by omega)
                have hpl : p < (allL cs).length := by rw [allL_len]; exact hp
                clear hq7 hr7 hC7 m0 HF HA6 z0 z2 z3 z4
                by_cases c1 : f0 = 1
                · rw [if_pos c1] at HQ
                  have c11 : (f0 == 1) = true := by simp [c1]
                  by_cases c5 : gv = f4
                  · have c51 : (gv != f4) = false := by simp [c5]
                    have c52 : (gv == f4) = true := by simp [c5]
                    rw [c52, Bool.and_true] at HQ
                    clear c1 c5 c52
                    go_wp2
                    go_region
                    go_wp2
                    go_roundw
                    case rel => exact ⟨i + 1, cs, _, _, O, g8, c8, ok, by omega, by go_num, rfl, rfl, rfl, HQ, Lib.hid (HA7.out.quiet ((Fr.refl _ w7).drew)).rf.next.next⟩
                    case measure => simp [intOf]; omega
                  · have c51 : (gv != f4) = true := by simp [c5]
                    have c52 : (gv == f4) = false := by simp [c5]
                    rw [c52, Bool.and_false] at HQ
                    clear c1 c5 c52
                    go_wp2
                    go_region
                    go_wp2
                    go_roundw
                    case rel => exact ⟨i + 1, cs, _, _, O, g8, c8, false, by omega, by go_num, rfl, rfl, rfl, HQ, Lib.hid (HA7.out.quiet ((Fr.refl _ w7).drew)).rf.next.next⟩
                    case measure => simp [intOf]; omega
                rw [if_neg c1] at HQ
                have c11 : (f0 == 1) = false := by simp [c1]
                clear c1
                rw [if_pos c2] at HQ
                have HA7d := Lib.hid (HA7.out.quiet ((Fr.refl _ w7).drew))
                rcases atF_cases O f2 O.length (Nat.le_refl _) with hat | ⟨a1, ha1, _, hat, hen1⟩
                · rw [hat]
                  have hno := atF_none O f2 O.length (Nat.le_refl _) hat
                  have hg0 := gL_none f2 O (fun j hj => hno j hj hj)
                  rw [hg0] at HQ
                  have HNO := Lib.hid (fun j hj => hno j hj hj)
                  have HBg := Lib.hid (show Calls Try.prog 46 #[.slice none 0 0, .int .i64 f2] w7.drew fun e w' => e = .returned (.agg #[.slice none 0 0, .int .i64 f2, .int .i64 0, .slice none 0 0, .slice none 0 0]) ∧ Quiet w7.drew w' from wGBegin w7.drew f2)
                  obtain ⟨O1, hO1⟩ : ∃ z, z = O ++ [⟨f2, [], .slice none 0 0⟩] := ⟨_, rfl⟩
                  have hl1 : O.length + 1 = O1.length := by rw [hO1]; simp
                  have ha1 : O.length < O1.length := by omega
                  have hget : O1[O.length] = ⟨f2, [], .slice none 0 0⟩ := by simp [hO1]
                  have hen1 : O1[O.length].n = f2 := by rw [hget]
                  have hv1 : O1[O.length].v = .slice none ([] : List Pr).length 0 := by rw [hget]; rfl
                  have HGL : Hid (∀ X, updO (gL O1) f2 X = updO (gL O) f2 X) := Lib.hid (fun X => by rw [hO1, gL_push O _ (fun j hj => hno j hj hj), updO_updO])
                  have HO1 := Lib.hid hO1
                  clear hat hno hg0 hget hO1
                  go_wp2
                  go_region
                  go_wp2_with (first
                    | (go_at_call 46; refine HBg.out.mono ?_; rintro e w8 ⟨rfl, hq8⟩; have HA8 := Lib.hid (HA7d.out.quiet hq8); clear hq8)
                    | (have hq8 := HA8.out; clear hq8; at_builtin; refine print_append_cells (w0 := w) w.heap.size rfl (.tmp 131) (.tmp 135) 69 72 _ 5 88 rfl Try.underlying69 infoG rfl (by decide) (by decide) _ O.length (encG O) (gV f2 (.slice none 0 0)) rfl rfl rfl (fun u hu => by simp only [gV, List.mem_cons, List.not_mem_nil, or_false] at hu; rcases hu with rfl | rfl | rfl | rfl | rfl <;> rfl) HA8.out.rf.o (HA8.out.rf.bel.below (fun _ _ q => q)) HA8.out.rf.bel.size (by have := HA8.out.rf.ol; omega) ?_; intro v9 w9 ho9 hb9 hg9 hat9; obtain ⟨g1, c1, rfl⟩ := own_shape ho9; have hRF9 := HA8.out.rf.push f2 HNO.out _ ho9 hg9; have hbk9 := (hg9.block _ HA8.out.blk.lt (fun e => own_ne HA8.out.rf.o HA8.out.blk (by decide) e.symm)).trans HA8.out.blk; rw [← HO1.out, hl1] at hRF9; rw [hl1]; have HA9 : Hid (AtAt w (2 * i + 1) cs (.slice _ (allL cs).length c6) O1 (.slice (some ⟨g1, 0, none⟩) O1.length c1) wo.heap.size #[.int .i64 f0, .int .i64 f1, .int .i64 f2, .int .i64 f3, .int .i64 f4] w9) := Lib.hid ⟨hRF9, hbk9⟩; have r0 := HA9.out.blk.cell 0; have r2 := HA9.out.blk.cell 2; have r3 := HA9.out.blk.cell 3; have r4 := HA9.out.blk.cell 4; simp at r0 r2 r3 r4; clear ho9 hb9 hg9 hat9 hRF9 hbk9))
                  have hru1 : R22 w9.drew w.heap.size (.slice none ([] : List Pr).length 0) [] := R22.of (ok := fun _ => True) (Kd.R_nil _ _ _ _ _)
                  have HA9d := Lib.hid (HA9.out.quiet ((Fr.refl _ w9).drew))
                  obtain ⟨e0, e1, e2, e3, e4⟩ := HA9.out.rf.at O.length ha1
                  rw [hen1] at e1
                  rw [hv1] at e3
                  have n0 := HA9.out.blk.cell 0; have n2 := HA9.out.blk.cell 2; have n3 := HA9.out.blk.cell 3; have n4 := HA9.out.blk.cell 4
                  simp at n0 n2 n3 n4
                  obtain ⟨bsA, hbA, hrA⟩ := HA9.out.rf.c
                  obtain ⟨AA, cA, eA, hcA, hCA⟩ := hrA.reads
                  injection eA with eA1 _ eA2
                  subst eA1 eA2
                  obtain ⟨adA, eAA, m0, m1⟩ := at_T76 hCA (p : Int) (by omega) (by rw [allL_len]; omega)
                  cases eAA
                  rw [rd_allL cs p hp] at m1
                  simp only [Int.toNat_natCast] at m1
                  rw [show cs[p].2.2 = gv from by rw [HGV.out, cAt_lt cs p hp]] at m1
                  have HW := Lib.hid (wGWrote w9.drew w.heap.size none 0 ([] : List Pr) hru1 (by simp) f2 f3 gv)
                  unfold gA at HW
                  obtain ⟨LW, hLW⟩ : ∃ z, z = wroteL ([] : List Pr) f3 gv := ⟨_, rfl⟩
                  rw [← hLW] at HW HQ
                  have hlw : LW.length ≤ ([] : List Pr).length + 1 := by rw [hLW]; exact wroteL_len _ _ _
                  have HEN := Lib.hid hen1
                  clear hLW hen1 hv1 hrA hCA hru1 m0
                  go_upto_region 28 with fail
                  refine start_ (n := 16) (S := fun w' => w'.cell? ⟨g1, O.length * 5, none⟩ = some (.slice none 0 0) ∧ w'.cell? ⟨g1, O.length * 5 + 1, none⟩ = some (.int .i64 f2) ∧ w'.cell? ⟨g1, O.length * 5 + 2, none⟩ = some (.int .i64 0) ∧ w'.cell? ⟨g1, O.length * 5 + 3, none⟩ = some (.slice none ([] : List Pr).length 0) ∧ w'.cell? ⟨g1, O.length * 5 + 4, none⟩ = some (.slice none 0 0) ∧ w'.cell? ⟨wo.heap.size, 3, none⟩ = some (.int .i64 f3) ∧ w'.cell? ⟨(ad7.add (p * 2)).block, (ad7.add (p * 2)).off + 1, none⟩ = some (.int .i64 gv)) (ds := [15]) #[false, false, false, false, false, false, false, false, false, false, false, false, false, false, false, false] (by kernel_rfl) rfl rfl ⟨e0, e1, e2, e3, e4, n3, m1⟩ (fun hHeld => ?_)
                  refine pure_ (i := 0) (N := some 142) (v := ?_) (a' := ?_) #[true, false, false, false, false, false, false, false, false, false, false, false, false, false, false, false] rfl rfl (by kernel_rfl) (fun _ _ _ h => h) (Or.inl ⟨by rfl, ?_⟩) ?_ ?_
                  rotate_left
                  · intro w'
                    go_simp
                    with_reducible rfl
                  rotate_left
                  · simp only [Act.put, List.setIfInBounds_toArray, List.set_cons_zero, List.set_cons_succ, i64_w, i32_w]
                    rfl
                  refine pure_ (i := 1) (N := some 143) (v := ?_) (a' := ?_) #[true, true, false, false, false, false, false, false, false, false, false, false, false, false, false, false] rfl rfl (by kernel_rfl) (fun _ _ _ h => h) (Or.inl ⟨by rfl, ?_⟩) ?_ ?_
                  rotate_left
                  · intro w'
                    go_simp
                    with_reducible rfl
                  rotate_left
                  · simp only [Act.put, List.setIfInBounds_toArray, List.set_cons_zero, List.set_cons_succ, i64_w, i32_w]
                    rfl
                  refine pure_ (i := 2) (N := some 144) (v := ?_) (a' := ?_) #[true, true, true, false, false, false, false, false, false, false, false, false, false, false, false, false] rfl rfl (by kernel_rfl) (fun _ _ _ h => h) (Or.inl ⟨by rfl, ?_⟩) ?_ ?_
                  rotate_left
                  · intro w'
                    go_simp
                    with_reducible rfl
                  rotate_left
                  · simp only [Act.put, List.setIfInBounds_toArray, List.set_cons_zero, List.set_cons_succ, i64_w, i32_w]
                    rfl
                  refine pure_ (i := 3) (N := some 145) (v := ?_) (a' := ?_) #[true, true, true, true, false, false, false, false, false, false, false, false, false, false, false, false] rfl rfl (by kernel_rfl) (fun _ _ _ h => h) (Or.inl ⟨by rfl, ?_⟩) ?_ ?_
                  rotate_left
                  · intro w'
                    go_simp
                    with_reducible rfl
                  rotate_left
                  · simp only [Act.put, List.setIfInBounds_toArray, List.set_cons_zero, List.set_cons_succ, i64_w, i32_w]
                    rfl
                  refine pure_ (i := 4) (N := some 146) (v := ?_) (a' := ?_) #[true, true, true, true, true, false, false, false, false, false, false, false, false, false, false, false] rfl rfl (by kernel_rfl) (fun _ _ _ h => h) (Or.inl ⟨by rfl, ?_⟩) ?_ ?_
                  rotate_left
                  · intro w'
                    go_simp
                    with_reducible rfl
                  rotate_left
                  · simp only [Act.put, List.setIfInBounds_toArray, List.set_cons_zero, List.set_cons_succ, i64_w, i32_w]
                    rfl
                  refine pure_ (i := 6) (N := some 148) (v := ?_) (a' := ?_) #[true, true, true, true, true, false, true, false, false, false, false, false, false, false, false, false] rfl rfl (by kernel_rfl) (fun _ _ _ h => h) (Or.inl ⟨by rfl, ?_⟩) ?_ ?_
                  rotate_left
                  · intro w'
                    go_simp
                    with_reducible rfl
                  rotate_left
                  · simp only [Act.put, List.setIfInBounds_toArray, List.set_cons_zero, List.set_cons_succ, i64_w, i32_w]
                    rfl
                  refine pure_ (i := 8) (N := some 150) (v := ?_) (a' := ?_) #[true, true, true, true, true, false, true, false, true, false, false, false, false, false, false, false] rfl rfl (by kernel_rfl) (fun _ _ _ h => h) (Or.inl ⟨by rfl, ?_⟩) ?_ ?_
                  rotate_left
                  · intro w'
                    go_simp
                    with_reducible rfl
                  rotate_left
                  · simp only [Act.put, List.setIfInBounds_toArray, List.set_cons_zero, List.set_cons_succ, i64_w, i32_w]
                    rfl
                  refine pure_ (i := 9) (N := some 151) (v := ?_) (a' := ?_) #[true, true, true, true, true, false, true, false, true, true, false, false, false, false, false, false] rfl rfl (by kernel_rfl) (fun _ _ _ h => h) (Or.inl ⟨by rfl, ?_⟩) ?_ ?_
                  rotate_left
                  · intro w'
                    go_simp
                    with_reducible rfl
                  rotate_left
                  · simp only [Act.put, List.setIfInBounds_toArray, List.set_cons_zero, List.set_cons_succ, i64_w, i32_w]
                    rfl
                  refine pure_ (i := 10) (N := some 152) (v := ?_) (a' := ?_) #[true, true, true, true, true, false, true, false, true, true, true, false, false, false, false, false] rfl rfl (by kernel_rfl) (fun _ _ _ h => h) (Or.inl ⟨by rfl, ?_⟩) ?_ ?_
                  rotate_left
                  · intro w'
                    go_simp
                    with_reducible rfl
                  rotate_left
                  · simp only [Act.put, List.setIfInBounds_toArray, List.set_cons_zero, List.set_cons_succ, i64_w, i32_w]
                    rfl
                  refine pure_ (i := 11) (N := some 153) (v := ?_) (a' := ?_) #[true, true, true, true, true, false, true, false, true, true, true, true, false, false, false, false] rfl rfl (by kernel_rfl) (fun _ _ _ h => h) (Or.inl ⟨by rfl, ?_⟩) ?_ ?_
                  rotate_left
                  · intro w'
                    go_simp
                    with_reducible rfl
                  rotate_left
                  · simp only [Act.put, List.setIfInBounds_toArray, List.set_cons_zero, List.set_cons_succ, i64_w, i32_w]
                    rfl
                  refine take_ (i := 5) (N := some 147) (v := ?_) (a' := ?_) #[true, true, true, true, true, true, true, false, true, true, true, true, false, false, false, false] rfl rfl (by kernel_rfl) (fun _ _ _ h => h) (Or.inl ⟨by rfl, ?_⟩) hHeld ?_ ?_
                  rotate_left
                  · rintro w' ⟨s0, s1, s2, s3, s4, s5, s6⟩
                    go_simp
                    with_reducible rfl
                  rotate_left
                  · simp only [Act.put, List.setIfInBounds_toArray, List.set_cons_zero, List.set_cons_succ, i64_w, i32_w]
                    rfl
                  refine take_ (i := 7) (N := some 149) (v := ?_) (a' := ?_) #[true, true, true, true, true, true, true, true, true, true, true, true, false, false, false, false] rfl rfl (by kernel_rfl) (fun _ _ _ h => h) (Or.inl ⟨by rfl, ?_⟩) hHeld ?_ ?_
                  rotate_left
                  · rintro w' ⟨s0, s1, s2, s3, s4, s5, s6⟩
                    go_simp
                    with_reducible rfl
                  rotate_left
                  · simp only [Act.put, List.setIfInBounds_toArray, List.set_cons_zero, List.set_cons_succ, i64_w, i32_w]
                    rfl
                  refine take_ (i := 12) (N := some 154) (v := ?_) (a' := ?_) #[true, true, true, true, true, true, true, true, true, true, true, true, true, false, false, false] rfl rfl (by kernel_rfl) (fun _ _ _ h => h) (Or.inl ⟨by rfl, ?_⟩) hHeld ?_ ?_
                  rotate_left
                  · rintro w' ⟨s0, s1, s2, s3, s4, s5, s6⟩
                    go_simp
                    with_reducible rfl
                  rotate_left
                  · simp only [Act.put, List.setIfInBounds_toArray, List.set_cons_zero, List.set_cons_succ, i64_w, i32_w]
                    rfl
                  refine one_ (i := 13) (N := some 155) #[true, true, true, true, true, true, true, true, true, true, true, true, true, true, false, false] rfl rfl (by kernel_rfl) (by decide) (fun K hK => ?_)
                  refine goes_ Try.func48 (by kernel_rfl) rfl #[.agg #[.slice none 0 0, .int .i64 f2, .int .i64 0, .slice none ([] : List Pr).length 0, .slice none 0 0], .int .i64 f3, .int .i64 gv] (by rfl) rfl rfl (by simp only [List.map_toArray, List.map_cons, List.map_nil]; rfl) ?_
                  with_reducible refine (HW.out).mono ?_
                  rintro e w10 ⟨A10, c10, bs10, rfl, hbs10, hr10, hb10⟩
                  refine ⟨_, rfl, ?_⟩
                  have HA10 := Lib.hid (HA9d.out.quiet (Fr.of_below hb10))
                  have fz := fun i => HA10.out.rf.o.frozenAt i
                  have k0 := ((hb10.cell (World.block_lt_of_cell? w9.drew _ e0)).trans e0)
                  have k1 := ((hb10.cell (World.block_lt_of_cell? w9.drew _ e1)).trans e1)
                  have k2 := ((hb10.cell (World.block_lt_of_cell? w9.drew _ e2)).trans e2)
                  have k3 := ((hb10.cell (World.block_lt_of_cell? w9.drew _ e3)).trans e3)
                  have k4 := ((hb10.cell (World.block_lt_of_cell? w9.drew _ e4)).trans e4)
                  have k5 := ((hb10.cell (World.block_lt_of_cell? w9.drew _ n3)).trans n3)
                  have k6 := ((hb10.cell (World.block_lt_of_cell? w9.drew _ m1)).trans m1)
                  have HR10 := Lib.hid hr10
                  have hz10 : w.heap.size ≤ bs10 := (by have := HA9d.out.rf.bel.size; rcases hbs10 with h | h <;> omega)
                  refine hK.out _ _ ⟨k0, k1, k2, k3, k4, k5, k6⟩ (fun hHeld => ?_)
                  clear hK K
                  refine norm_ (a' := ?_) ?_ ?_
                  rotate_left
                  · show Act.put _ (some 155) _ = _
                    simp only [Act.put, List.setIfInBounds_toArray, List.set_cons_zero, List.set_cons_succ, i64_w, i32_w]
                    rfl
                  refine pure_ (i := 14) (N := some 156) (v := ?_) (a' := ?_) #[true, true, true, true, true, true, true, true, true, true, true, true, true, true, true, false] rfl rfl (by kernel_rfl) (fun _ _ _ h => h) (Or.inl ⟨by rfl, ?_⟩) ?_ ?_
                  rotate_left
                  · intro w'
                    go_simp
                    with_reducible rfl
                  rotate_left
                  · simp only [Act.put, List.setIfInBounds_toArray, List.set_cons_zero, List.set_cons_succ, i64_w, i32_w]
                    rfl
                  refine last_ (i := 15) (N := none) #[true, true, true, true, true, true, true, true, true, true, true, true, true, true, true, true] rfl rfl (by kernel_rfl) (by decide) (fun K hK => ?_)
                  refine skip_ (w1 := ?_) (by rfl) rfl ?_ ?_
                  rotate_left
                  · go_simp
                    rfl
                  refine hK.out _ _ ?_
                  clear hK K
                  refine done_ (by kernel_rfl) ?_
                  clear hr10 hb10 hbs10
                  have HP := Lib.hid (HA10.out.rf.put O.length ha1 ⟨f2, LW, .slice A10 LW.length c10⟩ HEN.out.symm ⟨A10, c10, bs10, rfl, hz10, HR10.out⟩ (by show LW.length ≤ _; have h00 := List.length_nil (α := Pr); omega))
                  obtain ⟨bsc, hbc, hrc⟩ := HP.out.1.c
                  have HS := Lib.hid (rSet22 _ bsc _ _ cs (Nat.le_trans HP.out.1.csl (by decide)) hrc f3 f4)
                  have hbk : Blk (put5 w10 g1 O.length ⟨f2, LW, .slice A10 LW.length c10⟩) wo.heap.size #[.int .i64 f0, .int .i64 f1, .int .i64 f2, .int .i64 f3, .int .i64 f4] 29 := (HP.out.2.block _ HA10.out.blk.lt (fun e => own_ne HA10.out.rf.o HA10.out.blk (by decide) e.symm)).trans HA10.out.blk
                  have b3 := hbk.cell 3; have b4 := hbk.cell 4
                  simp at b3 b4
                  have hwz : w.heap.size ≤ (put5 w10 g1 O.length ⟨f2, LW, .slice A10 LW.length c10⟩).heap.size := HP.out.1.bel.size
                  clear hrc hbk
                  go_wp2_with fail
                  refine HS.out.mono ?_
                  rintro e w11 ⟨A11, c11, rfl, hr11, hq11⟩
                  have HR11 := Lib.hid hr11; have HP11 := Lib.hid (HP.out.1.quiet hq11)
                  clear hr11 hq11
                  go_wp2
                  go_roundw
                  case rel =>
                    refine ⟨i + 1, _, A11, c11, O1.set O.length ⟨f2, LW, .slice A10 LW.length c10⟩, g1, c1, ok, by omega, by go_num, rfl, rfl, by rw [List.length_set], ?_, ?_⟩
                    · exact Lib.hid (by rw [gL_set O1 O.length ha1 _ HA10.out.rf.un HEN.out.symm]; show repG _ _ (updO (gL O1) f2 LW) _ = _; rw [HGL.out LW]; exact HQ.out)
                    · exact Lib.hid (by rw [List.length_set]; exact (HP11.out.setc _ hwz HR11.out (cSet_len _ _ _)))
                  case measure => simp [intOf]; omega
                · rw [hat]
                  have HA9 := HA7d
                  have HGL : True := trivial
                  have hg1 := gL_at O HA7d.out.rf.un a1 ha1
                  rw [hen1] at hg1
                  rw [hg1] at HQ
                  obtain ⟨Au, cu, bsu, hv1, hbu, hru0⟩ := HA7d.out.rf.u O[a1] (List.getElem_mem ha1)
                  have hru1 : R22 w7.drew.drew bsu (.slice Au O[a1].u.length cu) O[a1].u := by rw [← hv1]; exact R22.quiet hru0 ((Fr.refl _ w7.drew).drew)
                  have hlu := HA7d.out.rf.ul O[a1] (List.getElem_mem ha1)
                  generalize O[a1].u = Lu at *
                  clear hat hg1 hru0 HA7d
                  go_wp2
                  go_region
                  generalize w7.drew = w9 at HA9 hru1 ⊢
                  have HA9d := Lib.hid (HA9.out.quiet ((Fr.refl _ w9).drew))
                  obtain ⟨e0, e1, e2, e3, e4⟩ := HA9.out.rf.at a1 ha1
                  rw [hen1] at e1
                  rw [hv1] at e3
                  have n0 := HA9.out.blk.cell 0; have n2 := HA9.out.blk.cell 2; have n3 := HA9.out.blk.cell 3; have n4 := HA9.out.blk.cell 4
                  simp at n0 n2 n3 n4
                  obtain ⟨bsA, hbA, hrA⟩ := HA9.out.rf.c
                  obtain ⟨AA, cA, eA, hcA, hCA⟩ := hrA.reads
                  injection eA with eA1 _ eA2
                  subst eA1 eA2
                  obtain ⟨adA, eAA, m0, m1⟩ := at_T76 hCA (p : Int) (by omega) (by rw [allL_len]; omega)
                  cases eAA
                  rw [rd_allL cs p hp] at m1
                  simp only [Int.toNat_natCast] at m1
                  rw [show cs[p].2.2 = gv from by rw [HGV.out, cAt_lt cs p hp]] at m1
                  have HW := Lib.hid (wGWrote w9.drew bsu Au cu Lu hru1 (by omega) f2 f3 gv)
                  unfold gA at HW
                  obtain ⟨LW, hLW⟩ : ∃ z, z = wroteL Lu f3 gv := ⟨_, rfl⟩
                  rw [← hLW] at HW HQ
                  have hlw : LW.length ≤ Lu.length + 1 := by rw [hLW]; exact wroteL_len _ _ _
                  have HEN := Lib.hid hen1
                  clear hLW hen1 hv1 hrA hCA hru1 m0
                  go_upto_region 28 with fail
                  refine start_ (n := 16) (S := fun w' => w'.cell? ⟨g8, a1 * 5, none⟩ = some (.slice none 0 0) ∧ w'.cell? ⟨g8, a1 * 5 + 1, none⟩ = some (.int .i64 f2) ∧ w'.cell? ⟨g8, a1 * 5 + 2, none⟩ = some (.int .i64 0) ∧ w'.cell? ⟨g8, a1 * 5 + 3, none⟩ = some (.slice Au Lu.length cu) ∧ w'.cell? ⟨g8, a1 * 5 + 4, none⟩ = some (.slice none 0 0) ∧ w'.cell? ⟨wo.heap.size, 3, none⟩ = some (.int .i64 f3) ∧ w'.cell? ⟨(ad7.add (p * 2)).block, (ad7.add (p * 2)).off + 1, none⟩ = some (.int .i64 gv)) (ds := [15]) #[false, false, false, false, false, false, false, false, false, false, false, false, false, false, false, false] (by kernel_rfl) rfl rfl ⟨e0, e1, e2, e3, e4, n3, m1⟩ (fun hHeld => ?_)
                  refine pure_ (i := 0) (N := some 142) (v := ?_) (a' := ?_) #[true, false, false, false, false, false, false, false, false, false, false, false, false, false, false, false] rfl rfl (by kernel_rfl) (fun _ _ _ h => h) (Or.inl ⟨by rfl, ?_⟩) ?_ ?_
                  rotate_left
                  · intro w'
                    go_simp
                    with_reducible rfl
                  rotate_left
                  · simp only [Act.put, List.setIfInBounds_toArray, List.set_cons_zero, List.set_cons_succ, i64_w, i32_w]
                    rfl
                  refine pure_ (i := 1) (N := some 143) (v := ?_) (a' := ?_) #[true, true, false, false, false, false, false, false, false, false, false, false, false, false, false, false] rfl rfl (by kernel_rfl) (fun _ _ _ h => h) (Or.inl ⟨by rfl, ?_⟩) ?_ ?_
                  rotate_left
                  · intro w'
                    go_simp
                    with_reducible rfl
                  rotate_left
                  · simp only [Act.put, List.setIfInBounds_toArray, List.set_cons_zero, List.set_cons_succ, i64_w, i32_w]
                    rfl
                  refine pure_ (i := 2) (N := some 144) (v := ?_) (a' := ?_) #[true, true, true, false, false, false, false, false, false, false, false, false, false, false, false, false] rfl rfl (by kernel_rfl) (fun _ _ _ h => h) (Or.inl ⟨by rfl, ?_⟩) ?_ ?_
                  rotate_left
                  · intro w'
                    go_simp
                    with_reducible rfl
                  rotate_left
                  · simp only [Act.put, List.setIfInBounds_toArray, List.set_cons_zero, List.set_cons_succ, i64_w, i32_w]
                    rfl
                  refine pure_ (i := 3) (N := some 145) (v := ?_) (a' := ?_) #[true, true, true, true, false, false, false, false, false, false, false, false, false, false, false, false] rfl rfl (by kernel_rfl) (fun _ _ _ h => h) (Or.inl ⟨by rfl, ?_⟩) ?_ ?_
                  rotate_left
                  · intro w'
                    go_simp
                    with_reducible rfl
                  rotate_left
                  · simp only [Act.put, List.setIfInBounds_toArray, List.set_cons_zero, List.set_cons_succ, i64_w, i32_w]
                    rfl
                  refine pure_ (i := 4) (N := some 146) (v := ?_) (a' := ?_) #[true, true, true, true, true, false, false, false, false, false, false, false, false, false, false, false] rfl rfl (by kernel_rfl) (fun _ _ _ h => h) (Or.inl ⟨by rfl, ?_⟩) ?_ ?_
                  rotate_left
                  · intro w'
                    go_simp
                    with_reducible rfl
                  rotate_left
                  · simp only [Act.put, List.setIfInBounds_toArray, List.set_cons_zero, List.set_cons_succ, i64_w, i32_w]
                    rfl
                  refine pure_ (i := 6) (N := some 148) (v := ?_) (a' := ?_) #[true, true, true, true, true, false, true, false, false, false, false, false, false, false, false, false] rfl rfl (by kernel_rfl) (fun _ _ _ h => h) (Or.inl ⟨by rfl, ?_⟩) ?_ ?_
                  rotate_left
                  · intro w'
                    go_simp
                    with_reducible rfl
                  rotate_left
                  · simp only [Act.put, List.setIfInBounds_toArray, List.set_cons_zero, List.set_cons_succ, i64_w, i32_w]
                    rfl
                  refine pure_ (i := 8) (N := some 150) (v := ?_) (a' := ?_) #[true, true, true, true, true, false, true, false, true, false, false, false, false, false, false, false] rfl rfl (by kernel_rfl) (fun _ _ _ h => h) (Or.inl ⟨by rfl, ?_⟩) ?_ ?_
                  rotate_left
                  · intro w'
                    go_simp
                    with_reducible rfl
                  rotate_left
                  · simp only [Act.put, List.setIfInBounds_toArray, List.set_cons_zero, List.set_cons_succ, i64_w, i32_w]
                    rfl
                  refine pure_ (i := 9) (N := some 151) (v := ?_) (a' := ?_) #[true, true, true, true, true, false, true, false, true, true, false, false, false, false, false, false] rfl rfl (by kernel_rfl) (fun _ _ _ h => h) (Or.inl ⟨by rfl, ?_⟩) ?_ ?_
                  rotate_left
                  · intro w'
                    go_simp
                    with_reducible rfl
                  rotate_left
                  · simp only [Act.put, List.setIfInBounds_toArray, List.set_cons_zero, List.set_cons_succ, i64_w, i32_w]
                    rfl
                  refine pure_ (i := 10) (N := some 152) (v := ?_) (a' := ?_) #[true, true, true, true, true, false, true, false, true, true, true, false, false, false, false, false] rfl rfl (by kernel_rfl) (fun _ _ _ h => h) (Or.inl ⟨by rfl, ?_⟩) ?_ ?_
                  rotate_left
                  · intro w'
                    go_simp
                    with_reducible rfl
                  rotate_left
                  · simp only [Act.put, List.setIfInBounds_toArray, List.set_cons_zero, List.set_cons_succ, i64_w, i32_w]
                    rfl
                  refine pure_ (i := 11) (N := some 153) (v := ?_) (a' := ?_) #[true, true, true, true, true, false, true, false, true, true, true, true, false, false, false, false] rfl rfl (by kernel_rfl) (fun _ _ _ h => h) (Or.inl ⟨by rfl, ?_⟩) ?_ ?_
                  rotate_left
                  · intro w'
                    go_simp
                    with_reducible rfl
                  rotate_left
                  · simp only [Act.put, List.setIfInBounds_toArray, List.set_cons_zero, List.set_cons_succ, i64_w, i32_w]
                    rfl
                  refine take_ (i := 5) (N := some 147) (v := ?_) (a' := ?_) #[true, true, true, true, true, true, true, false, true, true, true, true, false, false, false, false] rfl rfl (by kernel_rfl) (fun _ _ _ h => h) (Or.inl ⟨by rfl, ?_⟩) hHeld ?_ ?_
                  rotate_left
                  · rintro w' ⟨s0, s1, s2, s3, s4, s5, s6⟩
                    go_simp
                    with_reducible rfl
                  rotate_left
                  · simp only [Act.put, List.setIfInBounds_toArray, List.set_cons_zero, List.set_cons_succ, i64_w, i32_w]
                    rfl
                  refine take_ (i := 7) (N := some 149) (v := ?_) (a' := ?_) #[true, true, true, true, true, true, true, true, true, true, true, true, false, false, false, false] rfl rfl (by kernel_rfl) (fun _ _ _ h => h) (Or.inl ⟨by rfl, ?_⟩) hHeld ?_ ?_
                  rotate_left
                  · rintro w' ⟨s0, s1, s2, s3, s4, s5, s6⟩
                    go_simp
                    with_reducible rfl
                  rotate_left
                  · simp only [Act.put, List.setIfInBounds_toArray, List.set_cons_zero, List.set_cons_succ, i64_w, i32_w]
                    rfl
                  refine take_ (i := 12) (N := some 154) (v := ?_) (a' := ?_) #[true, true, true, true, true, true, true, true, true, true, true, true, true, false, false, false] rfl rfl (by kernel_rfl) (fun _ _ _ h => h) (Or.inl ⟨by rfl, ?_⟩) hHeld ?_ ?_
                  rotate_left
                  · rintro w' ⟨s0, s1, s2, s3, s4, s5, s6⟩
                    go_simp
                    with_reducible rfl
                  rotate_left
                  · simp only [Act.put, List.setIfInBounds_toArray, List.set_cons_zero, List.set_cons_succ, i64_w, i32_w]
                    rfl
                  refine one_ (i := 13) (N := some 155) #[true, true, true, true, true, true, true, true, true, true, true, true, true, true, false, false] rfl rfl (by kernel_rfl) (by decide) (fun K hK => ?_)
                  refine goes_ Try.func48 (by kernel_rfl) rfl #[.agg #[.slice none 0 0, .int .i64 f2, .int .i64 0, .slice Au Lu.length cu, .slice none 0 0], .int .i64 f3, .int .i64 gv] (by rfl) rfl rfl (by simp only [List.map_toArray, List.map_cons, List.map_nil]; rfl) ?_
                  with_reducible refine (HW.out).mono ?_
                  rintro e w10 ⟨A10, c10, bs10, rfl, hbs10, hr10, hb10⟩
                  refine ⟨_, rfl, ?_⟩
                  have HA10 := Lib.hid (HA9d.out.quiet (Fr.of_below hb10))
                  have fz := fun i => HA10.out.rf.o.frozenAt i
                  have k0 := ((hb10.cell (World.block_lt_of_cell? w9.drew _ e0)).trans e0)
                  have k1 := ((hb10.cell (World.block_lt_of_cell? w9.drew _ e1)).trans e1)
                  have k2 := ((hb10.cell (World.block_lt_of_cell? w9.drew _ e2)).trans e2)
                  have k3 := ((hb10.cell (World.block_lt_of_cell? w9.drew _ e3)).trans e3)
                  have k4 := ((hb10.cell (World.block_lt_of_cell? w9.drew _ e4)).trans e4)
                  have k5 := ((hb10.cell (World.block_lt_of_cell? w9.drew _ n3)).trans n3)
                  have k6 := ((hb10.cell (World.block_lt_of_cell? w9.drew _ m1)).trans m1)
                  have HR10 := Lib.hid hr10
                  have hz10 : w.heap.size ≤ bs10 := (by have := HA9d.out.rf.bel.size; rcases hbs10 with h | h <;> omega)
                  refine hK.out _ _ ⟨k0, k1, k2, k3, k4, k5, k6⟩ (fun hHeld => ?_)
                  clear hK K
                  refine norm_ (a' := ?_) ?_ ?_
                  rotate_left
                  · show Act.put _ (some 155) _ = _
                    simp only [Act.put, List.setIfInBounds_toArray, List.set_cons_zero, List.set_cons_succ, i64_w, i32_w]
                    rfl
                  refine pure_ (i := 14) (N := some 156) (v := ?_) (a' := ?_) #[true, true, true, true, true, true, true, true, true, true, true, true, true, true, true, false] rfl rfl (by kernel_rfl) (fun _ _ _ h => h) (Or.inl ⟨by rfl, ?_⟩) ?_ ?_
                  rotate_left
                  · intro w'
                    go_simp
                    with_reducible rfl
                  rotate_left
                  · simp only [Act.put, List.setIfInBounds_toArray, List.set_cons_zero, List.set_cons_succ, i64_w, i32_w]
                    rfl
                  refine last_ (i := 15) (N := none) #[true, true, true, true, true, true, true, true, true, true, true, true, true, true, true, true] rfl rfl (by kernel_rfl) (by decide) (fun K hK => ?_)
                  refine skip_ (w1 := ?_) (by rfl) rfl ?_ ?_
                  rotate_left
                  · go_simp
                    rfl
                  refine hK.out _ _ ?_
                  clear hK K
                  refine done_ (by kernel_rfl) ?_
                  clear hr10 hb10 hbs10
                  have HP := Lib.hid (HA10.out.rf.put a1 ha1 ⟨f2, LW, .slice A10 LW.length c10⟩ HEN.out.symm ⟨A10, c10, bs10, rfl, hz10, HR10.out⟩ (by show LW.length ≤ _; have h00 := List.length_nil (α := Pr); omega))
                  obtain ⟨bsc, hbc, hrc⟩ := HP.out.1.c
                  have HS := Lib.hid (rSet22 _ bsc _ _ cs (Nat.le_trans HP.out.1.csl (by decide)) hrc f3 f4)
                  have hbk : Blk (put5 w10 g8 a1 ⟨f2, LW, .slice A10 LW.length c10⟩) wo.heap.size #[.int .i64 f0, .int .i64 f1, .int .i64 f2, .int .i64 f3, .int .i64 f4] 29 := (HP.out.2.block _ HA10.out.blk.lt (fun e => own_ne HA10.out.rf.o HA10.out.blk (by decide) e.symm)).trans HA10.out.blk
                  have b3 := hbk.cell 3; have b4 := hbk.cell 4
                  simp at b3 b4
                  have hwz : w.heap.size ≤ (put5 w10 g8 a1 ⟨f2, LW, .slice A10 LW.length c10⟩).heap.size := HP.out.1.bel.size
                  clear hrc hbk
                  go_wp2_with fail
                  refine HS.out.mono ?_
                  rintro e w11 ⟨A11, c11, rfl, hr11, hq11⟩
                  have HR11 := Lib.hid hr11; have HP11 := Lib.hid (HP.out.1.quiet hq11)
                  clear hr11 hq11
                  go_wp2
                  go_roundw
                  case rel =>
                    refine ⟨i + 1, _, A11, c11, O.set a1 ⟨f2, LW, .slice A10 LW.length c10⟩, g8, c8, ok, by omega, by go_num, rfl, rfl, by rw [List.length_set], ?_, ?_⟩
                    · exact Lib.hid (by rw [gL_set O a1 ha1 _ HA10.out.rf.un HEN.out.symm]; show repG _ _ (updO (gL O) f2 LW) _ = _; exact HQ.out)
                    · exact Lib.hid (by rw [List.length_set]; exact (HP11.out.setc _ hwz HR11.out (cSet_len _ _ _)).next)
                  case measure => simp [intOf]; omega
            · have c2b : decide (f2 > 0) = false := by simpa using c2
              clear hend
              go_wp2_with fail
              refine HE.out.mono ?_
              rintro e w6 ⟨rfl, hb6⟩
              have HA6 := Lib.hid (HA.out.quiet (Fr.of_below hb6))
              have z0 := HA6.out.blk.cell 0; have z2 := HA6.out.blk.cell 2; have z3 := HA6.out.blk.cell 3; have z4 := HA6.out.blk.cell 4
              simp at z0 z2 z3 z4
              clear hb6 HE HA y0 y1 y2 y3 y4
              cases ia
              case false =>
                rw [if_neg (by simp)] at HQ
                go_wp2
                go_roundw
                case rel => exact ⟨i + 1, cs, A6, c6, O, g8, c8, ok, by omega, by go_num, rfl, rfl, rfl, HQ, Lib.hid HA6.out.rf.next.next⟩
                case measure => simp [intOf]; omega
              rw [if_pos rfl] at HQ
              obtain ⟨bs6, hb6, hr6⟩ := HA6.out.rf.c
              have HF := Lib.hid (rFind22 w6 bs6 A6 c6 cs (Nat.le_trans HA6.out.rf.csl (by decide)) hr6 f3)
              clear hr6
              cases hfx : fidx f3 cs with
              | none =>
                obtain ⟨k1, k2⟩ := fI_none hfx
                rw [k1] at HF
                rw [k2] at HQ
                rw [if_pos rfl] at HQ
                clear k1 k2
                go_wp2_with fail
                refine HF.out.mono ?_
                rintro e w7 ⟨rfl, hq7⟩
                have HA7 := Lib.hid (HA6.out.quiet hq7)
                have v0 := HA7.out.blk.cell 0; have v2 := HA7.out.blk.cell 2; have v3 := HA7.out.blk.cell 3; have v4 := HA7.out.blk.cell 4
                simp at v0 v2 v3 v4
                clear hq7 HF HA6 z0 z2 z3 z4
                go_wp2
                go_region
                go_wp2
                go_roundw
                case rel => exact ⟨i + 1, cs, _, _, O, g8, c8, false, by omega, by go_num, rfl, rfl, rfl, HQ, Lib.hid (HA7.out.quiet ((Fr.refl _ w7).drew)).rf.next.next⟩
                case measure => simp [intOf]; omega
              | some p =>
                obtain ⟨k1, k2⟩ := fI_some hfx
                obtain ⟨hp, _⟩ := fidx_lt f3 cs p hfx
                rw [k1] at HF
                rw [k2] at HQ
                rw [if_neg (by simp)] at HQ
                obtain ⟨gv, hgv⟩ : ∃ z, z = (cAt cs p).2.2 := ⟨_, rfl⟩
                dsimp only at HQ
                rw [← hgv] at HQ
                have HGV := Lib.hid hgv
                clear hgv
                clear k1 k2
                go_wp2_with fail
                refine HF.out.mono ?_
                rintro e w7 ⟨rfl, hq7⟩
                have HA7 := Lib.hid (HA6.out.quiet hq7)
                have v0 := HA7.out.blk.cell 0; have v2 := HA7.out.blk.cell 2; have v3 := HA7.out.blk.cell 3; have v4 := HA7.out.blk.cell 4
                simp at v0 v2 v3 v4
                obtain ⟨bs7, hb7, hr7⟩ := HA7.out.rf.c
                obtain ⟨A7, c7, e7, hc7, hC7⟩ := hr7.reads
                injection e7 with e71 _ e72
                subst e71 e72
                obtain ⟨ad7, eA7, m0, m1⟩ := at_T76 hC7 (p : Int) (by omega) (by rw [allL_len]; omega)
                cases eA7
                rw [rd_allL cs p hp] at m1
                simp only [Int.toNat_natCast] at m1
                rw [show cs[p].2.2 = gv from by rw [HGV.out, cAt_lt cs p hp]] at m1
                have hpb : decide ((p : Int) < 0) = false := decide_eq_false (by omega)
                have hpl : p < (allL cs).length := by rw [allL_len]; exact hp
                clear hq7 hr7 hC7 m0 HF HA6 z0 z2 z3 z4
                by_cases c1 : f0 = 1
                · rw [if_pos c1] at HQ
                  have c11 : (f0 == 1) = true := by simp [c1]
                  by_cases c5 : gv = f4
                  · have c51 : (gv != f4) = false := by simp [c5]
                    have c52 : (gv == f4) = true := by simp [c5]
                    rw [c52, Bool.and_true] at HQ
                    clear c1 c5 c52
                    go_wp2
                    go_region
                    go_wp2
                    go_roundw
                    case rel => exact ⟨i + 1, cs, _, _, O, g8, c8, ok, by omega, by go_num, rfl, rfl, rfl, HQ, Lib.hid (HA7.out.quiet ((Fr.refl _ w7).drew)).rf.next.next⟩
                    case measure => simp [intOf]; omega
                  · have c51 : (gv != f4) = true := by simp [c5]
                    have c52 : (gv == f4) = false := by simp [c5]
                    rw [c52, Bool.and_false] at HQ
                    clear c1 c5 c52
                    go_wp2
                    go_region
                    go_wp2
                    go_roundw
                    case rel => exact ⟨i + 1, cs, _, _, O, g8, c8, false, by omega, by go_num, rfl, rfl, rfl, HQ, Lib.hid (HA7.out.quiet ((Fr.refl _ w7).drew)).rf.next.next⟩
                    case measure => simp [intOf]; omega
                rw [if_neg c1] at HQ
                have c11 : (f0 == 1) = false := by simp [c1]
                clear c1
                rw [if_neg (Int.not_lt.2 c2)] at HQ
                have HA7d := Lib.hid (HA7.out.quiet ((Fr.refl _ w7).drew))
                obtain ⟨bsc, hbc, hrc⟩ := HA7d.out.rf.c
                have HS := Lib.hid (rSet22 w7.drew bsc _ _ cs (Nat.le_trans HA7d.out.rf.csl (by decide)) hrc f3 f4)
                have hwz : w.heap.size ≤ w7.drew.heap.size := HA7d.out.rf.bel.size
                clear hrc
                go_wp2
                go_region
                go_wp2_with fail
                refine HS.out.mono ?_
                rintro e w8 ⟨A8, c8', rfl, hr8, hq8⟩
                have HR8 := Lib.hid hr8; have HA8 := Lib.hid (HA7d.out.quiet hq8)
                clear hr8 hq8
                go_wp2
                go_roundw
                case rel => exact ⟨i + 1, _, A8, c8', O, g8, c8, ok, by omega, by go_num, rfl, rfl, rfl, HQ, Lib.hid (HA8.out.rf.setc _ hwz HR8.out (cSet_len _ _ _)).next.next⟩
                case measure => simp [intOf]; omega
    · have e : i = l.length := by omega
      have hq := HQ.out
      rw [List.drop_of_length_le (by omega)] at hq
      simp only [repG] at hq
      have HQ2 := Lib.hid hq
      obtain ⟨bs, hb, hr⟩ := HR.out.c
      have HB := Lib.hid HR.out.bel
      have HR2 := Lib.hid hr
      clear hq HR HQ hr
      go_wp2
      go_ret2
      rw [← HQ2.out]
      exact ⟨_, bs, rfl, hb, HR2.out, HB.out⟩
end Go.Proofs.Ytadepdeckapgcaa.Hi
end
