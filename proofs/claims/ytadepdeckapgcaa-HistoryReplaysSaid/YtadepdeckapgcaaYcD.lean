/- LawHistoryReplays, part 4: what the proof stands on (merged by wip/shake.py out of the session's texts and of what the print wrote for this claim). -/
import Derived.Test.YtadepdeckapgcaaYcC

section
namespace Go.Proofs.Ytadepdeckapgcaa.Hi
open Go.Proofs.Ytadepdeckapgcaa Go.RowKit Go.Maps Go.Proofs.YtadepdeckapgcaaW.PrintWords Go.Proofs.YtadepdeckapgcaaW.PrintLast Go.Proofs.YtadepdeckapgcaaW.PrintMore Go.Proofs.Ytadepdeckapgcaa.PHj Go.Proofs.Ytadepdeckapgcaa.PHi
open Go.ChangeMaps Go.MapKept
set_option linter.unusedVariables false
set_option linter.unusedSimpArgs false
set_option maxRecDepth 100000 in
set_option maxHeartbeats 8000000 in
theorem wReplay (w : World) (v : Value) (d : List De22) (hd : d.length ≤ 60) (hD : D22 w v d) (A : Option Addr) (c : Nat) (l : List Mk) (hC : Kd.C k29 w A l.length l) (hl : l.length ≤ 1000000) (hm : ∀ m ∈ l, inM m) :
    Calls Try.prog 17 #[v, .slice A l.length c] w fun e w' => ∃ v' bs, e = .returned (.tuple #[v', .bool (repG l (newOf d) (fun _ => []) true).2]) ∧ w.heap.size ≤ bs ∧ R22 w' bs v' (allL (repG l (newOf d) (fun _ => []) true).1) ∧ (repG l (newOf d) (fun _ => []) true).1.length ≤ 60 ∧ Quiet w w' := by
  have hmm := @run_makeMap Try.prog
  have HC := Lib.hid hC
  have HM := Lib.hid hm
  have HN := Lib.hid (ceNewD w v d hd hD)
  have hnl := newOf_len d
  clear hC hm hD
  go_enter Try.func17, Try.ntmps17
  go_wp2_with fail
  refine HN.out.mono ?_
  rintro e w1 ⟨rfl, hce, hq1⟩
  have HR0 : Hid (RpAt w w1.heap.size 0 (newOf d) (fun _ => none) #[] 0 (fun _ => 0) (fun _ => .slice none 0 0) (w1.alloc (.map #[] 0))) := Lib.hid {
    ce := hce.quiet ((Fr.refl _ _).alloc _)
    lm := LM.made _ _
    bel := hq1.alloc _
    csl := by omega
    len := fun k L e => by cases e
    pos := fun _ _ => rfl
    at_ := hq1.size }
  generalize hbm : w1.heap.size = bm at *
  clear HN hce
  go_wp2
  go_loopw [20, 8] (fun v20 v8 wr => ∃ (i : Nat) (cs : Cs) (lg : Int → Option (List Pr)) (es : Array MapEntry) (ck : Nat) (P : Int → Nat) (U : Int → Value) (ok : Bool), i ≤ l.length ∧ v20 = .int .i64 i ∧ v8 = .bool ok ∧ Hid (repG (l.drop i) cs (gOf lg) ok = repG l (newOf d) (fun _ => []) true) ∧ Hid (RpAt w bm i cs lg es ck P U wr)) (fun v20 _ _ => l.length - (intOf v20).toNat)
  case atStart => exact ⟨0, _, _, _, _, _, _, _, Nat.zero_le _, rfl, rfl, Lib.hid rfl, HR0⟩
  case round =>
    obtain ⟨i, cs, lg, es, ck, P, U, ok, hi, rfl, rfl, HQ, HR⟩ := hrel
    clear HR0
    by_cases hlt : i < l.length
    · obtain ⟨ad, eA, x0, x1, x2, x3, x4⟩ := at_T29 HC.out (i : Int) (by omega) (by omega)
      cases eA
      have hr : rd_T29 l (i : Int) = l[i] := by unfold rd_T29; simp [hlt]
      rw [hr] at x0 x1 x2 x3 x4
      simp only [Int.toNat_natCast] at x0 x1 x2 x3 x4
      have hmi := HM.out _ (List.getElem_mem hlt)
      have hq := HQ.out
      have hbel := HR.out.bel
      have hbq : Below w.heap.size w wr := hbel.below (fun _ _ q => q)
      rw [List.drop_eq_getElem_cons hlt] at hq
      generalize l[i] = m at x0 x1 x2 x3 x4 hmi hq
      obtain ⟨f0, f1, f2, f3, f4⟩ := m
      dsimp only at x0 x1 x2 x3 x4
      replace x0 := (hbq.cell (World.block_lt_of_cell? w _ x0)).trans x0
      replace x1 := (hbq.cell (World.block_lt_of_cell? w _ x1)).trans x1
      replace x2 := (hbq.cell (World.block_lt_of_cell? w _ x2)).trans x2
      replace x3 := (hbq.cell (World.block_lt_of_cell? w _ x3)).trans x3
      replace x4 := (hbq.cell (World.block_lt_of_cell? w _ x4)).trans x4
      obtain ⟨ms, hms⟩ : ∃ z : Array Value, z = #[.int .i64 f0, .int .i64 f1, .int .i64 f2, .int .i64 f3, .int .i64 f4] := ⟨_, rfl⟩
      have HE := Lib.hid (wEnd (wr.alloc (.cells ms 29)) ⟨f0, f1, f2, f3, f4⟩)
      have HR1 := Lib.hid (HR.out.quiet ((Fr.refl _ wr).alloc (.cells ms 29)))
      have HN := Lib.hid (Blk.new wr ms 29)
      rw [hms] at HE HR1 HN
      simp only [repG] at hq
      clear HQ
      have HQ := Lib.hid hq
      have hbw : w.heap.size ≤ wr.heap.size := hbel.size
      clear hq hbel hbq hr HR hms
      generalize isEnd ⟨f0, f1, f2, f3, f4⟩ = ie at HE HQ
      go_wp2_with fail
      refine HE.out.mono ?_
      rintro e w5 ⟨rfl, hb5⟩
      have HR5 := Lib.hid (HR1.out.quiet (Fr.of_below hb5))
      have hblk : Blk w5 wr.heap.size #[.int .i64 f0, .int .i64 f1, .int .i64 f2, .int .i64 f3, .int .i64 f4] 29 := (hb5.block _ (by simp)).trans HN.out
      have HBLK := Lib.hid hblk
      have y0 := hblk.cell 0; have y1 := hblk.cell 1; have y2 := hblk.cell 2; have y3 := hblk.cell 3; have y4 := hblk.cell 4
      simp at y0 y1 y2 y3 y4
      generalize wr.heap.size = pm at *
      clear hblk hb5 HE HN HR1 x0 x1 x2 x3 x4
      cases ie
      case true =>
        rw [if_pos rfl] at HQ
        by_cases c4 : f0 = 4
        case neg =>
          have c41 : (f0 == 4) = false := by simp [c4]
          rw [if_neg c4] at HQ
          obtain ⟨w6, es2, hdel, hR6⟩ := HR5.out.drop f2 hmi.2.2.1
          have HR6 := Lib.hid hR6
          clear hR6 c4
          go_wp2
          go_roundw
          case rel => exact ⟨i + 1, _, _, _, _, _, _, _, by omega, by go_num, rfl, Lib.hid (by rw [gOf_drop]; exact HQ.out), HR6⟩
          case measure => simp [intOf]; omega
        case pos =>
          have c41 : (f0 == 4) = true := by simp [c4]
          rw [if_pos c4] at HQ
          obtain ⟨pv, hlook, hU⟩ := HR5.out.undo (by omega) f2 hmi.2.2.1
          have hgl := HR5.out.glen f2
          have hlk := hlook w5 rfl
          have HU := Lib.hid hU
          clear hU hlook
          go_wp2_with fail
          refine HU.out.mono ?_
          rintro e w6 ⟨A6, c6, rfl, hr6, hb6⟩
          obtain ⟨Lr, hLr⟩ : ∃ z, z = (gOf lg f2).reverse := ⟨_, rfl⟩
          rw [← hLr] at hr6 HQ ⊢
          have hlrl : Lr.length ≤ i := by rw [hLr, List.length_reverse]; exact hgl
          clear hLr HU
          have HI0 : Hid (InAt w bm i cs lg es ck P U Lr (.slice A6 Lr.length c6) w5.heap.size pm #[.int .i64 f0, .int .i64 f1, .int .i64 f2, .int .i64 f3, .int .i64 f4] 0 cs w6) := Lib.hid {
            eq := rfl
            rp := HR5.out.quiet (Fr.of_below hb6)
            row := hr6
            blk := (hb6.block _ HBLK.out.lt).trans HBLK.out }
          generalize w5.heap.size = bs at *
          clear HR5 HBLK y0 y1 y2 y3 y4 hr6 hb6 hlk
          go_wp2
          go_loopw [35] (fun v35 wi => ∃ (j : Nat) (cs2 : Cs), j ≤ Lr.length ∧ v35 = .int .i64 j ∧ Hid (InAt w bm i cs lg es ck P U Lr (.slice A6 Lr.length c6) bs pm #[.int .i64 f0, .int .i64 f1, .int .i64 f2, .int .i64 f3, .int .i64 f4] j cs2 wi)) (fun v35 _ => Lr.length - (intOf v35).toNat)
          case atStart => exact ⟨0, cs, Nat.zero_le _, rfl, HI0⟩
          case round =>
            clear HI0
            obtain ⟨j, cs2, hj, rfl, HI⟩ := hrel
            by_cases hjl : j < Lr.length
            · obtain ⟨A7, c7, e7, hc7, hC7⟩ := Kd.R_reads HI.out.row
              injection e7 with e7 _ e8
              subst e7 e8
              obtain ⟨ad7, eA7, z0, z1⟩ := at_T76 hC7 (j : Int) (by omega) (by omega)
              cases eA7
              have hr7 : rd_T76 Lr (j : Int) = Lr[j] := by unfold rd_T76; simp [hjl]
              rw [hr7] at z0 z1
              simp only [Int.toNat_natCast] at z0 z1
              have hsq := HI.out.eq
              rw [List.drop_eq_getElem_cons hjl] at hsq
              generalize Lr[j] = x at z0 z1 hsq
              obtain ⟨g0, g1⟩ := x
              dsimp only at z0 z1
              simp only [setAll] at hsq
              obtain ⟨bx, hbx⟩ : ∃ z : Array Value, z = #[.int .i64 g0, .int .i64 g1] := ⟨_, rfl⟩
              have hqa : Quiet wr (wr.alloc (.cells bx 62)) := (Fr.refl _ wr).alloc _
              have HI1 := Lib.hid (HI.out.rp.quiet hqa)
              have HS := Lib.hid (ceSet HI1.out.ce (Nat.le_trans HI1.out.csl (by decide)) g0 g1)
              have HRW := Lib.hid (Kd.R_below HI.out.row ((Below.refl wr.heap.size wr).alloc (Nat.le_refl _) (.cells bx 62)))
              have HBK := Lib.hid (HI.out.blk.alloc (.cells bx 62))
              rw [hbx] at HI1 HS HRW HBK
              have HSQ := Lib.hid hsq
              clear hC7 hsq hbx hqa HI hr7
              go_wp2_with fail
              refine HS.out.mono ?_
              rintro e w8 ⟨rfl, hce8, htf8⟩
              have HI8 : Hid (InAt w bm i cs lg es ck P U Lr (.slice _ Lr.length c6) bs pm #[.int .i64 f0, .int .i64 f1, .int .i64 f2, .int .i64 f3, .int .i64 f4] (j + 1) (cSet g0 g1 cs2).1 w8) := Lib.hid {
                eq := HSQ.out
                rp := HI1.out.set hce8 (cSet_len _ _ _) htf8
                row := Pr_tfr HRW.out htf8
                blk := htf8.blk HBK.out (by decide) }
              clear hce8 htf8 HS HI1 HRW HBK HSQ
              go_wp2
              go_roundw
              case rel => exact ⟨j + 1, _, by omega, by go_num, HI8⟩
              case measure => simp [intOf]; omega
            · have ej : j = Lr.length := by omega
              have hse := HI.out.eq
              rw [List.drop_of_length_le (by omega)] at hse
              simp only [setAll] at hse
              have y2 := HI.out.blk.cell 2
              simp at y2
              obtain ⟨w9, es2, hdel, hR9⟩ := HI.out.rp.drop f2 hmi.2.2.1
              have HR9 := Lib.hid hR9
              have HSE := Lib.hid hse
              clear hR9 hse HI
              go_wp2
              go_roundw
              case rel => exact ⟨i + 1, _, _, _, _, _, _, _, by omega, by go_num, rfl, Lib.hid (by rw [gOf_drop, HSE.out]; exact HQ.out), HR9⟩
              case measure => simp [intOf]; omega
      rw [if_neg (by simp)] at HQ
      have HE := Lib.hid (wAcc w5 ⟨f0, f1, f2, f3, f4⟩)
      have hacc : acc ⟨f0, f1, f2, f3, f4⟩ = true → f0 ≠ 1 → f0 = 2 := fun h h1 => by unfold acc at h; simp [h1] at h; exact h
      generalize acc ⟨f0, f1, f2, f3, f4⟩ = ia at HE HQ hacc
      go_wp2_with fail
      refine HE.out.mono ?_
      rintro e w6 ⟨rfl, hb6⟩
      have HR6 := Lib.hid (HR5.out.quiet (Fr.of_below hb6))
      have hblk : Blk w6 pm #[.int .i64 f0, .int .i64 f1, .int .i64 f2, .int .i64 f3, .int .i64 f4] 29 := (hb6.block _ HBLK.out.lt).trans HBLK.out
      have HBLK6 := Lib.hid hblk
      have z0 := hblk.cell 0; have z2 := hblk.cell 2; have z3 := hblk.cell 3; have z4 := hblk.cell 4
      simp at z0 z2 z3 z4
      clear hblk hb6 HE HR5 HBLK y0 y1 y2 y3 y4
      cases ia
      case false =>
        rw [if_neg (by simp)] at HQ
        go_wp2
        go_roundw
        case rel => exact ⟨i + 1, _, _, _, _, _, _, _, by omega, by go_num, rfl, HQ, Lib.hid HR6.out.next⟩
        case measure => simp [intOf]; omega
      rw [if_pos rfl] at HQ
      have HG := Lib.hid (ceGet HR6.out.ce (Nat.le_trans HR6.out.csl (by decide)) f3)
      obtain ⟨gv, gi, hg1, hg2⟩ : ∃ (gv : Int) (gi : Bool), gv = (cGet f3 cs).1 ∧ gi = (cGet f3 cs).2 := ⟨_, _, rfl, rfl⟩
      rw [← hg1, ← hg2] at HG HQ
      clear hg1 hg2
      cases gi
      case false =>
        rw [if_pos rfl] at HQ
        go_wp2_with (go_at_call 39; refine HG.out.mono ?_; rintro e w' ⟨rfl, rfl⟩)
        go_roundw
        case rel => exact ⟨i + 1, _, _, _, _, _, _, _, by omega, by go_num, rfl, HQ, Lib.hid HR6.out.next⟩
        case measure => simp [intOf]; omega
      rw [if_neg (by simp)] at HQ
      by_cases c1 : f0 = 1
      · rw [if_pos c1] at HQ
        have c11 : (f0 == 1) = true := by simp [c1]
        by_cases c5 : gv = f4
        · have c51 : (gv != f4) = false := by simp [c5]
          have c52 : (gv == f4) = true := by simp [c5]
          rw [c52, Bool.and_true] at HQ
          clear c1 c5 c52
          go_wp2_with (go_at_call 39; refine HG.out.mono ?_; rintro e w' ⟨rfl, rfl⟩)
          go_roundw
          case rel => exact ⟨i + 1, _, _, _, _, _, _, _, by omega, by go_num, rfl, HQ, Lib.hid HR6.out.next⟩
          case measure => simp [intOf]; omega
        · have c51 : (gv != f4) = true := by simp [c5]
          have c52 : (gv == f4) = false := by simp [c5]
          rw [c52, Bool.and_false] at HQ
          clear c1 c5 c52
          go_wp2_with (go_at_call 39; refine HG.out.mono ?_; rintro e w' ⟨rfl, rfl⟩)
          go_roundw
          case rel => exact ⟨i + 1, _, _, _, _, _, _, _, by omega, by go_num, rfl, HQ, Lib.hid HR6.out.next⟩
          case measure => simp [intOf]; omega
      rw [if_neg c1] at HQ
      have c11 : (f0 == 1) = false := by simp [c1]
      clear c1 hacc
      by_cases c2 : f2 > 0
      case neg =>
        rw [if_neg c2] at HQ
        have c21 : decide (f2 > 0) = false := by simpa using c2
        have hno := HR6.out.pos f2 (by omega)
        have hlk : (Instr.lookup 57 (.map (some bm)) (iK f2) false).run Try.prog w6 = .ok (.pointer none) w6 := by
          rcases HR6.out.lm.look f2 hmi.2.2.1 with ⟨_, _, h3⟩ | ⟨L, h1, _⟩
          · exact h3 w6 rfl
          · rw [hno] at h1; cases h1
        have HW := Lib.hid (wWroteNil w6 f3 gv)
        have HS := Lib.hid (ceSet HR6.out.ce (Nat.le_trans HR6.out.csl (by decide)) f3 f4)
        clear hno
        go_wp2_with (first | (go_at_call 39; refine HG.out.mono ?_; rintro e w' ⟨rfl, rfl⟩) | (go_at_call 41; refine HW.out.mono ?_; rintro e w' ⟨rfl, rfl⟩) | (go_at_call 38; refine HS.out.mono ?_; rintro e w8 ⟨rfl, hce8, htf8⟩; have HR8 := Lib.hid (HR6.out.set hce8 (cSet_len _ _ _) htf8); clear hce8 htf8))
        go_roundw
        case rel => exact ⟨i + 1, _, _, _, _, _, _, _, by omega, by go_num, rfl, HQ, Lib.hid HR8.out.next⟩
        case measure => simp [intOf]; omega
      rw [if_pos c2] at HQ
      have c21 : decide (f2 > 0) = true := by simpa using c2
      rcases HR6.out.lm.look f2 hmi.2.2.1 with ⟨h1, h2, h3⟩ | ⟨L, h1, h2, h3, h4⟩
      · have hlk := h3 w6 rfl
        have HB8 := Lib.hid (wBegin w6.drew f2)
        have HR8 := Lib.hid (HR6.out.quiet ((Fr.refl _ w6).drew))
        have hBK : Blk w6.drew pm #[.int .i64 f0, .int .i64 f1, .int .i64 f2, .int .i64 f3, .int .i64 f4] 29 := HBLK6.out
        have HBK := Lib.hid hBK
        have HH2 := Lib.hid h2
        have hg0 := gOf_none h1
        rw [hg0] at HQ
        have hk2 := hmi.2.2.1
        have HK2 := Lib.hid hk2
        clear hBK h1 h2 h3 hg0 hmi hk2
        go_upto_region 19 with (go_at_call 39; refine HG.out.mono ?_; rintro e w' ⟨rfl, rfl⟩)
        go_region_law (first
          | (go_simp; go_at_call 40; refine HB8.out.mono ?_; rintro e w9 ⟨pb, rfl, hpb, hlg9, hb9⟩; obtain ⟨w10, hup, hbk10, hl10, hw10⟩ := HR8.out.fresh f2 HK2.out c2 HH2.out hb9 pb hpb hlg9 HBK.out; have HW := Lib.hid (hw10 f3 gv); have hbk9 : Blk w9 pm #[.int .i64 f0, .int .i64 f1, .int .i64 f2, .int .i64 f3, .int .i64 f4] 29 := (hb9.block _ HBK.out.lt).trans HBK.out; have u2 := hbk9.cell 2; simp at u2; clear hbk9; have v2 := hbk10.cell 2; have v3 := hbk10.cell 3; simp at v2 v3; have HB10 := Lib.hid hbk10; clear hbk10 hw10 hb9 hlg9))
        all_goals
          go_wp2_with (first | (go_at_call 41; refine HW.out.mono ?_; rintro e w7 ⟨rfl, ⟨es7, ck7, P7, U7, hR7⟩, hbk7⟩; have HR7 := Lib.hid hR7; have v0 := hbk7.cell 0; have v3 := hbk7.cell 3; have v4 := hbk7.cell 4; simp at v0 v3 v4; have HS := Lib.hid (ceSet HR7.out.ce (Nat.le_trans HR7.out.csl (by decide)) f3 f4); clear hR7 hbk7) | (go_at_call 38; refine HS.out.mono ?_; rintro e w8 ⟨rfl, hce8, htf8⟩; have HR8 := Lib.hid (HR7.out.set hce8 (cSet_len _ _ _) htf8); clear hce8 htf8))
          go_roundw
          case rel => exact ⟨i + 1, _, _, _, _, _, _, _, by omega, by go_num, rfl, Lib.hid (by rw [gOf_upd]; exact HQ.out), HR8⟩
          case measure => simp [intOf]; omega
      · have hlk := h4 w6 rfl
        have HL := Lib.hid h3
        have HX2 := Lib.hid h2
        have HW := Lib.hid (wWrote w6 w.heap.size (P f2) L (U f2) h3 (Nat.le_trans (HR6.out.len f2 L h1) (by omega)) f3 gv)
        have hg0 := gOf_some h1
        rw [hg0] at HQ
        have HLG := Lib.hid h1
        clear h1 h2 h3 h4 hg0
        go_wp2_with (first | (go_at_call 39; refine HG.out.mono ?_; rintro e w' ⟨rfl, rfl⟩) | (go_at_call 41; refine HW.out.mono ?_; rintro e w7 ⟨rfl, uv, hl7, hat7, hf7⟩; have HR7 := Lib.hid (HR6.out.wrote f2 HX2.out L HLG.out f3 gv uv HL.out hl7 hat7 hf7); have hbk7 : Blk w7 pm #[.int .i64 f0, .int .i64 f1, .int .i64 f2, .int .i64 f3, .int .i64 f4] 29 := logKeeps HL.out hf7 HBLK6.out (by decide) (by decide); have v0 := hbk7.cell 0; have v3 := hbk7.cell 3; have v4 := hbk7.cell 4; simp at v0 v3 v4; have HS := Lib.hid (ceSet HR7.out.ce (Nat.le_trans HR7.out.csl (by decide)) f3 f4); clear hl7 hat7 hf7 hbk7) | (go_at_call 38; refine HS.out.mono ?_; rintro e w8 ⟨rfl, hce8, htf8⟩; have HR8 := Lib.hid (HR7.out.set hce8 (cSet_len _ _ _) htf8); clear hce8 htf8))
        go_roundw
        case rel => exact ⟨i + 1, _, _, _, _, _, _, _, by omega, by go_num, rfl, Lib.hid (by rw [gOf_upd]; exact HQ.out), HR8⟩
        case measure => simp [intOf]; omega
    · have e : i = l.length := by omega
      have hq := HQ.out
      rw [List.drop_of_length_le (by omega)] at hq
      simp only [repG] at hq
      have HA := Lib.hid (ceAll HR.out.ce (Nat.le_trans HR.out.csl (by decide)))
      have hcl := HR.out.csl
      have HB := Lib.hid HR.out.bel
      have HQ2 := Lib.hid hq
      clear hq HR HQ
      go_wp2_with fail
      refine HA.out.mono ?_
      rintro e2 w2 ⟨v2, rfl, hr2, hq2⟩
      have HR2 := Lib.hid hr2; have HQQ := Lib.hid hq2
      clear hr2 hq2 HA
      go_wp2
      go_ret2
      rw [← HQ2.out]
      exact ⟨_, _, rfl, HB.out.size, R22.of HR2.out, hcl, HB.out.quiet HQQ.out⟩
end Go.Proofs.Ytadepdeckapgcaa.Hi
end

section
namespace Go.Proofs.Ytadepdeckapgcaa.Hi
open Go.Proofs.Ytadepdeckapgcaa Go.RowKit Go.Maps Go.Proofs.YtadepdeckapgcaaW.PrintWords Go.Proofs.YtadepdeckapgcaaW.PrintLast Go.Proofs.YtadepdeckapgcaaW.PrintMore Go.Proofs.Ytadepdeckapgcaa.PHj Go.Proofs.Ytadepdeckapgcaa.PHi
set_option linter.unusedVariables false
set_option linter.unusedSimpArgs false
abbrev gA (n : Int) (v : Value) : Value := .agg #[.slice none 0 0, .int .i64 n, .int .i64 0, v, .slice none 0 0]
theorem wGBegin (w : World) (n : Int) : Calls Try.prog 46 #[.slice none 0 0, .int .i64 n] w fun e w' => e = .returned (gA n (.slice none 0 0)) ∧ Quiet w w' := by
  go_enter Try.func46, Try.ntmps46
  go_wp2
  refine bodyPost_ret (v := gA n (.slice none 0 0)) (by simp [results, Try.results46, go_sem]) rfl ?_
  exact ⟨rfl, by (repeat (first | exact Fr.refl _ _ | assumption | (refine Fr.quiet ?_ (by assumption)) | refine Fr.quiet ?_ HF.out | refine Fr.quiet ?_ HF2.out | refine Fr.drew ?_ | refine Fr.drewN ?_ _ | refine Fr.alloc ?_ _ | refine Fr.setCell ?_ (.inr (by first | omega | (simp; done) | (simp; omega))) _))⟩
set_option maxHeartbeats 4000000 in
theorem wGUndo (w : World) (A : Option Addr) (c : Nat) (L : List Pr) (hC : Kd.C kPr w A L.length L) (hl : L.length ≤ 1000000) (n : Int) :
    Calls Try.prog 44 #[gA n (.slice A L.length c)] w fun e w' => ∃ A' c', e = .returned (.slice A' L.reverse.length c') ∧ Kd.R kPr 76 w' w.heap.size (fun _ => True) (.slice A' L.reverse.length c') L.reverse ∧ Below w.heap.size w w' := by
  have HC := Lib.hid hC
  clear hC
  have HB0 : Hid (Below w.heap.size w ((w.alloc (.cells #[.slice none 0 0, .int .i64 n, .int .i64 0, .slice A L.length c, .slice none 0 0] 72)).alloc (.cells #[] 76))) := ((Below.refl _ _).alloc (Nat.le_refl _) _).alloc (by simp) _
  have HX0 : Hid (Blk ((w.alloc (.cells #[.slice none 0 0, .int .i64 n, .int .i64 0, .slice A L.length c, .slice none 0 0] 72)).alloc (.cells #[] 76)) w.heap.size #[.slice none 0 0, .int .i64 n, .int .i64 0, .slice A L.length c, .slice none 0 0] 72) := (Blk.new w _ _).alloc _
  have HR0 : Hid (Kd.R kPr 76 ((w.alloc (.cells #[.slice none 0 0, .int .i64 n, .int .i64 0, .slice A L.length c, .slice none 0 0] 72)).alloc (.cells #[] 76)) w.heap.size (fun _ => True) (.slice (some ⟨w.heap.size + 1, 0, none⟩) 0 0) []) := by
    have q := World.ownsRow_lit (base := w.heap.size) (e := 76) (size := 2) (w.alloc (.cells #[.slice none 0 0, .int .i64 n, .int .i64 0, .slice A L.length c, .slice none 0 0] 72)) #[] 0 (by simp) (by simp) (by simp)
    rw [World.size_alloc] at q
    exact ⟨fun _ _ => trivial, [], q, Reps.none _ _⟩
  go_enter Try.func44, Try.ntmps44
  go_wp2
  go_loopw [3, 4] (fun v3 v4 wr => ∃ (k : Nat) (A3 : Option Addr) (c3 : Nat), k ≤ L.length ∧ v4 = .int .i64 ((L.length : Int) - 1 - k) ∧ v3 = .slice A3 (L.reverse.take k).length c3 ∧ Hid (Kd.R kPr 76 wr w.heap.size (fun _ => True) (.slice A3 (L.reverse.take k).length c3) (L.reverse.take k)) ∧ Hid (Blk wr w.heap.size #[.slice none 0 0, .int .i64 n, .int .i64 0, .slice A L.length c, .slice none 0 0] 72) ∧ Hid (Below w.heap.size w wr)) (fun _ v4 _ => ((intOf v4) + 1).toNat)
  case atStart => exact ⟨0, _, _, Nat.zero_le _, by go_num, rfl, HR0, HX0, HB0⟩
  case round =>
    clear HR0 HX0 HB0
    obtain ⟨k, A3, c3, hk, rfl, rfl, HR, HX, HB⟩ := hrel
    by_cases hlt : k < L.length
    · obtain ⟨j, hj⟩ : ∃ j : Nat, j = L.length - 1 - k := ⟨_, rfl⟩
      have hje : (L.length : Int) - 1 - k = (j : Int) := by omega
      have hjl : j < L.length := by omega
      rw [hje]
      obtain ⟨ad, eA, x0, x1⟩ := at_T76 HC.out (j : Int) (by omega) (by omega)
      cases eA
      have hr : rd_T76 L (j : Int) = L[j] := by unfold rd_T76; simp [hjl]
      rw [hr] at x0 x1
      simp only [Int.toNat_natCast] at x0 x1
      have hM : L.reverse.take (k + 1) = L.reverse.take k ++ [L[j]] := by
        rw [List.take_succ_eq_append_getElem (by simpa using hlt), List.getElem_reverse]
        congr 2
        simp only [hj]
      have hml : (L.reverse.take k).length = k := by simp; omega
      have hml2 : (L.reverse.take (k + 1)).length = k + 1 := by simp; omega
      have HMM := Lib.hid hM
      rw [hml] at HR ⊢
      obtain ⟨M2, hM2⟩ : ∃ z, z = L.reverse.take (k + 1) := ⟨_, rfl⟩
      rw [← hM2] at HMM hml2
      have HM2 := Lib.hid hM2
      clear hM2
      generalize L.reverse.take k = M at HMM HR hml
      generalize L[j] = x at x0 x1 HMM
      obtain ⟨f0, f1⟩ := x
      dsimp only at x0 x1
      replace x0 := (HB.out.cell (World.block_lt_of_cell? w _ x0)).trans x0
      replace x1 := (HB.out.cell (World.block_lt_of_cell? w _ x1)).trans x1
      have y3 := HX.out.cell 3
      simp at y3
      clear hr hM hj
      go_wp2_with (at_builtin; refine Kd.R_append kPr (w0 := w) w.heap.size rfl (.tmp 14) (.tmp 20) 39 76 (.agg #[.int .i64 0, .int .i64 0]) 16 rfl Try.underlying39 info76 rfl (by decide) (by decide) _ M ⟨f0, f1⟩ [.int .i64 f0, .int .i64 f1] (fun _ => True) (fun _ => False) rfl rfl (k76_mkM _ _ _ _) (fun _ q => q.elim) (fun _ _ => trivial) HR.out HB.out HB.out.size (by omega) ?_; intro v1 w1 hR1 hB1 hg1 _; have HX1 := Lib.hid ((hg1.block _ HX.out.lt (Kd.R_ne HR.out HX.out (by decide))).trans HX.out); have HR1 := Lib.hid hR1; have HB1 := Lib.hid hB1; clear hR1 hB1 hg1)
      go_roundw
      case rel =>
        rw [← HMM.out] at HR1
        rw [HM2.out] at HR1
        obtain ⟨A4, c4, rfl⟩ := Kd.R_slice HR1.out
        exact ⟨k + 1, A4, c4, by omega, by go_num, rfl, HR1, HX1, HB1⟩
      case measure => simp [intOf] <;> omega
    · obtain rfl : k = L.length := by omega
      have hM : L.reverse.take L.length = L.reverse := by rw [List.take_of_length_le (by simp)]
      rw [hM] at HR ⊢
      have hneg : (L.length : Int) - 1 - L.length = -1 := by omega
      rw [hneg]
      clear hM
      go_wp2
      go_ret
      exact ⟨_, _, rfl, HR.out, HB.out⟩
theorem has_l0 (L : List Pr) (o : Int) (hl : L.length ≤ 1000000) : ∀ n k (i : Nat), L.length - i = n → i ≤ L.length → n < k → logjamref23_Has.l0 k L o (i : Int) = some ((L.drop i).any fun x => x.f0 == o)
  | 0, 0, i, _, _, h => by omega
  | n + 1, 0, i, _, _, h => by omega
  | 0, k + 1, i, h, hi, _ => by
    simp only [logjamref23_Has.l0]
    rw [if_neg (by omega), List.drop_of_length_le (by omega)]; rfl
  | n + 1, k + 1, i, h, hi, hk => by
    have hlt : i < L.length := by omega
    simp only [logjamref23_Has.l0]
    rw [if_pos (by omega), if_pos (by omega), show wrap64 ((i : Int) + 1) = ((i + 1 : Nat) : Int) by unfold wrap64; omega, has_l0 L o hl n k (i + 1) (by omega) (by omega) (by omega), List.drop_eq_getElem_cons hlt, List.any_cons]
    have hr : rd_T76 L (i : Int) = L[i] := by unfold rd_T76; simp [hlt]
    rw [hr]
    split
    · rename_i e; simp [e]
    · rename_i e; rw [beq_eq_false_iff_ne.2 e, Bool.false_or]
theorem wHas23 (w : World) (A : Option Addr) (c : Nat) (L : List Pr) (hc : L.length ≤ c) (hC : Kd.C kPr w A L.length L) (hl : L.length ≤ 1000000) (o : Int) :
    Calls Try.prog 57 #[.slice A L.length c, .int .i64 o] w fun e w' => e = .returned (.bool (L.any fun x => x.f0 == o)) ∧ Below w.heap.size w w' :=
  (logjamref23_Has.calls (L.length + 1) A c L o _ w hC hc (has_l0 L o hl _ _ 0 rfl (by omega) (by omega))).mono fun e w' ⟨h1, h2⟩ => ⟨h1, by obtain ⟨n, rfl⟩ := h2; exact ⟨rfl, rfl, rfl, Nat.le_refl _, fun _ _ => rfl⟩⟩
theorem own2_at {w : World} {base : Nat} {ok : Nat → Prop} {v : Value} {L : List Pr} (h : Kd.R kPr 76 w base ok v L) (k : Nat) (hk : v.ownBlock = some k) : base ≤ k ∧ k < w.heap.size := by
  obtain ⟨inner, ho⟩ := Kd.R_own h
  exact ho.lt k hk
set_option maxHeartbeats 4000000 in
theorem wGWrote (w : World) (bs : Nat) (A : Option Addr) (c : Nat) (L : List Pr) (hR : R22 w bs (.slice A L.length c) L) (hl : L.length ≤ 1000000) (n o was : Int) :
    Calls Try.prog 48 #[gA n (.slice A L.length c), .int .i64 o, .int .i64 was] w fun e w' => ∃ A' c' bs', e = .returned (gA n (.slice A' (wroteL L o was).length c')) ∧ (bs' = bs ∨ w.heap.size ≤ bs') ∧ R22 w' bs' (.slice A' (wroteL L o was).length c') (wroteL L o was) ∧ Below w.heap.size w w' := by
  obtain ⟨A0, c0, e0, hc, hC⟩ := hR.reads
  injection e0 with e1 _ e2
  subst e1 e2
  have HC := Lib.hid hC; have HRR := Lib.hid hR
  clear hC hR
  obtain ⟨wa, hwa⟩ : ∃ z, z = (w.alloc (.cells #[.slice none 0 0, .int .i64 n, .int .i64 0, .slice A L.length c, .slice none 0 0] 72)).alloc (.cells #[.slice none 0 0, .int .i64 0, .int .i64 0, .slice none 0 0, .slice none 0 0] 72) := ⟨_, rfl⟩
  have hB0 : Below w.heap.size w wa := by rw [hwa]; exact ((Below.refl _ _).alloc (Nat.le_refl _) _).alloc (by simp) _
  have hX0 : Blk wa w.heap.size #[.slice none 0 0, .int .i64 n, .int .i64 0, .slice A L.length c, .slice none 0 0] 72 := by rw [hwa]; exact (Blk.new w _ _).alloc _
  have hT0 : Blk wa (w.heap.size + 1) #[.slice none 0 0, .int .i64 0, .int .i64 0, .slice none 0 0, .slice none 0 0] 72 := by rw [hwa]; have q := Blk.new (w.alloc (.cells #[.slice none 0 0, .int .i64 n, .int .i64 0, .slice A L.length c, .slice none 0 0] 72)) #[.slice none 0 0, .int .i64 0, .int .i64 0, .slice none 0 0, .slice none 0 0] 72; rwa [World.size_alloc] at q
  have HH := Lib.hid (wHas23 wa A c L hc (Kd.C_below HC.out hB0) hl o)
  have y3 := hX0.cell 3; simp at y3
  have HB0 := Lib.hid hB0; have HX0 := Lib.hid hX0; have HT0 := Lib.hid hT0
  clear hB0 hX0 hT0
  subst hwa
  unfold wroteL
  generalize L.any (fun x => x.f0 == o) = an at HH
  cases an
  case true =>
    rw [if_pos rfl]
    go_enter Try.func48, Try.ntmps48
    go_wp2_with fail
    refine HH.out.mono ?_
    rintro e w5 ⟨rfl, hb5⟩
    have hX5 := (hb5.block _ HX0.out.lt).trans HX0.out
    have hT5 := (hb5.block _ HT0.out.lt).trans HT0.out
    have HB5 : Hid (Below w.heap.size w w5) := HB0.out.trans (hb5.mono HB0.out.size)
    have hs5 : w.heap.size + 2 ≤ w5.heap.size := by have := hb5.size; simpa using this
    have HC5 := Lib.hid (Kd.C_below HC.out HB5.out)
    have HX5 : Hid (Blk w5 w.heap.size #[.slice none 0 0, .int .i64 n, .int .i64 0, .slice A L.length c, .slice none 0 0] 72) := Lib.hid hX5
    have HT5 : Hid (Blk w5 (w.heap.size + 1) #[.slice none 0 0, .int .i64 0, .int .i64 0, .slice none 0 0, .slice none 0 0] 72) := Lib.hid hT5
    clear hX5 hT5 hb5 HH HX0 HT0 HB0 HC y3
    have z0 := HX5.out.cell 0; have z1 := HX5.out.cell 1; have z2 := HX5.out.cell 2; have z3 := HX5.out.cell 3; have z4 := HX5.out.cell 4
    simp at z0 z1 z2 z3 z4
    have u := fun i => HT5.out.free i
    have u2 := fun i => HX5.out.free i
    have t0 := HT5.out.cell 0; have t1 := HT5.out.cell 1; have t2 := HT5.out.cell 2; have t3 := HT5.out.cell 3; have t4 := HT5.out.cell 4
    simp at t0 t1 t2 t3 t4
    go_wp2
    have hq := (((((HT5.out.set 0 (.slice none 0 0)).set 1 (.int .i64 n)).set 2 (.int .i64 0)).set 3 (.slice A L.length c)).set 4 (.slice none 0 0))
    simp at hq
    refine bodyPost_ret (results_cell_row rfl _ _ (w.heap.size + 1) 72 #[.slice none 0 0, .int .i64 n, .int .i64 0, .slice A L.length c, .slice none 0 0] (0, 0) _ rfl hq Try.underlying72 rfl (by kernel_rfl)) rfl ?_
    have hbl : Below w.heap.size w (((((w5.setCell ⟨w.heap.size + 1, 0, none⟩ (.slice none 0 0)).setCell ⟨w.heap.size + 1, 1, none⟩ (.int .i64 n)).setCell ⟨w.heap.size + 1, 2, none⟩ (.int .i64 0)).setCell ⟨w.heap.size + 1, 3, none⟩ (.slice A L.length c)).setCell ⟨w.heap.size + 1, 4, none⟩ (.slice none 0 0)) :=
      ((((HB5.out.setCell (Nat.le_succ _) _).setCell (Nat.le_succ _) _).setCell (Nat.le_succ _) _).setCell (Nat.le_succ _) _).setCell (Nat.le_succ _) _
    exact ⟨A, c, bs, rfl, .inl rfl, Kd.R_below HRR.out hbl, hbl⟩
  case false =>
    rw [if_neg (by simp)]
    go_enter Try.func48, Try.ntmps48
    go_wp2_with fail
    refine HH.out.mono ?_
    rintro e w5 ⟨rfl, hb5⟩
    have hX5 := (hb5.block _ HX0.out.lt).trans HX0.out
    have hT5 := (hb5.block _ HT0.out.lt).trans HT0.out
    have HB5 : Hid (Below w.heap.size w w5) := HB0.out.trans (hb5.mono HB0.out.size)
    have hs5 : w.heap.size + 2 ≤ w5.heap.size := by have := hb5.size; simpa using this
    have HC5 := Lib.hid (Kd.C_below HC.out HB5.out)
    have HX5 : Hid (Blk w5 w.heap.size #[.slice none 0 0, .int .i64 n, .int .i64 0, .slice A L.length c, .slice none 0 0] 72) := Lib.hid hX5
    have HT5 : Hid (Blk w5 (w.heap.size + 1) #[.slice none 0 0, .int .i64 0, .int .i64 0, .slice none 0 0, .slice none 0 0] 72) := Lib.hid hT5
    clear hX5 hT5 hb5 HH HX0 HT0 HB0 HC y3
    have z0 := HX5.out.cell 0; have z1 := HX5.out.cell 1; have z2 := HX5.out.cell 2; have z3 := HX5.out.cell 3; have z4 := HX5.out.cell 4
    simp at z0 z1 z2 z3 z4
    have u := fun i => HT5.out.free i
    have u2 := fun i => HX5.out.free i
    have t0 := HT5.out.cell 0; have t1 := HT5.out.cell 1; have t2 := HT5.out.cell 2; have t3 := HT5.out.cell 3; have t4 := HT5.out.cell 4
    simp at t0 t1 t2 t3 t4
    have HBl : Hid (Below w5.heap.size w5 (w5.alloc (.cells #[] 76))) := (Below.refl _ _).alloc (Nat.le_refl _) _
    have HCl := Lib.hid (Kd.C_below HC5.out HBl.out)
    have HRl : Hid (Kd.R kPr 76 (w5.alloc (.cells #[] 76)) w5.heap.size (fun _ => True) (.slice (some ⟨w5.heap.size, 0, none⟩) 0 0) []) :=
      ⟨fun _ _ => trivial, [], World.ownsRow_lit (base := w5.heap.size) (e := 76) (size := 2) w5 #[] 0 (Nat.le_refl _) (by simp) (by simp), Reps.none _ _⟩
    have a3 : ∀ o, (w5.alloc o).cell? ⟨w.heap.size, 3, none⟩ = some (.slice A L.length c) := fun o => ((HX5.out.alloc o).cell 3).trans rfl
    go_wp2_with (first
      | (at_builtin; refine Kd.R_append_rows kPr (Rr := kPr.K (w5.alloc (.cells #[] 76))) (w0 := w5) w5.heap.size rfl (.tmp 12) (.tmp 14) 39 76 _ 16 rfl Try.underlying39 info76 rfl (by decide) (by decide) _ [] L A L.length c (fun _ => True) (fun _ => False) rfl rfl HRl.out HCl.out (fun x cs hk => by have := k76_open hk; rw [this]; exact k76_mkM _ _ _ x) (fun _ q => q.elim) (fun _ _ => trivial) HBl.out HBl.out.size (by simp; omega) ?_; intro v6 w6 ho6 hb6 hg6 hat6; rw [List.nil_append] at ho6; have HR6 := Lib.hid ho6; have HB6 := Lib.hid hb6; clear ho6 hb6 hg6 hat6)
      | (have hq6 := HR6.out; at_builtin; refine Kd.R_append kPr (w0 := w5) w5.heap.size rfl (.tmp 15) (.tmp 19) 39 76 (.agg #[.int .i64 0, .int .i64 0]) 16 rfl Try.underlying39 info76 rfl (by decide) (by decide) _ L ⟨o, was⟩ [.int .i64 o, .int .i64 was] (fun _ => True) (fun _ => False) rfl rfl (k76_mkM _ _ _ _) (fun _ q => q.elim) (fun _ _ => trivial) HR6.out HB6.out HB6.out.size (by omega) ?_; intro v7 w7 ho7 hb7 hg7 hat7; obtain ⟨L7, hL7⟩ : ∃ z : List Pr, z = L ++ [⟨o, was⟩] := ⟨_, rfl⟩; rw [← hL7] at ho7; have HL7 := Lib.hid hL7; clear hL7; obtain ⟨A7, c7, rfl⟩ := Kd.R_slice ho7; have HR7 := Lib.hid ho7; have HB7 := Lib.hid hb7; have HX7 : Hid (Blk w7 w.heap.size #[.slice none 0 0, .int .i64 n, .int .i64 0, .slice A L.length c, .slice none 0 0] 72) := Lib.hid ((hb7.block _ HX5.out.lt).trans HX5.out); have HT7 : Hid (Blk w7 (w.heap.size + 1) #[.slice none 0 0, .int .i64 0, .int .i64 0, .slice none 0 0, .slice none 0 0] 72) := Lib.hid ((hb7.block _ HT5.out.lt).trans HT5.out); have p0 := HX7.out.cell 0; have p1 := HX7.out.cell 1; have p2 := HX7.out.cell 2; have p3 := HX7.out.cell 3; have p4 := HX7.out.cell 4; simp at p0 p1 p2 p3 p4; have q0 := HT7.out.cell 0; have q1 := HT7.out.cell 1; have q2 := HT7.out.cell 2; have q3 := HT7.out.cell 3; have q4 := HT7.out.cell 4; simp at q0 q1 q2 q3 q4; have s1 := fun i => HX7.out.free i; have s2 := fun i => HT7.out.free i; clear ho7 hb7 hg7 hat7))
    have hq := ((((((HT7.out.set_other (a := ⟨w.heap.size, 3, none⟩) (by simp) (.slice A7 L7.length c7)).set 0 (.slice none 0 0)).set 1 (.int .i64 n)).set 2 (.int .i64 0)).set 3 (.slice A7 L7.length c7)).set 4 (.slice none 0 0))
    simp at hq
    refine bodyPost_ret (results_cell_row rfl _ _ (w.heap.size + 1) 72 #[.slice none 0 0, .int .i64 n, .int .i64 0, .slice A7 L7.length c7, .slice none 0 0] (0, 0) _ rfl hq Try.underlying72 rfl (by kernel_rfl)) rfl ?_
    rw [← HL7.out]
    have hb7 : Below w.heap.size w w7 := HB5.out.trans (HB7.out.mono (by omega))
    have hbl : Below w.heap.size w ((((((w7.setCell ⟨w.heap.size, 3, none⟩ (.slice A7 L7.length c7)).setCell ⟨w.heap.size + 1, 0, none⟩ (.slice none 0 0)).setCell ⟨w.heap.size + 1, 1, none⟩ (.int .i64 n)).setCell ⟨w.heap.size + 1, 2, none⟩ (.int .i64 0)).setCell ⟨w.heap.size + 1, 3, none⟩ (.slice A7 L7.length c7)).setCell ⟨w.heap.size + 1, 4, none⟩ (.slice none 0 0)) :=
      (((((hb7.setCell (Nat.le_refl _) _).setCell (Nat.le_succ _) _).setCell (Nat.le_succ _) _).setCell (Nat.le_succ _) _).setCell (Nat.le_succ _) _).setCell (Nat.le_succ _) _
    have hfr : Fr (fun k => k = w.heap.size ∨ k = w.heap.size + 1) w7 ((((((w7.setCell ⟨w.heap.size, 3, none⟩ (.slice A7 L7.length c7)).setCell ⟨w.heap.size + 1, 0, none⟩ (.slice none 0 0)).setCell ⟨w.heap.size + 1, 1, none⟩ (.int .i64 n)).setCell ⟨w.heap.size + 1, 2, none⟩ (.int .i64 0)).setCell ⟨w.heap.size + 1, 3, none⟩ (.slice A7 L7.length c7)).setCell ⟨w.heap.size + 1, 4, none⟩ (.slice none 0 0)) :=
      (((((((Fr.refl _ w7).setCell (p := ⟨w.heap.size, 3, none⟩) (.inl (.inl rfl)) _).setCell (p := ⟨w.heap.size + 1, 0, none⟩) (.inl (.inr rfl)) _).setCell (p := ⟨w.heap.size + 1, 1, none⟩) (.inl (.inr rfl)) _).setCell (p := ⟨w.heap.size + 1, 2, none⟩) (.inl (.inr rfl)) _).setCell (p := ⟨w.heap.size + 1, 3, none⟩) (.inl (.inr rfl)) _).setCell (p := ⟨w.heap.size + 1, 4, none⟩) (.inl (.inr rfl)) _)
    have hrf := (R22.of HR7.out).fr hfr (fun k hk hF => by
      have := ((own2_at HR7.out) k hk).1
      omega)
    exact ⟨A7, c7, w5.heap.size, rfl, .inr (by omega), hrf, hbl⟩
end Go.Proofs.Ytadepdeckapgcaa.Hi
end

section
namespace Go.Proofs.Ytadepdeckapgcaa.Hi
open Go.Proofs.Ytadepdeckapgcaa Go.RowKit Go.Maps Go.Proofs.YtadepdeckapgcaaW.PrintWords Go.Proofs.YtadepdeckapgcaaW.PrintLast Go.Proofs.YtadepdeckapgcaaW.PrintMore Go.Proofs.Ytadepdeckapgcaa.PHj Go.Proofs.Ytadepdeckapgcaa.PHi
set_option linter.unusedVariables false
set_option linter.unusedSimpArgs false
theorem infoG : (Try.prog.info? 72).map (fun i => (i.zero, i.size, i.bytes)) = some (some (.agg #[.slice none 0 0, .int .i64 0, .int .i64 0, .slice none 0 0, .slice none 0 0]), 5, 88) := by kernel_rfl
structure RfAt (w : World) (i : Nat) (cs : Cs) (v6 : Value) (O : List Og) (v8 : Value) (wr : World) : Prop where
  c : ∃ bs, w.heap.size ≤ bs ∧ R22 wr bs v6 (allL cs)
  o : wr.ownsRow w.heap.size 72 5 v8 O.length (encG O)
  u : ∀ x ∈ O, ∃ A c bs, x.v = .slice A x.u.length c ∧ w.heap.size ≤ bs ∧ R22 wr bs x.v x.u
  un : UnO O
  bel : Quiet w wr
  csl : cs.length ≤ 60
  ol : O.length ≤ i
  ul : ∀ x ∈ O, x.u.length ≤ i
theorem R22.quiet {w w1 : World} {base : Nat} {v : Value} {l : List Sh22} (h : R22 w base v l) (hq : Quiet w w1) : R22 w1 base v l := h.fr hq (fun _ _ q => q)
theorem RfAt.quiet {w : World} {i : Nat} {cs : Cs} {v6 : Value} {O : List Og} {v8 : Value} {wr w' : World} (h : RfAt w i cs v6 O v8 wr) (hq : Quiet wr w') : RfAt w i cs v6 O v8 w' :=
  { h with
    c := by obtain ⟨bs, h1, h2⟩ := h.c; exact ⟨bs, h1, R22.quiet h2 hq⟩
    o := Fr.owns h.o hq (fun _ _ q => q)
    u := fun x hx => by obtain ⟨A, c, bs, h1, h2, h3⟩ := h.u x hx; exact ⟨A, c, bs, h1, h2, R22.quiet h3 hq⟩
    bel := h.bel.quiet hq }
theorem RfAt.next {w : World} {i : Nat} {cs : Cs} {v6 : Value} {O : List Og} {v8 : Value} {wr : World} (h : RfAt w i cs v6 O v8 wr) : RfAt w (i + 1) cs v6 O v8 wr :=
  { h with ol := Nat.le_succ_of_le h.ol, ul := fun x hx => Nat.le_succ_of_le (h.ul x hx) }
theorem RfAt.setc {w : World} {i : Nat} {cs cs2 : Cs} {v6 v62 : Value} {O : List Og} {v8 : Value} {wr : World} (h : RfAt w i cs v6 O v8 wr) (bs : Nat) (hb : w.heap.size ≤ bs) (hr : R22 wr bs v62 (allL cs2)) (hl : cs2.length = cs.length) : RfAt w i cs2 v62 O v8 wr :=
  { h with c := ⟨bs, hb, hr⟩, csl := by rw [hl]; exact h.csl }
theorem R22.grow {w w1 : World} {base : Nat} {v : Value} {l : List Sh22} {row : Option Nat} (h : R22 w base v l) (hg : w.grownBy w1 row) (ht : ∀ g, row = some g → ∃ cells, w.heap[g]? = some (.cells cells 72 (0, 0))) : R22 w1 base v l :=
  h.fr (F := fun k => row = some k) (Fr.grown (Fr.refl _ _) hg (fun k hk => .inl hk)) (fun k hk hF => by
    obtain ⟨inner, ho⟩ := Kd.R_own h
    obtain ⟨c2, hc2⟩ := own_typed ho k hk
    obtain ⟨cells, hc⟩ := ht k hF
    rw [hc] at hc2
    injection hc2 with hc2
    injection hc2 with _ hc2
    exact absurd hc2 (by decide))
theorem RfAt.at {w : World} {i : Nat} {cs : Cs} {v6 : Value} {O : List Og} {g co : Nat} {wr : World} (h : RfAt w i cs v6 O (.slice (some ⟨g, 0, none⟩) O.length co) wr) (a : Nat) (ha : a < O.length) :
    wr.cell? ⟨g, a * 5, none⟩ = some (.slice none 0 0) ∧ wr.cell? ⟨g, a * 5 + 1, none⟩ = some (.int .i64 O[a].n) ∧ wr.cell? ⟨g, a * 5 + 2, none⟩ = some (.int .i64 0) ∧ wr.cell? ⟨g, a * 5 + 3, none⟩ = some O[a].v ∧ wr.cell? ⟨g, a * 5 + 4, none⟩ = some (.slice none 0 0) := by
  obtain ⟨e0, e1, e2, e3, e4⟩ := encG_get O a ha
  exact ⟨(h.o.cellAt _ (by omega)).trans e0, (h.o.cellAt _ (by omega)).trans e1, (h.o.cellAt _ (by omega)).trans e2, (h.o.cellAt _ (by omega)).trans e3, (h.o.cellAt _ (by omega)).trans e4⟩
abbrev put5 (w : World) (g a : Nat) (y : Og) : World := ((((w.setCell ⟨g, a * 5, none⟩ (.slice none 0 0)).setCell ⟨g, a * 5 + 1, none⟩ (.int .i64 y.n)).setCell ⟨g, a * 5 + 2, none⟩ (.int .i64 0)).setCell ⟨g, a * 5 + 3, none⟩ y.v).setCell ⟨g, a * 5 + 4, none⟩ (.slice none 0 0)
theorem RfAt.put {w : World} {i : Nat} {cs : Cs} {v6 : Value} {O : List Og} {g co : Nat} {wr : World} (h : RfAt w i cs v6 O (.slice (some ⟨g, 0, none⟩) O.length co) wr) (a : Nat) (ha : a < O.length) (y : Og) (hy : y.n = O[a].n)
    (hv : ∃ A c bs, y.v = .slice A y.u.length c ∧ w.heap.size ≤ bs ∧ R22 wr bs y.v y.u) (hl : y.u.length ≤ i + 1) : RfAt w (i + 1) cs v6 (O.set a y) (.slice (some ⟨g, 0, none⟩) O.length co) (put5 wr g a y) ∧ wr.grownBy (put5 wr g a y) (some g) := by
  have S1 := h.o.stored (a * 5) (.slice none 0 0)
  have S2 := S1.1.stored (a * 5 + 1) (.int .i64 y.n)
  have S3 := S2.1.stored (a * 5 + 2) (.int .i64 0)
  have S4 := S3.1.stored (a * 5 + 3) y.v
  have S5 := S4.1.stored (a * 5 + 4) (.slice none 0 0)
  have hg : wr.grownBy (put5 wr g a y) (some g) := by
    have q := (((S1.2.trans S2.2).trans S3.2).trans S4.2).trans S5.2
    exact ⟨q.os, q.tape, q.output, q.size, q.block⟩
  have e := encG_set O y a ha
  have ho := S5.1
  rw [e] at ho
  have ht : ∀ k, some g = some k → ∃ cells, wr.heap[k]? = some (.cells cells 72 (0, 0)) := fun k hk => own_typed h.o k hk
  refine ⟨⟨?_, ?_, fun x hx => ?_, h.un.set a ha y hy, ?_, h.csl, ?_, fun x hx => ?_⟩, hg⟩
  · obtain ⟨bs, h1, h2⟩ := h.c
    exact ⟨bs, h1, R22.grow h2 hg ht⟩
  · rw [List.length_set]; exact ho
  · rcases List.mem_or_eq_of_mem_set hx with hx | rfl
    · obtain ⟨A, c, bs, h1, h2, h3⟩ := h.u x hx
      exact ⟨A, c, bs, h1, h2, R22.grow h3 hg ht⟩
    · obtain ⟨A, c, bs, h1, h2, h3⟩ := hv
      exact ⟨A, c, bs, h1, h2, R22.grow h3 hg ht⟩
  · exact h.bel.grown hg (fun k hk => .inr (h.o.lt k hk).1)
  · rw [List.length_set]; exact Nat.le_succ_of_le h.ol
  · rcases List.mem_or_eq_of_mem_set hx with hx | rfl
    · exact Nat.le_succ_of_le (h.ul x hx)
    · exact hl
theorem RfAt.push {w : World} {i : Nat} {cs : Cs} {v6 : Value} {O : List Og} {v8 : Value} {wr w1 : World} (h : RfAt w i cs v6 O v8 wr) (n : Int) (hn : ∀ j (hj : j < O.length), O[j].n ≠ n) (v : Value) (ho : w1.ownsRow w.heap.size 72 5 v (O.length + 1) (encG O ++ gV n (.slice none 0 0))) (hg : wr.grownBy w1 v8.ownBlock) :
    RfAt w (i + 1) cs v6 (O ++ [⟨n, [], .slice none 0 0⟩]) v w1 := by
  have ht : ∀ k, v8.ownBlock = some k → ∃ cells, wr.heap[k]? = some (.cells cells 72 (0, 0)) := fun k hk => own_typed h.o k hk
  refine ⟨?_, ?_, fun x hx => ?_, h.un.push _ hn, ?_, h.csl, ?_, fun x hx => ?_⟩
  · obtain ⟨bs, h1, h2⟩ := h.c
    exact ⟨bs, h1, R22.grow h2 hg ht⟩
  · rw [encG_append]; simpa [encG] using ho
  · rcases List.mem_append.1 hx with hx | hx
    · obtain ⟨A, c, bs, h1, h2, h3⟩ := h.u x hx
      exact ⟨A, c, bs, h1, h2, R22.grow h3 hg ht⟩
    · simp at hx
      subst hx
      exact ⟨none, 0, w.heap.size, rfl, Nat.le_refl _, R22.of (ok := fun _ => True) (Kd.R_nil _ _ _ _ _)⟩
  · exact h.bel.grown hg (fun k hk => .inr (h.o.lt k hk).1)
  · simp; exact h.ol
  · rcases List.mem_append.1 hx with hx | hx
    · exact Nat.le_succ_of_le (h.ul x hx)
    · simp at hx
      subst hx
      exact Nat.zero_le _
theorem RfAt.made {w w1 : World} {cs : Cs} {v6 : Value} (hq : Quiet w w1) (bs : Nat) (hb : w.heap.size ≤ bs) (hr : R22 w1 bs v6 (allL cs)) (hl : cs.length ≤ 60) : RfAt w 0 cs v6 [] (.slice (some ⟨w1.heap.size, 0, none⟩) 0 0) (w1.alloc (.cells #[] 72)) := by
  refine ⟨⟨bs, hb, R22.quiet hr ((Fr.refl _ _).alloc _)⟩, World.ownsRow_lit (base := w.heap.size) (e := 72) (size := 5) w1 #[] 0 hq.size (by simp) (by simp), (fun x hx => absurd hx (by simp)), (by unfold UnO; simp), hq.alloc _, hl, Nat.le_refl _, (fun x hx => absurd hx (by simp))⟩
structure AtAt (w : World) (i : Nat) (cs : Cs) (v6 : Value) (O : List Og) (v8 : Value) (pm : Nat) (ms : Array Value) (wi : World) : Prop where
  rf : RfAt w i cs v6 O v8 wi
  blk : Blk wi pm ms 29
theorem AtAt.quiet {w : World} {i : Nat} {cs : Cs} {v6 : Value} {O : List Og} {v8 : Value} {pm : Nat} {ms : Array Value} {wi w' : World} (h : AtAt w i cs v6 O v8 pm ms wi) (hq : Quiet wi w') : AtAt w i cs v6 O v8 pm ms w' := ⟨h.rf.quiet hq, hq.blk h.blk (fun q => q)⟩
theorem fI_none {o : Int} {l : Cs} (h : fidx o l = none) : fI o l = -1 ∧ cGet o l = (0, false) := by unfold fI cGet; rw [h]; exact ⟨rfl, rfl⟩
theorem fI_some {o : Int} {l : Cs} {k : Nat} (h : fidx o l = some k) : fI o l = (k : Int) ∧ cGet o l = ((cAt l k).2.2, true) := by unfold fI cGet; rw [h]; exact ⟨rfl, rfl⟩
end Go.Proofs.Ytadepdeckapgcaa.Hi
end
