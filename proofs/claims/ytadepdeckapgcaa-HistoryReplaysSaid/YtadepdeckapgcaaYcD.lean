/- LawHistoryReplays, part 4: what the proof stands on (merged by wip/shake.py out of the session's texts and of what the print wrote for this claim). -/
import Derived.Test.YtadepdeckapgcaaYcC

section
namespace Go.Proofs.Ytadepdeckapgcaa.Hi
open Go.Proofs.Ytadepdeckapgcaa Go.RowKit Go.Maps Go.Proofs.YtadepdeckapgcaaW.PrintWords Go.Proofs.YtadepdeckapgcaaW.PrintLast Go.Proofs.YtadepdeckapgcaaW.PrintMore Go.Proofs.Ytadepdeckapgcaa.PHj Go.Proofs.Ytadepdeckapgcaa.PHi
open Go.ChangeMaps Go.MapKept
set_option linter.unusedVariables false
set_option linter.unusedSimpArgs false
set_option maxRecDepth 100000 in
set_option maxHeartbeats 8000000 in
theorem wReplay (w : World) (v : Value) (d : List De22) (hd : d.length ≤ 60) (hD : D22 w v d) (A : Option Addr) (c : Nat) (l : List Mk) (hC : Kd.C k29 w A l.length l) (hl : l.length ≤ 1000000) (hm : ∀ m ∈ l, inM m) :
    Calls Try.prog 17 #[v, .slice A l.length c] w fun e w' => ∃ v' bs, e = .returned (.tuple #[v', .bool (repG l (newOf d) (fun _ => []) true).2]) ∧ w.heap.size ≤ bs ∧ R22 w' bs v' (allL (repG l (newOf d) (fun _ => []) true).1) ∧ (repG l (newOf d) (fun _ => []) true).1.length ≤ 60 ∧ Quiet w w' := by
  have hmm := @run_makeMap Try.prog
  have HC := Lib.hid hC
  have HM := Lib.hid hm
  have HN := Lib.hid (ceNewD w v d hd hD)
  have hnl := newOf_len d
  clear hC hm hD
  go_enter Try.func17, Try.ntmps17
  go_wp2_with fail
  refine HN.out.mono ?_
  rintro e w1 ⟨rfl, hce, hq1⟩
  have HR0 : Hid (RpAt w w1.heap.size 0 (newOf d) (fun _ => none) #[] 0 (fun _ => 0) (fun _ => .slice none 0 0) (w1.alloc (.map #[] 0))) := Lib.hid {
    ce := hce.quiet ((Fr.refl _ _).alloc _)
    lm := LM.made _ _
    bel := hq1.alloc _
    csl := by omega
    len := fun k L e => by cases e
    pos := fun _ _ => rfl
    at_ := hq1.size }
  generalize hbm : w1.heap.size = bm at *
  clear HN hce
  go_wp2
  go_loopw [20, 8] (fun v20 v8 wr => ∃ (i : Nat) (cs : Cs) (lg : Int → Option (List Pr)) (es : Array MapEntry) (ck : Nat) (P : Int → Nat) (U : Int → Value) (ok : Bool), i ≤ l.length ∧ v20 = .int .i64 i ∧ v8 = .bool ok ∧ Hid (repG (l.drop i) cs (gOf lg) ok = repG l (newOf d) (fun _ => []) true) ∧ Hid (RpAt w bm i cs lg es ck P U wr)) (fun v20 _ _ => l.length - (intOf v20).toNat)
  case atStart => exact ⟨0, _, _, _, _, _, _, _, Nat.zero_le _, rfl, rfl, Lib.hid rfl, HR0⟩
  case round =>
    obtain ⟨i, cs, lg, es, ck, P, U, ok, hi, rfl, rfl, HQ, HR⟩ := hrel
    clear HR0
    by_cases hlt : i < l.length
    · obtain ⟨ad, eA, x0, x1, x2, x3, x4⟩ := at_T29 HC.out (i : Int) (by omega) (by omega)
      cases eA
      have hr : rd_T29 l (i : Int) = l[i] := by unfold rd_T29; simp [hlt]
      rw [hr] at x0 x1 x2 x3 x4
      simp only [Int.toNat_natCast] at x0 x1 x2 x3 x4
      have hmi := HM.out _ (List.getElem_mem hlt)
      have hq := HQ.out
      have hbel := HR.out.bel
      have hbq : Below w.heap.size w wr := hbel.below (fun _ _ q => q)
      rw [List.drop_eq_getElem_cons hlt] at hq
      generalize l[i] = m at x0 x1 x2 x3 x4 hmi hq
      obtain ⟨f0, f1, f2, f3, f4⟩ := m
      dsimp only at x0 x1 x2 x3 x4
      replace x0 := (hbq.cell (World.block_lt_of_cell? w _ x0)).trans x0
      replace x1 := (hbq.cell (World.block_lt_of_cell? w _ x1)).trans x1
      replace x2 := (hbq.cell (World.block_lt_of_cell? w _ x2)).trans x2
      replace x3 := (hbq.cell (World.block_lt_of_cell? w _ x3)).trans x3
      replace x4 := (hbq.cell (World.block_lt_of_cell? w _ x4)).trans x4
      obtain ⟨ms, hms⟩ : ∃ z : Array Value, z = #[.int .i64 f0, .int .i64 f1, .int .i64 f2, .int .i64 f3, .int .i64 f4] := ⟨_, rfl⟩
      have HE := Lib.hid (wEnd (wr.alloc (.cells ms 29)) ⟨f0, f1, f2, f3, f4⟩)
      have HR1 := Lib.hid (HR.out.quiet ((Fr.refl _ wr).alloc (.cells ms 29)))
      have HN := Lib.hid (Blk.new wr ms 29)
      rw [hms] at HE HR1 HN
      simp only [repG] at hq
      clear HQ
      have HQ := Lib.hid hq
      have hbw : w.heap.size ≤ wr.heap.size := hbel.size
      clear hq hbel hbq hr HR hms
      generalize isEnd ⟨f0, f1, f2, f3, f4⟩ = ie at HE HQ
      go_wp2_with fail
      refine HE.out.mono ?_
      rintro e w5 ⟨rfl, hb5⟩
      have HR5 := Lib.hid (HR1.out.quiet (Fr.of_below hb5))
      have hblk : Blk w5 wr.heap.size #[.int .i64 f0, .int .i64 f1, .int .i64 f2, .int .i64 f3, .int .i64 f4] 29 := (hb5.block _ (by simp)).trans HN.out
      have HBLK := Lib.hid hblk
      have y0 := hblk.cell 0; have y1 := hblk.cell 1; have y2 := hblk.cell 2; have y3 := hblk.cell 3; have y4 := hblk.cell 4
      simp at y0 y1 y2 y3 y4
      generalize wr.heap.size = pm at *
      clear hblk hb5 HE HN HR1 x0 x1 x2 x3 x4
      cases ie
      case true =>
        rw [if_pos rfl] at HQ
        by_cases c4 : f0 = 4
        case neg =>
          have c41 : (f0 == 4) = false := by simp [c4]
          rw [if_neg c4] at HQ
          obtain ⟨w6, es2, hdel, hR6⟩ := HR5.out.drop f2 hmi.2.2.1
          have HR6 := Lib.hid hR6
          clear hR6 c4
          go_wp2
          go_roundw
          case rel => exact ⟨i + 1, _, _, _, _, _, _, _, by omega, by go_num, rfl, Lib.hid (by rw [gOf_drop]; exact HQ.out), HR6⟩
          case measure => simp [intOf]; omega
        case pos =>
          have c41 : (f0 == 4) = true := by simp [c4]
          rw [if_pos c4] at HQ
          obtain ⟨pv, hlook, hU⟩ := HR5.out.undo (by omega) f2 hmi.2.2.1
          have hgl := HR5.out.glen f2
          have hlk := hlook w5 rfl
          have HU := Lib.hid hU
          clear hU hlook
          go_wp2_with fail
          refine HU.out.mono ?_
          rintro e w6 ⟨A6, c6, rfl, hr6, hb6⟩
          obtain ⟨Lr, hLr⟩ : ∃ z, z = (gOf lg f2).reverse := ⟨_, rfl⟩
          rw [← hLr] at hr6 HQ ⊢
          have hlrl : Lr.length ≤ i := by rw [hLr, List.length_reverse]; exact hgl
          clear hLr HU
          have HI0 : Hid (InAt w bm i cs lg es ck P U Lr (.slice A6 Lr.length c6) w5.heap.size pm #[.int .i64 f0, .int .i64 f1, .int .i64 f2, .int .i64 f3, .int .i64 f4] 0 cs w6) := Lib.hid {
            eq := rfl
            rp := HR5.out.quiet (Fr.of_below hb6)
            row := hr6
            blk := (hb6.block _ HBLK.out.lt).trans HBLK.out }
          generalize w5.heap.size = bs at *
          clear HR5 HBLK y0 y1 y2 y3 y4 hr6 hb6 hlk
          go_wp2
          go_loopw [35] (fun v35 wi => ∃ (j : Nat) (cs2 : Cs), j ≤ Lr.length ∧ v35 = .int .i64 j ∧ Hid (InAt w bm i cs lg es ck P U Lr (.slice A6 Lr.length c6) bs pm #[.int .i64 f0, .int .i64 f1, .int .i64 f2, .int .i64 f3, .int .i64 f4] j cs2 wi)) (fun v35 _ => Lr.length - (intOf v35).toNat)
          case atStart => exact ⟨0, cs, Nat.zero_le _, rfl, HI0⟩
          case round =>
            clear HI0
            obtain ⟨j, cs2, hj, rfl, HI⟩ := hrel
            by_cases hjl : j < Lr.length
            · obtain ⟨A7, c7, e7, hc7, hC7⟩ := Kd.R_reads HI.out.row
              injection e7 with e7 _ e8
              subst e7 e8
              obtain ⟨ad7, eA7, z0, z1⟩ := at_T76 hC7 (j : Int) (by omega) (by omega)
              cases eA7
              have hr7 : rd_T76 Lr (j : Int) = Lr[j] := by unfold rd_T76; simp [hjl]
              rw [hr7] at z0 z1
              simp only [Int.toNat_natCast] at z0 z1
              have hsq := HI.out.eq
              rw [List.drop_eq_getElem_cons hjl] at hsq
              generalize Lr[j] = x at z0 z1 hsq
              obtain ⟨g0, g1⟩ := x
              dsimp only at z0 z1
              simp only [setAll] at hsq
              obtain ⟨bx, hbx⟩ : ∃ z : Array Value, z = #[.int .i64 g0, .int .i64 g1] := ⟨_, rfl⟩
              have hqa : Quiet wr (wr.alloc (.cells bx 62)) := (Fr.refl _ wr).alloc _
              have HI1 := Lib.hid (HI.out.rp.quiet hqa)
              have HS := Lib.hid (ceSet HI1.out.ce (Nat.le_trans HI1.out.csl (by decide)) g0 g1)
              have HRW := Lib.hid (Kd.R_below HI.out.row ((Below.refl wr.heap.size wr).alloc (Nat.le_refl _) (.cells bx 62)))
              have HBK := Lib.hid (HI.out.blk.alloc (.cells bx 62))
              rw [hbx] at HI1 HS HRW HBK
              have HSQ := Lib.hid hsq
              clear hC7 hsq hbx hqa HI hr7
              go_wp2_with fail
              refine HS.out.mono ?_
              rintro e w8 ⟨rfl, hce8, htf8⟩
              have HI8 : Hid (InAt w bm i cs lg es ck P U Lr (.slice _ Lr.length c6) bs pm #[.int .i64 f0, .int .i64 f1, .int .i64 f2, .int .i64 f3, .int .i64 f4] (j + 1) (cSet g0 g1 cs2).1 w8) := Lib.hid {
                eq := HSQ.out
                rp := HI1.out.set hce8 (cSet_len _ _ _) htf8
                row := Pr_tfr HRW.out htf8
                blk := htf8.blk HBK.out (by decide) }
              clear hce8 htf8 HS HI1 HRW HBK HSQ
              go_wp2
              go_roundw
              case rel => exact ⟨j + 1, _, by omega, by go_num, HI8⟩
              case measure => simp [intOf]; omega
            · have ej : j = Lr.length := by omega
              have hse := HI.out.eq
              rw [List.drop_of_length_le (by omega)] at hse
              simp only [setAll] at hse
              have y2 := HI.out.blk.cell 2
              simp at y2
              obtain ⟨w9, es2, hdel, hR9⟩ := HI.out.rp.drop f2 hmi.2.2.1
              have HR9 := Lib.hid hR9
              have HSE := Lib.hid hse
              clear hR9 hse HI
              go_wp2
              go_roundw
              case rel => exact ⟨i + 1, _, _, _, _, _, _, _, by omega, by go_num, rfl, Lib.hid (by rw [gOf_drop, HSE.out]; exact HQ.out), HR9⟩
              case measure => simp [intOf]; omega
      rw [if_neg (by simp)] at HQ
      have HE := Lib.hid (wAcc w5 ⟨f0, f1, f2, f3, f4⟩)
      have hacc : acc ⟨f0, f1, f2, f3, f4⟩ = true → f0 ≠ 1 → f0 = 2 := fun h h1 => by unfold acc at h; simp [h1] at h; exact h
      generalize acc ⟨f0, f1, f2, f3, f4⟩ = ia at HE HQ hacc
      go_wp2_with fail
      refine HE.out.mono ?_
      rintro e w6 ⟨rfl, hb6⟩
      have HR6 := Lib.hid (HR5.out.quiet (Fr.of_below hb6))
      have hblk : Blk w6 pm #[.int .i64 f0, .int .i64 f1, .int .i64 f2, .int .i64 f3, .int .i64 f4] 29 := (hb6.block _ HBLK.out.lt).trans HBLK.out
      have HBLK6 := Lib.hid hblk
      have z0 := hblk.cell 0; have z2 := hblk.cell 2; have z3 := hblk.cell 3; have z4 := hblk.cell 4
      simp at z0 z2 z3 z4
      clear hblk hb6 HE HR5 HBLK y0 y1 y2 y3 y4
      cases ia
      case false =>
        rw [if_neg (by simp)] at HQ
        go_wp2
        go_roundw
        case rel => exact ⟨i + 1, _, _, _, _, _, _, _, by omega, by go_num, rfl, HQ, Lib.hid HR6.out.next⟩
        case measure => simp [intOf]; omega
      rw [if_pos rfl] at HQ
      have HG := Lib.hid (ceGet HR6.out.ce (Nat.le_trans HR6.out.csl (by decide)) f3)
      obtain ⟨gv, gi, hg1, hg2⟩ : ∃ (gv : Int) (gi : Bool), gv = (cGet f3 cs).1 ∧ gi = (cGet f3 cs).2 := ⟨_, _, rfl, rfl⟩
      rw [← hg1, ← hg2] at HG HQ
      clear hg1 hg2
      cases gi
      case false =>
        rw [if_pos rfl] at HQ
        go_wp2_with (go_at_call 39; refine HG.out.mono ?_; rintro e w' ⟨rfl, rfl⟩)
        go_roundw
        case rel => exact ⟨i + 1, _, _, _, _, _, _, _, by omega, by go_num, rfl, HQ, Lib.hid HR6.out.next⟩
        case measure => simp [intOf]; omega
      rw [if_neg (by simp)] at HQ
      by_cases c1 : f0 = 1
      · rw [if_pos c1] at HQ
        have c11 : (f0 == 1) = true := by simp [c1]
        by_cases c5 : gv = f4
        · have c51 : (gv != f4) = false := by simp [c5]
          have c52 : (gv == f4) = true := by simp [c5]
          rw [c52, Bool.and_true] at HQ
          clear c1 c5 c52
          go_wp2_with (go_at_call 39; refine HG.out.mono ?_; rintro e w' ⟨rfl, rfl⟩)
          go_roundw
          case rel => exact ⟨i + 1, _, _, _, _, _, _, _, by omega, by go_num, rfl, HQ, Lib.hid HR6.out.next⟩
          case measure => simp [intOf]; omega
        · have c51 : (gv != f4) = true := by simp [c5]
          have c52 : (gv == f4) = false := by simp [c5]
          rw [c52, Bool.and_false] at HQ
          clear c1 c5 c52
          go_wp2_with (go_at_call 39; refine HG.out.mono ?_; rintro e w' ⟨rfl, rfl⟩)
          go_roundw
          case rel => exact ⟨i + 1, _, _, _, _, _, _, _, by omega, by go_num, rfl, HQ, Lib.hid HR6.out.next⟩
          case measure => simp [intOf]; omega
      rw [if_neg c1] at HQ
      have c11 : (f0 == 1) = false := by simp [c1]
      clear c1 hacc
      by_cases c2 : f2 > 0
      case neg =>
        rw [if_neg c2] at HQ
        have c21 : decide (f2 > 0) = false := by simpa using c2
        have hno := HR6.out.pos f2 (by omega)
        have hlk : (Instr.lookup 57 (.map (some bm)) (iK f2) false).run Try.prog w6 = .ok (.pointer none) w6 := by
          rcases HR6.out.lm.look f2 hmi.2.2.1 with ⟨_, _, h3⟩ | ⟨L, h1, _⟩
          · exact h3 w6 rfl
          · rw [hno] at h1; cases h1
        have HW := Lib.hid (wWroteNil w6 f3 gv)
        have HS := Lib.hid (ceSet HR6.out.ce (Nat.le_trans HR6.out.csl (by decide)) f3 f4)
        clear hno
        go_wp2_with (first | (go_at_call 39; refine HG.out.mono ?_; rintro e w' ⟨rfl, rfl⟩) | (go_at_call 41; refine HW.out.mono ?_; rintro e w' ⟨rfl, rfl⟩) | (go_at_call 38; refine HS.out.mono ?_; rintro e w8 ⟨rfl, hce8, htf8⟩; have HR8 := Lib.hid (HR6.out.set hce8 (cSet_len _ _ _) htf8); clear hce8 htf8))
        go_roundw
        case rel => exact ⟨i + 1, _, _, _, _, _, _, _, by omega, by go_num, rfl, HQ, Lib.hid HR8.out.next⟩
        case measure => simp [intOf]; omega
      rw [if_pos c2] at HQ
      have c21 : decide (f2 > 0) = true := by simpa using c2
      rcases HR6.out.lm.look f2 hmi.2.2.1 with ⟨h1, h2, h3⟩ | ⟨L, h1, h2, h3, h4⟩
      · have hlk := h3 w6 rfl
        have HB8 := Lib.hid (wBegin w6.drew f2)
        have HR8 := Lib.hid (HR6.out.quiet ((Fr.refl _ w6).drew))
        have hBK : Blk w6.drew pm #[.int .i64 f0, .int .i64 f1, .int .i64 f2, .int .i64 f3, .int .i64 f4] 29 := HBLK6.out
        have HBK := Lib.hid hBK
        have HH2 := Lib.hid h2
        have hg0 := gOf_none h1
        rw [hg0] at HQ
        have hk2 := hmi.2.2.1
        have HK2 := Lib.hid hk2
        clear hBK h1 h2 h3 hg0 hmi hk2
        go_upto_region 19 with (go_at_call 39; refine HG.out.mono ?_; rintro e w' ⟨rfl, rfl⟩)
        go_region_law (first
          | (go_simp; go_at_call 40; refine HB8.out.mono ?_; rintro e w9 ⟨pb, rfl, hpb, hlg9, hb9⟩; obtain ⟨w10, hup, hbk10, hl10, hw10⟩ := HR8.out.fresh f2 HK2.out c2 HH2.out hb9 pb hpb hlg9 HBK.out; have HW := Lib.hid (hw10 f3 gv); have hbk9 : Blk w9 pm #[.int .i64 f0, .int .i64 f1, .int .i64 f2, .int .i64 f3, .int .i64 f4] 29 := (hb9.block _ HBK.out.lt).trans HBK.out; have u2 := hbk9.cell 2; simp at u2; clear hbk9; have v2 := hbk10.cell 2; have v3 := hbk10.cell 3; simp at v2 v3; have HB10 := Lib.hid hbk10; clear hbk10 hw10 hb9 hlg9))
        all_goals
          go_wp2_with (first | (go_at_call 41; refine HW.out.mono ?_; rintro e w7 ⟨rfl, ⟨es7, ck7, P7, U7, hR7⟩, hbk7⟩; have HR7 := Lib.hid hR7; have v0 := hbk7.cell 0; have v3 := hbk7.cell 3; have v4 := hbk7.cell 4; simp at v0 v3 v4; have HS := Lib.hid (ceSet HR7.out.ce (Nat.le_trans HR7.out.csl (by decide)) f3 f4); clear hR7 hbk7) | (go_at_call 38; refine HS.out.mono ?_; rintro e w8 ⟨rfl, hce8, htf8⟩; have HR8 := Lib.hid (HR7.out.set hce8 (cSet_len _ _ _) htf8); clear hce8 htf8))
          go_roundw
          case rel => exact ⟨i + 1, _, _, _, _, _, _, _, by omega, by go_num, rfl, Lib.hid (by rw [gOf_upd]; exact HQ.out), HR8⟩
          case measure => simp [intOf]; omega
      · have hlk := h4 w6 rfl
        have HL := Lib.hid h3
        have HX2 := Lib.hid h2
        have HW := Lib.hid (wWrote w6 w.heap.size (P f2) L (U f2) h3 (Nat.le_trans (HR6.out.len f2 L h1) (by omega)) f3 gv)
        have hg0 := gOf_some h1
        rw [hg0] at HQ
        have HLG := Lib.hid h1
        clear h1 h2 h3 h4 hg0
        go_wp2_with (first | (go_at_call 39; refine HG.out.mono ?_; rintro e w' ⟨rfl, rfl⟩) | (go_at_call 41; refine HW.out.mono ?_; rintro e w7 ⟨rfl, uv, hl7, hat7, hf7⟩; have HR7 := Lib.hid (HR6.out.wrote f2 HX2.out L HLG.out f3 gv uv HL.out hl7 hat7 hf7); have hbk7 : Blk w7 pm #[.int .i64 f0, .int .i64 f1, .int .i64 f2, .int .i64 f3, .int .i64 f4] 29 := logKeeps HL.out hf7 HBLK6.out (by decide) (by decide); have v0 := hbk7.cell 0; have v3 := hbk7.cell 3; have v4 := hbk7.cell 4; simp at v0 v3 v4; have HS := Lib.hid (ceSet HR7.out.ce (Nat.le_trans HR7.out.csl (by decide)) f3 f4); clear hl7 hat7 hf7 hbk7) | (go_at_call 38; refine HS.out.mono ?_; rintro e w8 ⟨rfl, hce8, htf8⟩; have HR8 := Lib.hid (HR7.out.set hce8 (cSet_len _ _ _) htf8); clear hce8 htf8))
        go_roundw
        case rel => exact ⟨i + 1, _, _, _, _, _, _, _, by omega, by go_num, rfl, Lib.hid (by rw [gOf_upd]; exact HQ.out), HR8⟩
        case measure => simp [intOf]; omega
    · have e : i = l.length := by omega
      have hq := HQ.out
      rw [List.drop_of_length_le (by omega)] at hq
      simp only [repG] at hq
      have HA := Lib.hid (ceAll HR.out.ce (Nat.le_trans HR.out.csl (by decide)))
      have hcl := HR.out.csl
      have HB := Lib.hid HR.out.bel
      have HQ2 := Lib.hid hq
      clear hq HR HQ
      go_wp2_with fail
      refine HA.out.mono ?_
      rintro e2 w2 ⟨v2, rfl, hr2, hq2⟩
      have HR2 := Lib.hid hr2; have HQQ := Lib.hid hq2
      clear hr2 hq2 HA
      go_wp2
      go_ret2
      rw [← HQ2.out]
      exact ⟨_, _, rfl, HB.out.size, R22.of HR2.out, hcl, HB.out.quiet HQQ.out⟩
end Go.Proofs.Ytadepdeckapgcaa.Hi
end

section
namespace Go.Proofs.Ytadepdeckapgcaa.Hi
open Go.Proofs.Ytadepdeckapgcaa Go.RowKit Go.Maps Go.Proofs.YtadepdeckapgcaaW.PrintWords Go.Proofs.YtadepdeckapgcaaW.PrintLast Go.Proofs.YtadepdeckapgcaaW.PrintMore Go.Proofs.Ytadepdeckapgcaa.PHj Go.Proofs.Ytadepdeckapgcaa.PHi
set_option linter.unusedVariables false
set_option linter.unusedSimpArgs false
abbrev gA (n : Int) (v : Value) : Value := .agg #[.slice none 0 0, .int .i64 n, .int .i64 0, v, .slice none 0 0]
theorem wGBegin (w : World) (n : Int) : Calls Try.prog 46 #[.slice none 0 0, .int .i64 n] w fun e w' => e = .returned (gA n (.slice none 0 0)) ∧ Quiet w w' := by
  go_enter Try.func46, Try.ntmps46
  go_wp2
  refine bodyPost_ret (v := gA n (.slice none 0 0)) (by simp [results, Try.results46, go_sem]) rfl ?_
  exact ⟨rfl, by (repeat (first | exact Fr.refl _ _ | assumption | (refine Fr.quiet ?_ (by assumption)) | refine Fr.quiet ?_ HF.out | refine Fr.quiet ?_ HF2.out | refine Fr.drew ?_ | refine Fr.drewN ?_ _ | refine Fr.alloc ?_ _ | refine Fr.setCell ?_ (.inr (by first | omega | (simp; done) | (simp; omega))) _))⟩
set_option maxHeartbeats 4000000 in
theorem wGUndo (w : World) (A : Option Addr) (c : Nat) (L : List Pr) (hC : Kd.C kPr w A L.length L) (hl : L.length ≤ 1000000) (n : Int) :
    Calls Try.prog 44 #[gA n (.slice A L.length c)] w fun e w' => ∃ A' c', e = .returned (.slice A' L.reverse.length c') ∧ Kd.R kPr 76 w' w.heap.size (fun _ => True) (.slice A' L.reverse.length c') L.reverse ∧ Below w.heap.size w w' := by
  have HC := Lib.hid hC
  clear hC
  have HB0 : Hid (Below w.heap.size w ((w.alloc (.cells #[.slice none 0 0, .int .i64 n, .int .i64 0, .slice A L.length c, .slice none 0 0] 72)).alloc (.cells #[] 76))) := ((Below.refl _ _).alloc (Nat.le_refl _) _).alloc (by simp) _
  have HX0 : Hid (Blk ((w.alloc (.cells #[.slice none 0 0, .int .i64 n, .int .i64 0, .slice A L.length c, .slice none 0 0] 72)).alloc (.cells #[] 76)) w.heap.size #[.slice none 0 0, .int .i64 n, .int .i64 0, .slice A L.length c, .slice none 0 0] 72) := (Blk.new w _ _).alloc _
  have HR0 : Hid (Kd.R kPr 76 ((w.alloc (.cells #[.slice none 0 0, .int .i64 n, .int .i64 0, .slice A L.length c, .slice none 0 0] 72)).alloc (.cells #[] 76)) w.heap.size (fun _ => True) (.slice (some ⟨w.heap.size + 1, 0, none⟩) 0 0) []) := by
    have q := World.ownsRow_lit (base := w.heap.size) (e := 76) (size := 2) (w.alloc (.cells #[.slice none 0 0, .int .i64 n, .int .i64 0, .slice A L.length c, .slice none 0 0] 72)) #[] 0 (by simp) (by simp) (by simp)
    rw [World.size_alloc] at q
    exact ⟨fun _ _ => trivial, [], q, Reps.none _ _⟩
  go_enter Try.func44, Try.ntmps44
  go_wp2
  go_loopw [3, 4] (fun v3 v4 wr => ∃ (k : Nat) (A3 : Option Addr) (c3 : Nat), k ≤ L.length ∧ v4 = .int .i64 ((L.length : Int) - 1 - k) ∧ v3 = .slice A3 (L.reverse.take k).length c3 ∧ Hid (Kd.R kPr 76 wr w.heap.size (fun _ => True) (.slice A3 (L.reverse.take k).length c3) (L.reverse.take k)) ∧ Hid (Blk wr w.heap.size #[.slice none 0 0, .int .i64 n, .int .i64 0, .slice A L.length c, .slice none 0 0] 72) ∧ Hid (Below w.heap.size w wr)) (fun _ v4 _ => ((intOf v4) + 1).toNat)
  case atStart => exact ⟨0, _, _, Nat.zero_le _, by go_num, rfl, HR0, HX0, HB0⟩
  case round =>
    clear HR0 HX0 HB0
    obtain ⟨k, A3, c3, hk, rfl, rfl, HR, HX, HB⟩ := hrel
    by_cases hlt : k < L.length
    · obtain ⟨j, hj⟩ : ∃ j : Nat, j = L.length - 1 - k := ⟨_, rfl⟩
      have hje : (L.length : Int) - 1 - k = (j : Int) := by omega
      have hjl : j < L.length := by omega
      rw [hje]
      obtain ⟨ad, eA, x0, x1⟩ := at_T76 HC.out (j : Int) (by omega) (by omega)
      cases eA
      have hr : rd_T76 L (j : Int) = L[j] := by unfold rd_T76; simp [hjl]
      rw [hr] at x0 x1
      simp only [Int.toNat_natCast] at x0 x1
      have hM : L.reverse.take (k + 1) = L.reverse.take k ++ [L[j]] := by
        rw [List.take_succ_eq_append_getElem (by simpa using hlt), List.getElem_reverse]
        congr 2
        simp only [hj]
      have hml : (L.reverse.take k).length = k := by simp; omega
      have hml2 : (L.reverse.take (k + 1)).length = k + 1 := by simp; omega
      have HMM := Lib.hid hM
      rw [hml] at HR ⊢
      obtain ⟨M2, hM2⟩ : ∃ z, z = L.reverse.take (k + 1) := ⟨_, rfl⟩
      rw [← hM2] at HMM hml2
      have HM2 := Lib.hid hM2
      clear hM2
      generalize L.reverse.take k = M at HMM HR hml
      generalize L[j] = x at x0 x1 HMM
      obtain ⟨f0, f1⟩ := x
      dsimp only at x0 x1
      replace x0 := (HB.out.cell (World.block_lt_of_cell? w _ x0)).trans x0
      replace x1 := (HB.out.cell (World.block_lt_of_cell? w _ x1)).trans x1
      have y3 := HX.out.cell 3
      simp at y3
      clear hr hM hj
      go_wp2_with (at_builtin; refine Kd.R_append kPr (w0 := w) w.heap.size rfl (.tmp 14) (.tmp 20) 39 76 (.agg #[.int .i64 0, .int .i64 0]) 16 rfl Try.underlying39 info76 rfl (by decide) (by decide) _ M ⟨f0, f1⟩ [.int .i64 f0, .int .i64 f1] (fun _ => True) (fun _ => False) rfl rfl (k76_mkM _ _ _ _) (fun _ q => q.elim) (fun _ _ => trivial) HR.out HB.out HB.out.size (by omega) ?_; intro v1 w1 hR1 hB1 hg1 _; have HX1 := Lib.hid ((hg1.block _ HX.out.lt (Kd.R_ne HR.out HX.out (by decide))).trans HX.out); have HR1 := Lib.hid hR1; have HB1 := Lib.hid hB1; clear hR1 hB1 hg1)
      go_roundw
      case rel =>
        rw [← HMM.out] at HR1
        rw [HM2.out] at HR1
        obtain ⟨A4, c4, rfl⟩ := Kd.R_slice HR1.out
        exact ⟨k + 1, A4, c4, by omega, by go_num, rfl, HR1, HX1, HB1⟩
      case measure => simp [intOf] <;> omega
    · obtain rfl : k = L.length := by omega
      have hM : L.reverse.take L.length = L.reverse := by rw [List.take_of_length_le (by simp)]
      rw [hM] at HR ⊢
      have hneg : (L.length : Int) - 1 - L.length = -1 := by omega
      rw [hneg]
      clear hM
      go_wp2
      go_ret
      exact ⟨_, _, rfl, HR.out, HB.out⟩
theorem has_l0 (L : List Pr) (o : Int) (hl : L.length ≤ 1000000) : ∀ n k (i : Nat), L.length - i = n → i ≤ L.length → n < k → logjamref23_Has.l0 k L o (i : Int) = some ((L.drop i).any fun x => x.f0 == o)
  | 0, 0, i, _, _, h => by omega
  | n + 1, 0, i, _, _, h => by omega
  | 0, k + 1, i, h, hi, _ => by
    simp only [logjamref23_Has.l0]
    rw [if_neg (by omega), List.drop_of_length_le (by omega)]; rfl
  | n + 1, k + 1, i, h, hi, hk => by
    have hlt : i < L.length := by omega
    simp only [logjamref23_Has.l0]
    rw [if_pos (by omega), if_pos (by omega), show wrap64 ((i : Int) + 1) = ((i + 1 : Nat) : Int) by unfold wrap64; omega, has_l0 L o hl n k (i + 1) (by omega) (by omega) (by omega), List.drop_eq_getElem_cons hlt, List.any_cons]
    have hr : rd_T76 L (i : Int) = L[i] := by unfold rd_T76; simp [hlt]
    rw [hr]
    split
    · rename_i e; simp [e]
    · rename_i e; rw [beq_eq_false_iff_ne.2 e, Bool.false_or]
theorem wHas23 (w : World) (A : Option Addr) (c : Nat) (L : List Pr) (hc : L.length ≤ c) (hC : Kd.C kPr w A L.length L) (hl : L.length ≤ 1000000) (o : Int) :
    Calls Try.prog 57 #[.slice A L.length c, .int .i64 o] w fun e w' => e = .returned (.bool (L.any fun x => x.f0 == o)) ∧ Below w.heap.size w w' :=
  (logjamref23_Has.calls (L.length + 1) A c L o _ w hC hc (has_l0 L o hl _ _ 0 rfl (by omega) (by omega))).mono fun e w' ⟨h1, h2⟩ => ⟨h1, by obtain ⟨n, rfl⟩ := h2; exact ⟨rfl, rfl, rfl, Nat.le_refl _, fun _ _ => rfl⟩⟩
theorem own2_at {w : World} {base : Nat} {ok : Nat → Prop} {v : Value} {L : List Pr} (h : Kd.R kPr 76 w base ok v L) (k : Nat) (hk : v.ownBlock = some k) : base ≤ k ∧ k < w.heap.size := by
  obtain ⟨inner, ho⟩ := Kd.R_own h
  exact ho.lt k hk
set_option maxHeartbeats 4000000 in
theorem wGWrote (w : World) (bs : Nat) (A : Option Addr) (c : Nat) (L : List Pr) (hR : R22 w bs (.slice A L.length c) L) (hl : L.length ≤ 1000000) (n o was : Int) :
    Calls Try.prog 48 #[gA n (.slice A L.length c), .int .i64 o, .int .i64 was] w fun e w' => ∃ A' c' bs', e = .returned (gA n (.slice A' (wroteL L o was).length c')) ∧ (bs' = bs ∨ w.heap.size ≤ bs') ∧ R22 w' bs' (.slice A' (wroteL L o was).length c') (wroteL L o was) ∧ Below w.heap.size w w' := by
  obtain ⟨A0, c0, e0, hc, hC⟩ := hR.reads
  injection e0 with e1 _ e2
  subst e1 e2
  have HC := Lib.hid hC; have HRR := Lib.hid hR
  clear hC hR
  obtain ⟨wa, hwa⟩ : ∃ z, z = (w.alloc (.cells #[.slice none 0 0, .int .i64 n, .int .i64 0, .slice A L.length c, .slice none 0 0] 72)).alloc (.cells #[.slice none 0 0, .int .i64 0, .int .i64 0, .slice none 0 0, .slice none 0 0] 72) := ⟨_, rfl⟩
  have hB0 : Below w.heap.size w wa := by rw [hwa]; exact ((Below.refl _ _).alloc (Nat.le_refl _) _).alloc (by simp) _
  have hX0 : Blk wa w.heap.size #[.slice none 0 0, .int .i64 n, .int .i64 0, .slice A L.length c, .slice none 0 0] 72 := by rw [hwa]; exact (Blk.new w _ _).alloc _
  have hT0 : Blk wa (w.heap.size + 1) #[.slice none 0 0, .int .i64 0, .int .i64 0, .slice none 0 0, .slice none 0 0] 72 := by rw [hwa]; have q := Blk.new (w.alloc (.cells #[.slice none 0 0, .int .i64 n, .int .i64 0, .slice A L.length c, .slice none 0 0] 72)) #[.slice none 0 0, .int .i64 0, .int .i64 0, .slice none 0 0, .slice none 0 0] 72; rwa [World.size_alloc] at q
  have HH := Lib.hid (wHas23 wa A c L hc (Kd.C_below HC.out hB0) hl o)
  have y3 := hX0.cell 3; simp at y3
  have HB0 := Lib.hid hB0; have HX0 := Lib.hid hX0; have HT0 := Lib.hid hT0
  clear hB0 hX0 hT0
  subst hwa
  unfold wroteL
  generalize L.any (fun x => x.f0 == o) = an at HH
  cases an
  case true =>
    rw [if_pos rfl]
    go_enter Try.func48, Try.ntmps48
    go_wp2_with fail
    refine HH.out.mono ?_
    rintro e w5 ⟨rfl, hb5⟩
    have hX5 := (hb5.block _ HX0.out.lt).trans HX0.out
    have hT5 := (hb5.block _ HT0.out.lt).trans HT0.out
    have HB5 : Hid (Below w.heap.size w w5) := HB0.out.trans (hb5.mono HB0.out.size)
    have hs5 : w.heap.size + 2 ≤ w5.heap.size := by have := hb5.size; simpa using this
    have HC5 := Lib.hid (Kd.C_below HC.out HB5.out)
    have HX5 : Hid (Blk w5 w.heap.size #[.slice none 0 0, .int .i64 n, .int .i64 0, .slice A L.length c, .slice none 0 0] 72) := Lib.hid hX5
    have HT5 : Hid (Blk w5 (w.heap.size + 1) #[.slice none 0 0, .int .i64 0, .int .i64 0, .slice none 0 0, .slice none 0 0] 72) := Lib.hid hT5
    clear hX5 hT5 hb5 HH HX0 HT0 HB0 HC y3
    have z0 := HX5.out.cell 0; have z1 := HX5.out.cell 1; have z2 := HX5.out.cell 2; have z3 := HX5.out.cell 3; have z4 := HX5.out.cell 4
    simp at z0 z1 z2 z3 z4
    have u := fun i => HT5.out.free i
    have u2 := fun i => HX5.out.free i
    have t0 := HT5.out.cell 0; have t1 := HT5.out.cell 1; have t2 := HT5.out.cell 2; have t3 := HT5.out.cell 3; have t4 := HT5.out.cell 4
    simp at t0 t1 t2 t3 t4
    go_wp2
    have hq := (((((HT5.out.set 0 (.slice none 0 0)).set 1 (.int .i64 n)).set 2 (.int .i64 0)).set 3 (.slice A L.length c)).set 4 (.slice none 0 0))
    simp at hq
    refine bodyPost_ret (results_cell_row rfl _ _ (w.heap.size + 1) 72 #[.slice none 0 0, .int .i64 n, .int .i64 0, .slice A L.length c, .slice none 0 0] (0, 0) _ rfl hq Try.underlying72 rfl (by kernel_rfl)) rfl ?_
    have hbl : Below w.heap.size w (((((w5.setCell ⟨w.heap.size + 1, 0, none⟩ (.slice none 0 0)).setCell ⟨w.heap.size + 1, 1, none⟩ (.int .i64 n)).setCell ⟨w.heap.size + 1, 2, none⟩ (.int .i64 0)).setCell ⟨w.heap.size + 1, 3, none⟩ (.slice A L.length c)).setCell ⟨w.heap.size + 1, 4, none⟩ (.slice none 0 0)) :=
      ((((HB5.out.setCell (Nat.le_succ _) _).setCell (Nat.le_succ _) _).setCell (Nat.le_succ _) _).setCell (Nat.le_succ _) _).setCell (Nat.le_succ _) _
    exact ⟨A, c, bs, rfl, .inl rfl, Kd.R_below HRR.out hbl, hbl⟩
  case false =>
    rw [if_neg (by simp)]
    go_enter Try.func48, Try.ntmps48
    go_wp2_with fail
    refine HH.out.mono ?_
    rintro e w5 ⟨rfl, hb5⟩
    have hX5 := (hb5.block _ HX0.out.lt).trans HX0.out
    have hT5 := (hb5.block _ HT0.out.lt).trans HT0.out
    have HB5 : Hid (Below w.heap.size w w5) := HB0.out.trans (hb5.mono HB0.out.size)
    have hs5 : w.heap.size + 2 ≤ w5.heap.size := by have := hb5.size; simpa using this
    have HC5 := Lib.hid (Kd.C_below HC.out HB5.out)
    have HX5 : Hid (Blk w5 w.heap.size #[.slice none 0 0, .int .i64 n, .int .i64 0, .slice A L.length c, .slice none 0 0] 72) := Lib.hid hX5
    have HT5 : Hid (Blk w5 (w.heap.size + 1) #[.slice none 0 0, .int .i64 0, .int .i64 0, .slice none 0 0, .slice none 0 0] 72) := Lib.hid hT5
    clear hX5 hT5 hb5 HH HX0 HT0 HB0 HC y3
    have z0 := HX5.out.cell 0; have z1 := HX5.out.cell 1; have z2 := HX5.out.cell 2; have z3 := HX5.out.cell 3; have z4 := HX5.out.cell 4
    simp at z0 z1 z2 z3 z4
    have u := fun i => HT5.out.free i
    have u2 := fun i => HX5.out.free i
    have t0 := HT5.out.cell 0; have t1 := HT5.out.cell 1; have t2 := HT5.out.cell 2; have t3 := HT5.out.cell 3; have t4 := HT5.out.cell 4
    simp at t0 t1 t2 t3 t4
    have HBl : Hid (Below w5.heap.size w5 (w5.alloc (.cells #[] 76))) := (Below.refl _ _).alloc (Nat.le_refl _) _
    have HCl := Lib.hid (Kd.C_below HC5.out HBl.out)
    have HRl : Hid (Kd.R kPr 76 (w5.alloc (.cells #[] 76)) w5.heap.size (fun _ => True) (.slice (some ⟨w5.heap.size, 0, none⟩) 0 0) []) :=
      ⟨fun _ _ => trivial, [], World.ownsRow_lit (base := w5.heap.size) (e := 76) (size := 2) w5 #[] 0 (Nat.le_refl _) (by simp) (by simp), Reps.none _ _⟩
    have a3 : ∀ o, (w5.alloc o).cell? ⟨w.heap.size, 3, none⟩ = some (.slice A L.length c) := fun o => ((HX5.out.alloc o).cell 3).trans rfl
    go_wp2_with (first
      | (at_builtin; refine Kd.R_append_rows kPr (Rr := kPr.K (w5.alloc (.cells #[] 76))) (w0 := w5) w5.heap.size rfl (.tmp 12) (.tmp 14) 39 76 _ 16 rfl Try.underlying39 info76 rfl (by decide) (by decide) _ [] L A L.length c (fun _ => True) (fun _ => False) rfl rfl HRl.out HCl.out (fun x cs hk => by have := k76_open hk; rw [this]; exact k76_mkM _ _ _ x) (fun _ q => q.elim) (fun _ _ => trivial) HBl.out HBl.out.size (by simp; omega) ?_; intro v6 w6 ho6 hb6 hg6 hat6; rw [List.nil_append] at ho6; have HR6 := Lib.hid ho6; have HB6 := Lib.hid hb6; clear ho6 hb6 hg6 hat6)
      | (have hq6 := HR6.out; at_builtin; refine Kd.R_append kPr (w0 := w5) w5.heap.size rfl (.tmp 15) (.tmp 19) 39 76 (.agg #[.int .i64 0, .int .i64 0]) 16 rfl Try.underlying39 info76 rfl (by decide) (by decide) _ L ⟨o, was⟩ [.int .i64 o, .int .i64 was] (fun _ => True) (fun _ => False) rfl rfl (k76_mkM _ _ _ _) (fun _ q => q.elim) (fun _ _ => trivial) HR6.out HB6.out HB6.out.size (by omega) ?_; intro v7 w7 ho7 hb7 hg7 hat7; obtain ⟨L7, hL7⟩ : ∃ z : List Pr, z = L ++ [⟨o, was⟩] := ⟨_, rfl⟩; rw [← hL7] at ho7; have HL7 := Lib.hid hL7; clear hL7; obtain ⟨A7, c7, rfl⟩ := Kd.R_slice ho7; have HR7 := Lib.hid ho7; have HB7 := Lib.hid hb7; have HX7 : Hid (Blk w7 w.heap.size #[.slice none 0 0, .int .i64 n, .int .i64 0, .slice A L.length c, .slice none 0 0] 72) := Lib.hid ((hb7.block _ HX5.out.lt).trans HX5.out); have HT7 : Hid (Blk w7 (w.heap.size + 1) #[.slice none 0 0, .int .i64 0, .int .i64 0, .slice none 0 0, .slice none 0 0] 72) := Lib.hid ((hb7.block _ HT5.out.lt).trans HT5.out); have p0 := HX7.out.cell 0; have p1 := HX7.out.cell 1; have p2 := HX7.out.cell 2; have p3 := HX7.out.cell 3; have p4 := HX7.out.cell 4; simp at p0 p1 p2 p3 p4; have q0 := HT7.out.cell 0; have q1 := HT7.out.cell 1; have q2 := HT7.out.cell 2; have q3 := HT7.out.cell 3; have q4 := HT7.out.cell 4; simp at q0 q1 q2 q3 q4; have s1 := fun i => HX7.out.free i; have s2 := fun i => HT7.out.free i; clear ho7 hb7 hg7 hat7))
    have hq := ((((((HT7.out.set_other (a := ⟨w.heap.size, 3, none⟩) (by simp) (.slice A7 L7.length c7)).set 0 (.slice none 0 0)).set 1 (.int .i64 n)).set 2 (.int .i64 0)).set 3 (.slice A7 L7.length c7)).set 4 (.slice none 0 0))
    simp at hq
    refine bodyPost_ret (results_cell_row rfl _ _ (w.heap.size + 1) 72 #[.slice none 0 0, .int .i64 n, .int .i64 0, .slice A7 L7.length c7, .slice none 0 0] (0, 0) _ rfl hq Try.underlying72 rfl (by kernel_rfl)) rfl ?_
    rw [← HL7.out]
    have hb7 : Below w.heap.size w w7 := HB5.out.trans (HB7.out.mono (by omega))
    have hbl : Below w.heap.size w ((((((w7.setCell ⟨w.heap.size, 3, none⟩ (.slice A7 L7.length c7)).setCell ⟨w.heap.size + 1, 0, none⟩ (.slice none 0 0)).setCell ⟨w.heap.size + 1, 1, none⟩ (.int .i64 n)).setCell ⟨w.heap.size + 1, 2, none⟩ (.int .i64 0)).setCell ⟨w.heap.size + 1, 3, none⟩ (.slice A7 L7.length c7)).setCell ⟨w.heap.size + 1, 4, none⟩ (.slice none 0 0)) :=
      (((((hb7.setCell (Nat.le_refl _) _).setCell (Nat.le_succ _) _).setCell (Nat.le_succ _) _).setCell (Nat.le_succ _) _).setCell (Nat.le_succ _) _).setCell (Nat.le_succ _) _
    have hfr : Fr (fun k => k = w.heap.size ∨ k = w.heap.size + 1) w7 ((((((w7.setCell ⟨w.heap.size, 3, none⟩ (.slice A7 L7.length c7)).setCell ⟨w.heap.size + 1, 0, none⟩ (.slice none 0 0)).setCell ⟨w.heap.size + 1, 1, none⟩ (.int .i64 n)).setCell ⟨w.heap.size + 1, 2, none⟩ (.int .i64 0)).setCell ⟨w.heap.size + 1, 3, none⟩ (.slice A7 L7.length c7)).setCell ⟨w.heap.size + 1, 4, none⟩ (.slice none 0 0)) :=
      (((((((Fr.refl _ w7).setCell (p := ⟨w.heap.size, 3, none⟩) (.inl (.inl rfl)) _).setCell (p := ⟨w.heap.size + 1, 0, none⟩) (.inl (.inr rfl)) _).setCell (p := ⟨w.heap.size + 1, 1, none⟩) (.inl (.inr rfl)) _).setCell (p := ⟨w.heap.size + 1, 2, none⟩) (.inl (.inr rfl)) _).setCell (p := ⟨w.heap.size + 1, 3, none⟩) (.inl (.inr rfl)) _).setCell (p := ⟨w.heap.size + 1, 4, none⟩) (.inl (.inr rfl)) _)
    have hrf := (R22.of HR7.out).fr hfr (fun k hk hF => by
      have := ((own2_at HR7.out) k hk).1
      omega)
    exact ⟨A7, c7, w5.heap.size, rfl, .inr (by omega), hrf, hbl⟩
end Go.Proofs.Ytadepdeckapgcaa.Hi
end

section
namespace Go.Proofs.Ytadepdeckapgcaa.Hi
open Go.Proofs.Ytadepdeckapgcaa Go.RowKit Go.Maps Go.Proofs.YtadepdeckapgcaaW.PrintWords Go.Proofs.YtadepdeckapgcaaW.PrintLast Go.Proofs.YtadepdeckapgcaaW.PrintMore Go.Proofs.Ytadepdeckapgcaa.PHj Go.Proofs.Ytadepdeckapgcaa.PHi
set_option linter.unusedVariables false
set_option linter.unusedSimpArgs false
theorem infoG : (Try.prog.info? 72).map (fun i => (i.zero, i.size, i.bytes)) = some (some (.agg #[.slice none 0 0, .int .i64 0, .int .i64 0, .slice none 0 0, .slice none 0 0]), 5, 88) := by kernel_rfl
structure RfAt (w : World) (i : Nat) (cs : Cs) (v6 : Value) (O : List Og) (v8 : Value) (wr : World) : Prop where
  c : ∃ bs, w.heap.size ≤ bs ∧ R22 wr bs v6 (allL cs)
  o : wr.ownsRow w.heap.size 72 5 v8 O.length (encG O)
  u : ∀ x ∈ O, ∃ A c bs, x.v = .slice A x.u.length c ∧ w.heap.size ≤ bs ∧ R22 wr bs x.v x.u
  un : UnO O
  bel : Quiet w wr
  csl : cs.length ≤ 60
  ol : O.length ≤ i
  ul : ∀ x ∈ O, x.u.length ≤ i
theorem R22.quiet {w w1 : World} {base : Nat} {v : Value} {l : List Sh22} (h : R22 w base v l) (hq : Quiet w w1) : R22 w1 base v l := h.fr hq (fun _ _ q => q)
theorem RfAt.quiet {w : World} {i : Nat} {cs : Cs} {v6 : Value} {O : List Og} {v8 : Value} {wr w' : World} (h : RfAt w i cs v6 O v8 wr) (hq : Quiet wr w') : RfAt w i cs v6 O v8 w' :=
  { h with
    c := by obtain ⟨bs, h1, h2⟩ := h.c; exact ⟨bs, h1, R22.quiet h2 hq⟩
    o := Fr.owns h.o hq (fun _ _ q => q)
    u := fun x hx => by obtain ⟨A, c, bs, h1, h2, h3⟩ := h.u x hx; exact ⟨A, c, bs, h1, h2, R22.quiet h3 hq⟩
    bel := h.bel.quiet hq }
theorem RfAt.next {w : World} {i : Nat} {cs : Cs} {v6 : Value} {O : List Og} {v8 : Value} {wr : World} (h : RfAt w i cs v6 O v8 wr) : RfAt w (i + 1) cs v6 O v8 wr :=
  { h with ol := Nat.le_succ_of_le h.ol, ul := fun x hx => Nat.le_succ_of_le (h.ul x hx) }
theorem RfAt.setc {w : World} {i : Nat} {cs cs2 : Cs} {v6 v62 : Value} {O : List Og} {v8 : Value} {wr : World} (h : RfAt w i cs v6 O v8 wr) (bs : Nat) (hb : w.heap.size ≤ bs) (hr : R22 wr bs v62 (allL cs2)) (hl : cs2.length = cs.length) : RfAt w i cs2 v62 O v8 wr :=
  { h with c := ⟨bs, hb, hr⟩, csl := by rw [hl]; exact h.csl }
theorem R22.grow {w w1 : World} {base : Nat} {v : Value} {l : List Sh22} {row : Option Nat} (h : R22 w base v l) (hg : w.grownBy w1 row) (ht : ∀ g, row = some g → ∃ cells, w.heap[g]? = some (.cells cells 72 (0, 0))) : R22 w1 base v l :=
  h.fr (F := fun k => row = some k) (Fr.grown (Fr.refl _ _) hg (fun k hk => .inl hk)) (fun k hk hF => by
    obtain ⟨inner, ho⟩ := Kd.R_own h
    obtain ⟨c2, hc2⟩ := own_typed ho k hk
    obtain ⟨cells, hc⟩ := ht k hF
    rw [hc] at hc2
    injection hc2 with hc2
    injection hc2 with _ hc2
    exact absurd hc2 (by decide))
theorem RfAt.at {w : World} {i : Nat} {cs : Cs} {v6 : Value} {O : List Og} {g co : Nat} {wr : World} (h : RfAt w i cs v6 O (.slice (some ⟨g, 0, none⟩) O.length co) wr) (a : Nat) (ha : a < O.length) :
    wr.cell? ⟨g, a * 5, none⟩ = some (.slice none 0 0) ∧ wr.cell? ⟨g, a * 5 + 1, none⟩ = some (.int .i64 O[a].n) ∧ wr.cell? ⟨g, a * 5 + 2, none⟩ = some (.int .i64 0) ∧ wr.cell? ⟨g, a * 5 + 3, none⟩ = some O[a].v ∧ wr.cell? ⟨g, a * 5 + 4, none⟩ = some (.slice none 0 0) := by
  obtain ⟨e0, e1, e2, e3, e4⟩ := encG_get O a ha
  exact ⟨(h.o.cellAt _ (by omega)).trans e0, (h.o.cellAt _ (by omega)).trans e1, (h.o.cellAt _ (by omega)).trans e2, (h.o.cellAt _ (by omega)).trans e3, (h.o.cellAt _ (by omega)).trans e4⟩
abbrev put5 (w : World) (g a : Nat) (y : Og) : World := ((((w.setCell ⟨g, a * 5, none⟩ (.slice none 0 0)).setCell ⟨g, a * 5 + 1, none⟩ (.int .i64 y.n)).setCell ⟨g, a * 5 + 2, none⟩ (.int .i64 0)).setCell ⟨g, a * 5 + 3, none⟩ y.v).setCell ⟨g, a * 5 + 4, none⟩ (.slice none 0 0)
theorem RfAt.put {w : World} {i : Nat} {cs : Cs} {v6 : Value} {O : List Og} {g co : Nat} {wr : World} (h : RfAt w i cs v6 O (.slice (some ⟨g, 0, none⟩) O.length co) wr) (a : Nat) (ha : a < O.length) (y : Og) (hy : y.n = O[a].n)
    (hv : ∃ A c bs, y.v = .slice A y.u.length c ∧ w.heap.size ≤ bs ∧ R22 wr bs y.v y.u) (hl : y.u.length ≤ i + 1) : RfAt w (i + 1) cs v6 (O.set a y) (.slice (some ⟨g, 0, none⟩) O.length co) (put5 wr g a y) ∧ wr.grownBy (put5 wr g a y) (some g) := by
  have S1 := h.o.stored (a * 5) (.slice none 0 0)
  have S2 := S1.1.stored (a * 5 + 1) (.int .i64 y.n)
  have S3 := S2.1.stored (a * 5 + 2) (.int .i64 0)
  have S4 := S3.1.stored (a * 5 + 3) y.v
  have S5 := S4.1.stored (a * 5 + 4) (.slice none 0 0)
  have hg : wr.grownBy (put5 wr g a y) (some g) := by
    have q := (((S1.2.trans S2.2).trans S3.2).trans S4.2).trans S5.2
    exact ⟨q.os, q.tape, q.output, q.size, q.block⟩
  have e := encG_set O y a ha
  have ho := S5.1
  rw [e] at ho
  have ht : ∀ k, some g = some k → ∃ cells, wr.heap[k]? = some (.cells cells 72 (0, 0)) := fun k hk => own_typed h.o k hk
  refine ⟨⟨?_, ?_, fun x hx => ?_, h.un.set a ha y hy, ?_, h.csl, ?_, fun x hx => ?_⟩, hg⟩
  · obtain ⟨bs, h1, h2⟩ := h.c
    exact ⟨bs, h1, R22.grow h2 hg ht⟩
  · rw [List.length_set]; exact ho
  · rcases List.mem_or_eq_of_mem_set hx with hx | rfl
    · obtain ⟨A, c, bs, h1, h2, h3⟩ := h.u x hx
      exact ⟨A, c, bs, h1, h2, R22.grow h3 hg ht⟩
    · obtain ⟨A, c, bs, h1, h2, h3⟩ := hv
      exact ⟨A, c, bs, h1, h2, R22.grow h3 hg ht⟩
  · exact h.bel.grown hg (fun k hk => .inr (h.o.lt k hk).1)
  · rw [List.length_set]; exact Nat.le_succ_of_le h.ol
  · rcases List.mem_or_eq_of_mem_set hx with hx | rfl
    · exact Nat.le_succ_of_le (h.ul x hx)
    · exact hl
theorem RfAt.push {w : World} {i : Nat} {cs : Cs} {v6 : Value} {O : List Og} {v8 : Value} {wr w1 : World} (h : RfAt w i cs v6 O v8 wr) (n : Int) (hn : ∀ j (hj : j < O.length), O[j].n ≠ n) (v : Value) (ho : w1.ownsRow w.heap.size 72 5 v (O.length + 1) (encG O ++ gV n (.slice none 0 0))) (hg : wr.grownBy w1 v8.ownBlock) :
    RfAt w (i + 1) cs v6 (O ++ [⟨n, [], .slice none 0 0⟩]) v w1 := by
  have ht : ∀ k, v8.ownBlock = some k → ∃ cells, wr.heap[k]? = some (.cells cells 72 (0, 0)) := fun k hk => own_typed h.o k hk
  refine ⟨?_, ?_, fun x hx => ?_, h.un.push _ hn, ?_, h.csl, ?_, fun x hx => ?_⟩
  · obtain ⟨bs, h1, h2⟩ := h.c
    exact ⟨bs, h1, R22.grow h2 hg ht⟩
  · rw [encG_append]; simpa [encG] using ho
  · rcases List.mem_append.1 hx with hx | hx
    · obtain ⟨A, c, bs, h1, h2, h3⟩ := h.u x hx
      exact ⟨A, c, bs, h1, h2, R22.grow h3 hg ht⟩
    · simp at hx
      subst hx
      exact ⟨none, 0, w.heap.size, rfl, Nat.le_refl _, R22.of (ok := fun _ => True) (Kd.R_nil _ _ _ _ _)⟩
  · exact h.bel.grown hg (fun k hk => .inr (h.o.lt k hk).1)
  · simp; exact h.ol
  · rcases List.mem_append.1 hx with hx | hx
    · exact Nat.le_succ_of_le (h.ul x hx)
    · simp at hx
      subst hx
      exact Nat.zero_le _
theorem RfAt.made {w w1 : World} {cs : Cs} {v6 : Value} (hq : Quiet w w1) (bs : Nat) (hb : w.heap.size ≤ bs) (hr : R22 w1 bs v6 (allL cs)) (hl : cs.length ≤ 60) : RfAt w 0 cs v6 [] (.slice (some ⟨w1.heap.size, 0, none⟩) 0 0) (w1.alloc (.cells #[] 72)) := by
  refine ⟨⟨bs, hb, R22.quiet hr ((Fr.refl _ _).alloc _)⟩, World.ownsRow_lit (base := w.heap.size) (e := 72) (size := 5) w1 #[] 0 hq.size (by simp) (by simp), (fun x hx => absurd hx (by simp)), (by unfold UnO; simp), hq.alloc _, hl, Nat.le_refl _, (fun x hx => absurd hx (by simp))⟩
structure AtAt (w : World) (i : Nat) (cs : Cs) (v6 : Value) (O : List Og) (v8 : Value) (pm : Nat) (ms : Array Value) (wi : World) : Prop where
  rf : RfAt w i cs v6 O v8 wi
  blk : Blk wi pm ms 29
theorem AtAt.quiet {w : World} {i : Nat} {cs : Cs} {v6 : Value} {O : List Og} {v8 : Value} {pm : Nat} {ms : Array Value} {wi w' : World} (h : AtAt w i cs v6 O v8 pm ms wi) (hq : Quiet wi w') : AtAt w i cs v6 O v8 pm ms w' := ⟨h.rf.quiet hq, hq.blk h.blk (fun q => q)⟩
theorem fI_none {o : Int} {l : Cs} (h : fidx o l = none) : fI o l = -1 ∧ cGet o l = (0, false) := by unfold fI cGet; rw [h]; exact ⟨rfl, rfl⟩
theorem fI_some {o : Int} {l : Cs} {k : Nat} (h : fidx o l = some k) : fI o l = (k : Int) ∧ cGet o l = ((cAt l k).2.2, true) := by unfold fI cGet; rw [h]; exact ⟨rfl, rfl⟩
end Go.Proofs.Ytadepdeckapgcaa.Hi
end

section
namespace Go.Proofs.Ytadepdeckapgcaa.Hi
open Go.Proofs.Ytadepdeckapgcaa Go.RowKit Go.Maps Go.Proofs.YtadepdeckapgcaaW.PrintWords Go.Proofs.YtadepdeckapgcaaW.PrintLast Go.Proofs.YtadepdeckapgcaaW.PrintMore Go.Proofs.Ytadepdeckapgcaa.PHj Go.Proofs.Ytadepdeckapgcaa.PHi
set_option linter.unusedVariables false
set_option linter.unusedSimpArgs false
def SetRel (w : World) (i : Nat) (cs : Cs) (O : List Og) (g8 c8 pm : Nat) (ms : Array Value) (bs7 : Nat) (A7 : Option Addr) (c7 : Nat) (Lr : List Pr) (v6 v14 : Value) (wj : World) : Prop :=
  ∃ (j : Nat) (cs2 : Cs) (A8 : Option Addr) (c8' : Nat), j ≤ Lr.length ∧ v14 = .int .i64 j ∧ v6 = .slice A8 (allL cs2).length c8' ∧ Hid (setAll (Lr.drop j) cs2 = setAll Lr cs) ∧ Hid (AtAt w (2 * i) cs2 (.slice A8 (allL cs2).length c8') O (.slice (some ⟨g8, 0, none⟩) O.length c8) pm ms wj) ∧ Hid (R22 wj bs7 (.slice A7 Lr.length c7) Lr)
set_option maxRecDepth 100000 in
set_option maxHeartbeats 16000000 in
theorem wRReplay (w : World) (v : Value) (d : List De22) (hd : d.length ≤ 60) (hD : D22 w v d) (A : Option Addr) (c : Nat) (l : List Mk) (hC : Kd.C k29 w A l.length l) (hl : l.length ≤ 1000) (hm : ∀ m ∈ l, inM m) :
    Calls Try.prog 18 #[v, .slice A l.length c] w fun e w' => ∃ v' bs, e = .returned (.tuple #[v', .bool (repG l (newOf d) (fun _ => []) true).2]) ∧ w.heap.size ≤ bs ∧ R22 w' bs v' (allL (repG l (newOf d) (fun _ => []) true).1) ∧ Quiet w w' := by
  have HC := Lib.hid hC
  have HM := Lib.hid hm
  have HN := Lib.hid (rNew22 w v d hd hD)
  have hnl := newOf_len d
  clear hC hm hD
  go_enter Try.func18, Try.ntmps18
  go_wp2_with fail
  refine HN.out.mono ?_
  rintro e w1 ⟨A1, c1, rfl, hr1, hq1⟩
  have HR0 : Hid (RfAt w 0 (newOf d) (.slice A1 (allL (newOf d)).length c1) [] (.slice (some ⟨w1.heap.size, 0, none⟩) 0 0) (w1.alloc (.cells #[] 72))) := Lib.hid (RfAt.made hq1 _ (Nat.le_refl _) hr1 (by omega))
  clear HN hr1
  go_wp2
  go_loopw [6, 7, 8, 9] (fun v6 v7 v8 v9 wr => ∃ (i : Nat) (cs : Cs) (A6 : Option Addr) (c6 : Nat) (O : List Og) (g8 c8 : Nat) (ok : Bool), i ≤ l.length ∧ v9 = .int .i64 i ∧ v7 = .bool ok ∧ v6 = .slice A6 (allL cs).length c6 ∧ v8 = .slice (some ⟨g8, 0, none⟩) O.length c8 ∧ Hid (repG (l.drop i) cs (gL O) ok = repG l (newOf d) (fun _ => []) true) ∧ Hid (RfAt w (2 * i) cs (.slice A6 (allL cs).length c6) O (.slice (some ⟨g8, 0, none⟩) O.length c8) wr)) (fun _ _ _ v9 _ => l.length - (intOf v9).toNat)
  case atStart => exact ⟨0, _, _, _, [], _, _, _, Nat.zero_le _, rfl, rfl, rfl, rfl, Lib.hid rfl, HR0⟩
  case round =>
    obtain ⟨i, cs, A6, c6, O, g8, c8, ok, hi, rfl, rfl, rfl, rfl, HQ, HR⟩ := hrel
    clear HR0
    by_cases hlt : i < l.length
    · obtain ⟨ad, eA, x0, x1, x2, x3, x4⟩ := at_T29 HC.out (i : Int) (by omega) (by omega)
      cases eA
      have hr : rd_T29 l (i : Int) = l[i] := by unfold rd_T29; simp [hlt]
      rw [hr] at x0 x1 x2 x3 x4
      simp only [Int.toNat_natCast] at x0 x1 x2 x3 x4
      have hmi := HM.out _ (List.getElem_mem hlt)
      have hq := HQ.out
      have hbel := HR.out.bel
      have hbq : Below w.heap.size w wr := hbel.below (fun _ _ q => q)
      rw [List.drop_eq_getElem_cons hlt] at hq
      generalize l[i] = m at x0 x1 x2 x3 x4 hmi hq
      obtain ⟨f0, f1, f2, f3, f4⟩ := m
      dsimp only at x0 x1 x2 x3 x4
      replace x0 := (hbq.cell (World.block_lt_of_cell? w _ x0)).trans x0
      replace x1 := (hbq.cell (World.block_lt_of_cell? w _ x1)).trans x1
      replace x2 := (hbq.cell (World.block_lt_of_cell? w _ x2)).trans x2
      replace x3 := (hbq.cell (World.block_lt_of_cell? w _ x3)).trans x3
      replace x4 := (hbq.cell (World.block_lt_of_cell? w _ x4)).trans x4
      obtain ⟨ms, hms⟩ : ∃ z : Array Value, z = #[.int .i64 f0, .int .i64 f1, .int .i64 f2, .int .i64 f3, .int .i64 f4] := ⟨_, rfl⟩
      have HA0 : Hid (AtAt w (2 * i) cs (.slice A6 (allL cs).length c6) O (.slice (some ⟨g8, 0, none⟩) O.length c8) wr.heap.size ms (wr.alloc (.cells ms 29))) := Lib.hid ⟨HR.out.quiet ((Fr.refl _ wr).alloc _), Blk.new wr ms _⟩
      rw [hms] at HA0
      simp only [repG] at hq
      clear HQ
      have HQ := Lib.hid hq
      have hbw : w.heap.size ≤ wr.heap.size := hbel.size
      have hol := HR.out.ol
      clear hq hbel hbq hr HR hms
      go_wp2
      obtain ⟨wo, hwo⟩ : ∃ x, x = wr := ⟨_, rfl⟩
      subst hwo
      go_loopw [12, 11] (fun v12 v11 wi => ∃ (j : Nat), j ≤ O.length ∧ v12 = .int .i64 j ∧ v11 = .int .i64 (atF O f2 j) ∧ Hid (AtAt w (2 * i) cs (.slice A6 (allL cs).length c6) O (.slice (some ⟨g8, 0, none⟩) O.length c8) wo.heap.size #[.int .i64 f0, .int .i64 f1, .int .i64 f2, .int .i64 f3, .int .i64 f4] wi)) (fun v12 _ _ => O.length - (intOf v12).toNat)
      case atStart => exact ⟨0, Nat.zero_le _, rfl, rfl, HA0⟩
      case round =>
        clear HA0 x0 x1 x2 x3 x4
        obtain ⟨j, hj, rfl, rfl, HA⟩ := hrel
        by_cases hjl : j < O.length
        · obtain ⟨e0, e1, e2, e3, e4⟩ := HA.out.rf.at j hjl
          have y2 := HA.out.blk.cell 2; simp at y2
          have hst : atF O f2 (j + 1) = if O[j].n = f2 then (j : Int) else atF O f2 j := by
            simp only [atF]
            rw [show O.getD j ⟨0, [], .int .i64 0⟩ = O[j] by simp [hjl]]
          by_cases hn : O[j].n = f2
          · have hnb : (O[j].n == f2) = true := by simp [hn]
            rw [if_pos hn] at hst
            have HST := Lib.hid hst
            generalize O[j].n = nj at e1 hnb
            clear hst hn
            go_wp2
            go_region
            go_wp2
            go_roundw
            case rel => exact ⟨j + 1, by omega, by go_num, by rw [HST.out], Lib.hid (HA.out.quiet ((Fr.refl _ _).drew))⟩
            case measure => simp [intOf]; omega
          · have hnb : (O[j].n == f2) = false := by simp [hn]
            rw [if_neg hn] at hst
            have HST := Lib.hid hst
            generalize O[j].n = nj at e1 hnb
            clear hst hn
            go_wp2
            go_region
            go_wp2
            go_roundw
            case rel => exact ⟨j + 1, by omega, by go_num, by rw [HST.out], Lib.hid (HA.out.quiet ((Fr.refl _ _).drew))⟩
            case measure => simp [intOf]; omega
        · obtain rfl : j = O.length := by omega
          have y0 := HA.out.blk.cell 0; have y1 := HA.out.blk.cell 1; have y2 := HA.out.blk.cell 2; have y3 := HA.out.blk.cell 3; have y4 := HA.out.blk.cell 4
          simp at y0 y1 y2 y3 y4
          clear hjl
          by_cases hend : f2 > 0 ∧ (f0 = 3 ∨ f0 = 4)
          · have hie : isEnd ⟨f0, f1, f2, f3, f4⟩ = true := by
              unfold isEnd
              rcases hend.2 with rfl | rfl <;> simp [hend.1]
            rw [if_pos hie] at HQ
            have c2b : decide (f2 > 0) = true := by simpa using hend.1
            have h34 := hend.2
            clear hie hend
            rcases atF_cases O f2 O.length (Nat.le_refl _) with hat | ⟨a, ha, _, hat, en⟩
            · rw [hat]
              have hno := atF_none O f2 O.length (Nat.le_refl _) hat
              have hg0 := gL_none f2 O (fun j hj => hno j hj hj)
              have hq := HQ.out
              have hup : updO (gL O) f2 [] = gL O := by rw [← hg0]; exact updO_self _ _
              rw [hup, hg0] at hq
              simp only [List.reverse_nil, setAll, ite_self] at hq
              have HQ3 := Lib.hid hq
              clear hq HQ hup hg0 hno hat
              rcases h34 with c3 | c4
              · have c3b : (f0 == 3) = true := by simp [c3]
                clear c3
                go_wp2
                go_roundw
                case rel => exact ⟨i + 1, cs, A6, c6, O, g8, c8, ok, by omega, by go_num, rfl, rfl, rfl, HQ3, Lib.hid (HA.out.rf.next.next)⟩
                case measure => simp [intOf]; omega
              · have c3b : (f0 == 3) = false := by simp [c4]
                have c4b : (f0 == 4) = true := by simp [c4]
                clear c4
                go_wp2
                go_roundw
                case rel => exact ⟨i + 1, cs, A6, c6, O, g8, c8, ok, by omega, by go_num, rfl, rfl, rfl, HQ3, Lib.hid (HA.out.rf.next.next)⟩
                case measure => simp [intOf]; omega
            · rw [hat]
              have HEN := Lib.hid en
              obtain ⟨e0, e1, e2, e3, e4⟩ := HA.out.rf.at a ha
              obtain ⟨Au, cu, bsu, hvu, hbu, hru⟩ := HA.out.rf.u O[a] (List.getElem_mem ha)
              obtain ⟨Au', cu', e', hcu, hCu⟩ := hru.reads
              rw [hvu] at e' e3
              injection e' with e5 _ e6
              subst e5 e6
              have hlu := HA.out.rf.ul O[a] (List.getElem_mem ha)
              have hgl := gL_at O HA.out.rf.un a ha
              rw [en] at hgl e1
              have hq := HQ.out
              rw [hgl] at hq
              generalize O[a].u = Lu at *
              have HU := Lib.hid (wGUndo wr Au cu Lu hCu (by omega) f2)
              unfold gA at HU
              obtain ⟨Lr, hLr⟩ : ∃ z, z = Lu.reverse := ⟨_, rfl⟩
              rw [← hLr] at hq HU
              have hlr : Lr.length ≤ 2 * i := by rw [hLr, List.length_reverse]; exact hlu
              have HQ3 := Lib.hid hq
              clear hq HQ hgl hCu hru hvu hat hLr en
              rcases h34 with c3 | c4
              · have c3b : (f0 == 3) = true := by simp [c3]
                have c4b : (f0 == 4) = false := by simp [c3]
                have hq := HQ3.out
                rw [if_neg (by omega)] at hq
                have HQ4 := Lib.hid hq
                clear hq HQ3 c3
                go_wp2_with fail
                refine HU.out.mono ?_
                rintro e w7 ⟨A7, c7, rfl, hr7, hb7⟩
                have HA7 := Lib.hid (HA.out.quiet (Fr.of_below hb7))
                obtain ⟨bs7, hbs7⟩ : ∃ z, z = wr.heap.size := ⟨_, rfl⟩
                rw [← hbs7] at hr7
                have HR7 := Lib.hid (R22.of hr7)
                have u0 := HA7.out.blk.cell 0; have u2 := HA7.out.blk.cell 2
                simp at u0 u2
                clear hr7 hb7 HU HA hbs7 y0 y2 y3 y4 e0 e1 e2 e3 e4
                go_wp2
                go_loopw [6, 14] (fun v6 v14 wj => v14 = .int .i64 0 ∧ v6 = .slice A6 (allL cs).length c6 ∧ Hid (AtAt w (2 * i) cs (.slice A6 (allL cs).length c6) O (.slice (some ⟨g8, 0, none⟩) O.length c8) wo.heap.size #[.int .i64 f0, .int .i64 f1, .int .i64 f2, .int .i64 f3, .int .i64 f4] wj)) (fun _ v14 _ => 0)
                case atStart => exact ⟨rfl, rfl, HA7⟩
                case round =>
                  clear HA7 HR7 u0 u2
                  obtain ⟨rfl, rfl, HAx⟩ := hrel
                  have u0 := HAx.out.blk.cell 0; have u2 := HAx.out.blk.cell 2
                  simp at u0 u2
                  have HBg := Lib.hid (show Calls Try.prog 46 #[.slice none 0 0, .int .i64 f2] wr fun e w' => e = .returned (.agg #[.slice none 0 0, .int .i64 f2, .int .i64 0, .slice none 0 0, .slice none 0 0]) ∧ Quiet wr w' from wGBegin wr f2)
                  rcases Nat.eq_zero_or_pos Lr.length with hz | hz
                  · have hd0 : decide ((0 : Int) < (Lr.length : Int)) = false := decide_eq_false (by omega)
                    go_wp2_with (go_at_call 46; refine HBg.out.mono ?_; rintro e w9 ⟨rfl, hq9⟩; have HA9 := Lib.hid (HAx.out.quiet hq9); have q9 := HA9.out.rf.at a ha; have q90 := q9.1; have q91 := q9.2.1; have q92 := q9.2.2.1; have q93 := q9.2.2.2.1; have q94 := q9.2.2.2.2; have fz := fun i => HA9.out.rf.o.frozenAt i; clear hq9 q9)
                    go_roundw
                    case rel =>
                      refine ⟨i + 1, _, _, _, O.set a ⟨f2, [], .slice none 0 0⟩, g8, c8, ok, by omega, by go_num, rfl, rfl, by rw [List.length_set], ?_, ?_⟩
                      · exact Lib.hid (by rw [gL_set O a ha _ HA9.out.rf.un HEN.out.symm]; exact HQ4.out)
                      · have q := (HA9.out.rf.put a ha ⟨f2, [], .slice none 0 0⟩ HEN.out.symm ⟨none, 0, w.heap.size, rfl, Nat.le_refl _, R22.of (ok := fun _ => True) (Kd.R_nil _ _ _ _ _)⟩ (Nat.zero_le _)).1
                        exact Lib.hid (by rw [List.length_set]; exact q.next)
                    case measure => simp [intOf]; omega
                  · have hd0 : decide ((0 : Int) < (Lr.length : Int)) = true := decide_eq_true (by omega)
                    go_wp2_with (go_at_call 46; refine HBg.out.mono ?_; rintro e w9 ⟨rfl, hq9⟩; have HA9 := Lib.hid (HAx.out.quiet hq9); have q9 := HA9.out.rf.at a ha; have q90 := q9.1; have q91 := q9.2.1; have q92 := q9.2.2.1; have q93 := q9.2.2.2.1; have q94 := q9.2.2.2.2; have fz := fun i => HA9.out.rf.o.frozenAt i; clear hq9 q9)
                    go_roundw
                    case rel =>
                      refine ⟨i + 1, _, _, _, O.set a ⟨f2, [], .slice none 0 0⟩, g8, c8, ok, by omega, by go_num, rfl, rfl, by rw [List.length_set], ?_, ?_⟩
                      · exact Lib.hid (by rw [gL_set O a ha _ HA9.out.rf.un HEN.out.symm]; exact HQ4.out)
                      · have q := (HA9.out.rf.put a ha ⟨f2, [], .slice none 0 0⟩ HEN.out.symm ⟨none, 0, w.heap.size, rfl, Nat.le_refl _, R22.of (ok := fun _ => True) (Kd.R_nil _ _ _ _ _)⟩ (Nat.zero_le _)).1
                        exact Lib.hid (by rw [List.length_set]; exact q.next)
                    case measure => simp [intOf]; omega
              · have c3b : (f0 == 3) = false := by simp [c4]
                have c4b : (f0 == 4) = true := by simp [c4]
                have hq := HQ3.out
                rw [if_pos c4] at hq
                have HQ5 := Lib.hid hq
                clear hq HQ3 c4
                go_wp2_with fail
                refine HU.out.mono ?_
                rintro e w7 ⟨A7, c7, rfl, hr7, hb7⟩
                have HA7 := Lib.hid (HA.out.quiet (Fr.of_below hb7))
                obtain ⟨bs7, hbs7⟩ : ∃ z, z = wr.heap.size := ⟨_, rfl⟩
                rw [← hbs7] at hr7
                have HR7 := Lib.hid (R22.of hr7)
                have u0 := HA7.out.blk.cell 0; have u2 := HA7.out.blk.cell 2
                simp at u0 u2
                clear hr7 hb7 HU HA hbs7 y0 y2 y3 y4 e0 e1 e2 e3 e4
                go_wp2
                go_loopw [6, 14] (fun v6 v14 wj => SetRel w i cs O g8 c8 wo.heap.size #[.int .i64 f0, .int .i64 f1, .int .i64 f2, .int .i64 f3, .int .i64 f4] bs7 A7 c7 Lr v6 v14 wj) (fun _ v14 _ => Lr.length - (intOf v14).toNat)
                case atStart => exact ⟨0, cs, A6, c6, Nat.zero_le _, rfl, rfl, rfl, HA7, HR7⟩
                case round =>
                  clear HA7 HR7 u0 u2
                  obtain ⟨j, cs2, A8, c8', hj, rfl, rfl, HSA, HA8, HR8⟩ := hrel
                  have u0 := HA8.out.blk.cell 0; have u2 := HA8.out.blk.cell 2
                  simp at u0 u2
                  by_cases hjl : j < Lr.length
                  · obtain ⟨A7', c7', e7, hc7, hC7⟩ := HR8.out.reads
                    injection e7 with e7 _ e8
                    subst e7 e8
                    obtain ⟨ad7, eA7, z0, z1⟩ := at_T76 hC7 (j : Int) (by omega) (by omega)
                    cases eA7
                    have hr7 : rd_T76 Lr (j : Int) = Lr[j] := by unfold rd_T76; simp [hjl]
                    rw [hr7] at z0 z1
                    simp only [Int.toNat_natCast] at z0 z1
                    have hsq := HSA.out
                    rw [List.drop_eq_getElem_cons hjl] at hsq
                    generalize Lr[j] = x at z0 z1 hsq
                    obtain ⟨p0, p1⟩ := x
                    dsimp only at z0 z1
                    simp only [setAll] at hsq
                    have HSQ := Lib.hid hsq
                    have hqd : Quiet wr wr.drew := (Fr.refl _ wr).drew
                    have HA8d := Lib.hid (HA8.out.quiet hqd)
                    have HR8d := Lib.hid (R22.quiet HR8.out hqd)
                    obtain ⟨bs8, hb8, hr8⟩ := HA8d.out.rf.c
                    have HS := Lib.hid (rSet22 wr.drew bs8 A8 c8' cs2 (Nat.le_trans HA8d.out.rf.csl (by decide)) hr8 p0 p1)
                    have hwz : w.heap.size ≤ wr.drew.heap.size := HA8d.out.rf.bel.size
                    clear hsq HSA hr7 hC7 hr8 hqd
                    go_upto_region 18 with fail
                    go_region_law (first
                      | (go_simp; go_at_call 45; refine HS.out.mono ?_; rintro e w9 ⟨A9, c9, rfl, hr9, hq9⟩; have HA9 := Lib.hid (HA8d.out.quiet hq9); have HR9 := Lib.hid (R22.quiet HR8d.out hq9); have HRN := Lib.hid hr9; clear hr9 hq9))
                    all_goals
                      go_wp2
                      go_roundw
                      case rel => exact ⟨j + 1, _, A9, c9, by omega, by go_num, rfl, HSQ, Lib.hid ⟨HA9.out.rf.setc _ hwz HRN.out (cSet_len _ _ _), HA9.out.blk⟩, HR9⟩
                      case measure => simp [intOf]; omega
                  · obtain rfl : j = Lr.length := by omega
                    have hse := HSA.out
                    rw [List.drop_of_length_le (by omega)] at hse
                    simp only [setAll] at hse
                    have hq := HQ5.out
                    rw [← hse] at hq
                    have HQ4 := Lib.hid hq
                    have HAx := HA8
                    have HBg := Lib.hid (show Calls Try.prog 46 #[.slice none 0 0, .int .i64 f2] wr fun e w' => e = .returned (.agg #[.slice none 0 0, .int .i64 f2, .int .i64 0, .slice none 0 0, .slice none 0 0]) ∧ Quiet wr w' from wGBegin wr f2)
                    clear hse hq HSA HQ5
                    go_wp2_with (go_at_call 46; refine HBg.out.mono ?_; rintro e w9 ⟨rfl, hq9⟩; have HA9 := Lib.hid (HAx.out.quiet hq9); have q9 := HA9.out.rf.at a ha; have q90 := q9.1; have q91 := q9.2.1; have q92 := q9.2.2.1; have q93 := q9.2.2.2.1; have q94 := q9.2.2.2.2; have fz := fun i => HA9.out.rf.o.frozenAt i; clear hq9 q9)
                    go_roundw
                    case rel =>
                      refine ⟨i + 1, _, _, _, O.set a ⟨f2, [], .slice none 0 0⟩, g8, c8, ok, by omega, by go_num, rfl, rfl, by rw [List.length_set], ?_, ?_⟩
                      · exact Lib.hid (by rw [gL_set O a ha _ HA9.out.rf.un HEN.out.symm]; exact HQ4.out)
                      · have q := (HA9.out.rf.put a ha ⟨f2, [], .slice none 0 0⟩ HEN.out.symm ⟨none, 0, w.heap.size, rfl, Nat.le_refl _, R22.of (ok := fun _ => True) (Kd.R_nil _ _ _ _ _)⟩ (Nat.zero_le _)).1
                        exact Lib.hid (by rw [List.length_set]; exact q.next)
                    case measure => simp [intOf]; omega
          · have hie : isEnd ⟨f0, f1, f2, f3, f4⟩ = false := Bool.eq_false_iff.2 (fun q => hend (by unfold isEnd at q; simpa using q))
            rw [if_neg (by rw [hie]; simp)] at HQ
            have HE := Lib.hid (wRacc wr ⟨f0, f1, f2, f3, f4⟩)
            generalize acc ⟨f0, f1, f2, f3, f4⟩ = ia at HE HQ
            clear hie
            by_cases c2 : f2 > 0
            · have c2b : decide (f2 > 0) = true := by simpa using c2
              have c3b : (f0 == 3) = false := beq_eq_false_iff_ne.2 (fun e => hend ⟨c2, .inl e⟩)
              have c4b : (f0 == 4) = false := beq_eq_false_iff_ne.2 (fun e => hend ⟨c2, .inr e⟩)
              clear hend
              go_wp2_with fail
              refine HE.out.mono ?_
              rintro e w6 ⟨rfl, hb6⟩
              have HA6 := Lib.hid (HA.out.quiet (Fr.of_below hb6))
              have z0 := HA6.out.blk.cell 0; have z2 := HA6.out.blk.cell 2; have z3 := HA6.out.blk.cell 3; have z4 := HA6.out.blk.cell 4
              simp at z0 z2 z3 z4
              clear hb6 HE HA y0 y1 y2 y3 y4
              cases ia
              case false =>
                rw [if_neg (by simp)] at HQ
                go_wp2
                go_roundw
                case rel => exact ⟨i + 1, cs, A6, c6, O, g8, c8, ok, by omega, by go_num, rfl, rfl, rfl, HQ, Lib.hid HA6.out.rf.next.next⟩
                case measure => simp [intOf]; omega
              rw [if_pos rfl] at HQ
              obtain ⟨bs6, hb6, hr6⟩ := HA6.out.rf.c
              have HF := Lib.hid (rFind22 w6 bs6 A6 c6 cs (Nat.le_trans HA6.out.rf.csl (by decide)) hr6 f3)
              clear hr6
              cases hfx : fidx f3 cs with
              | none =>
                obtain ⟨k1, k2⟩ := fI_none hfx
                rw [k1] at HF
                rw [k2] at HQ
                rw [if_pos rfl] at HQ
                clear k1 k2
                go_wp2_with fail
                refine HF.out.mono ?_
                rintro e w7 ⟨rfl, hq7⟩
                have HA7 := Lib.hid (HA6.out.quiet hq7)
                have v0 := HA7.out.blk.cell 0; have v2 := HA7.out.blk.cell 2; have v3 := HA7.out.blk.cell 3; have v4 := HA7.out.blk.cell 4
                simp at v0 v2 v3 v4
                clear hq7 HF HA6 z0 z2 z3 z4
                go_wp2
                go_region
                go_wp2
                go_roundw
                case rel => exact ⟨i + 1, cs, A6, c6, O, g8, c8, false, by omega, by go_num, rfl, rfl, rfl, HQ, Lib.hid (HA7.out.quiet ((Fr.refl _ w7).drew)).rf.next.next⟩
                case measure => simp [intOf]; omega
              | some p =>
                obtain ⟨k1, k2⟩ := fI_some hfx
                obtain ⟨hp, _⟩ := fidx_lt f3 cs p hfx
                rw [k1] at HF
                rw [k2] at HQ
                rw [if_neg (by simp)] at HQ
                obtain ⟨gv, hgv⟩ : ∃ z, z = (cAt cs p).2.2 := ⟨_, rfl⟩
                dsimp only at HQ
                rw [← hgv] at HQ
                have HGV := Lib.hid hgv
                clear hgv
                clear k1 k2
                go_wp2_with fail
                refine HF.out.mono ?_
                rintro e w7 ⟨rfl, hq7⟩
                have HA7 := Lib.hid (HA6.out.quiet hq7)
                have v0 := HA7.out.blk.cell 0; have v2 := HA7.out.blk.cell 2; have v3 := HA7.out.blk.cell 3; have v4 := HA7.out.blk.cell 4
                simp at v0 v2 v3 v4
                obtain ⟨bs7, hb7, hr7⟩ := HA7.out.rf.c
                obtain ⟨A7, c7, e7, hc7, hC7⟩ := hr7.reads
                injection e7 with e71 _ e72
                subst e71 e72
                obtain ⟨ad7, eA7, m0, m1⟩ := at_T76 hC7 (p : Int) (by omega) (by rw [allL_len]; omega)
                cases eA7
                rw [rd_allL cs p hp] at m1
                simp only [Int.toNat_natCast] at m1
                rw [show cs[p].2.2 = gv from by rw [HGV.out, cAt_lt cs p hp]] at m1
                have hpb : decide ((p : Int) < 0) = false := decide_eq_false (by omega)
                have hpl : p < (allL cs).length := by rw [allL_len]; exact hp
                clear hq7 hr7 hC7 m0 HF HA6 z0 z2 z3 z4
                by_cases c1 : f0 = 1
                · rw [if_pos c1] at HQ
                  have c11 : (f0 == 1) = true := by simp [c1]
                  by_cases c5 : gv = f4
                  · have c51 : (gv != f4) = false := by simp [c5]
                    have c52 : (gv == f4) = true := by simp [c5]
                    rw [c52, Bool.and_true] at HQ
                    clear c1 c5 c52
                    go_wp2
                    go_region
                    go_wp2
                    go_roundw
                    case rel => exact ⟨i + 1, cs, _, _, O, g8, c8, ok, by omega, by go_num, rfl, rfl, rfl, HQ, Lib.hid (HA7.out.quiet ((Fr.refl _ w7).drew)).rf.next.next⟩
                    case measure => simp [intOf]; omega
                  · have c51 : (gv != f4) = true := by simp [c5]
                    have c52 : (gv == f4) = false := by simp [c5]
                    rw [c52, Bool.and_false] at HQ
                    clear c1 c5 c52
                    go_wp2
                    go_region
                    go_wp2
                    go_roundw
                    case rel => exact ⟨i + 1, cs, _, _, O, g8, c8, false, by omega, by go_num, rfl, rfl, rfl, HQ, Lib.hid (HA7.out.quiet ((Fr.refl _ w7).drew)).rf.next.next⟩
                    case measure => simp [intOf]; omega
                rw [if_neg c1] at HQ
                have c11 : (f0 == 1) = false := by simp [c1]
                clear c1
                rw [if_pos c2] at HQ
                have HA7d := Lib.hid (HA7.out.quiet ((Fr.refl _ w7).drew))
                rcases atF_cases O f2 O.length (Nat.le_refl _) with hat | ⟨a1, ha1, _, hat, hen1⟩
                · rw [hat]
                  have hno := atF_none O f2 O.length (Nat.le_refl _) hat
                  have hg0 := gL_none f2 O (fun j hj => hno j hj hj)
                  rw [hg0] at HQ
                  have HNO := Lib.hid (fun j hj => hno j hj hj)
                  have HBg := Lib.hid (show Calls Try.prog 46 #[.slice none 0 0, .int .i64 f2] w7.drew fun e w' => e = .returned (.agg #[.slice none 0 0, .int .i64 f2, .int .i64 0, .slice none 0 0, .slice none 0 0]) ∧ Quiet w7.drew w' from wGBegin w7.drew f2)
                  obtain ⟨O1, hO1⟩ : ∃ z, z = O ++ [⟨f2, [], .slice none 0 0⟩] := ⟨_, rfl⟩
                  have hl1 : O.length + 1 = O1.length := by rw [hO1]; simp
                  have ha1 : O.length < O1.length := by omega
                  have hget : O1[O.length] = ⟨f2, [], .slice none 0 0⟩ := by simp [hO1]
                  have hen1 : O1[O.length].n = f2 := by rw [hget]
                  have hv1 : O1[O.length].v = .slice none ([] : List Pr).length 0 := by rw [hget]; rfl
                  have HGL : Hid (∀ X, updO (gL O1) f2 X = updO (gL O) f2 X) := Lib.hid (fun X => by rw [hO1, gL_push O _ (fun j hj => hno j hj hj), updO_updO])
                  have HO1 := Lib.hid hO1
                  clear hat hno hg0 hget hO1
                  go_wp2
                  go_region
                  go_wp2_with (first
                    | (go_at_call 46; refine HBg.out.mono ?_; rintro e w8 ⟨rfl, hq8⟩; have HA8 := Lib.hid (HA7d.out.quiet hq8); clear hq8)
                    | (have hq8 := HA8.out; clear hq8; at_builtin; refine print_append_cells (w0 := w) w.heap.size rfl (.tmp 131) (.tmp 135) 69 72 _ 5 88 rfl Try.underlying69 infoG rfl (by decide) (by decide) _ O.length (encG O) (gV f2 (.slice none 0 0)) rfl rfl rfl (fun u hu => by simp only [gV, List.mem_cons, List.not_mem_nil, or_false] at hu; rcases hu with rfl | rfl | rfl | rfl | rfl <;> rfl) HA8.out.rf.o (HA8.out.rf.bel.below (fun _ _ q => q)) HA8.out.rf.bel.size (by have := HA8.out.rf.ol; omega) ?_; intro v9 w9 ho9 hb9 hg9 hat9; obtain ⟨g1, c1, rfl⟩ := own_shape ho9; have hRF9 := HA8.out.rf.push f2 HNO.out _ ho9 hg9; have hbk9 := (hg9.block _ HA8.out.blk.lt (fun e => own_ne HA8.out.rf.o HA8.out.blk (by decide) e.symm)).trans HA8.out.blk; rw [← HO1.out, hl1] at hRF9; rw [hl1]; have HA9 : Hid (AtAt w (2 * i + 1) cs (.slice _ (allL cs).length c6) O1 (.slice (some ⟨g1, 0, none⟩) O1.length c1) wo.heap.size #[.int .i64 f0, .int .i64 f1, .int .i64 f2, .int .i64 f3, .int .i64 f4] w9) := Lib.hid ⟨hRF9, hbk9⟩; have r0 := HA9.out.blk.cell 0; have r2 := HA9.out.blk.cell 2; have r3 := HA9.out.blk.cell 3; have r4 := HA9.out.blk.cell 4; simp at r0 r2 r3 r4; clear ho9 hb9 hg9 hat9 hRF9 hbk9))
                  have hru1 : R22 w9.drew w.heap.size (.slice none ([] : List Pr).length 0) [] := R22.of (ok := fun _ => True) (Kd.R_nil _ _ _ _ _)
                  have HA9d := Lib.hid (HA9.out.quiet ((Fr.refl _ w9).drew))
                  obtain ⟨e0, e1, e2, e3, e4⟩ := HA9.out.rf.at O.length ha1
                  rw [hen1] at e1
                  rw [hv1] at e3
                  have n0 := HA9.out.blk.cell 0; have n2 := HA9.out.blk.cell 2; have n3 := HA9.out.blk.cell 3; have n4 := HA9.out.blk.cell 4
                  simp at n0 n2 n3 n4
                  obtain ⟨bsA, hbA, hrA⟩ := HA9.out.rf.c
                  obtain ⟨AA, cA, eA, hcA, hCA⟩ := hrA.reads
                  injection eA with eA1 _ eA2
                  subst eA1 eA2
                  obtain ⟨adA, eAA, m0, m1⟩ := at_T76 hCA (p : Int) (by omega) (by rw [allL_len]; omega)
                  cases eAA
                  rw [rd_allL cs p hp] at m1
                  simp only [Int.toNat_natCast] at m1
                  rw [show cs[p].2.2 = gv from by rw [HGV.out, cAt_lt cs p hp]] at m1
                  have HW := Lib.hid (wGWrote w9.drew w.heap.size none 0 ([] : List Pr) hru1 (by simp) f2 f3 gv)
                  unfold gA at HW
                  obtain ⟨LW, hLW⟩ : ∃ z, z = wroteL ([] : List Pr) f3 gv := ⟨_, rfl⟩
                  rw [← hLW] at HW HQ
                  have hlw : LW.length ≤ ([] : List Pr).length + 1 := by rw [hLW]; exact wroteL_len _ _ _
                  have HEN := Lib.hid hen1
                  clear hLW hen1 hv1 hrA hCA hru1 m0
                  go_upto_region 28 with fail
                  refine start_ (n := 16) (S := fun w' => w'.cell? ⟨g1, O.length * 5, none⟩ = some (.slice none 0 0) ∧ w'.cell? ⟨g1, O.length * 5 + 1, none⟩ = some (.int .i64 f2) ∧ w'.cell? ⟨g1, O.length * 5 + 2, none⟩ = some (.int .i64 0) ∧ w'.cell? ⟨g1, O.length * 5 + 3, none⟩ = some (.slice none ([] : List Pr).length 0) ∧ w'.cell? ⟨g1, O.length * 5 + 4, none⟩ = some (.slice none 0 0) ∧ w'.cell? ⟨wo.heap.size, 3, none⟩ = some (.int .i64 f3) ∧ w'.cell? ⟨(ad7.add (p * 2)).block, (ad7.add (p * 2)).off + 1, none⟩ = some (.int .i64 gv)) (ds := [15]) #[false, false, false, false, false, false, false, false, false, false, false, false, false, false, false, false] (by kernel_rfl) rfl rfl ⟨e0, e1, e2, e3, e4, n3, m1⟩ (fun hHeld => ?_)
                  refine pure_ (i := 0) (N := some 142) (v := ?_) (a' := ?_) #[true, false, false, false, false, false, false, false, false, false, false, false, false, false, false, false] rfl rfl (by kernel_rfl) (fun _ _ _ h => h) (Or.inl ⟨by rfl, ?_⟩) ?_ ?_
                  rotate_left
                  · intro w'
                    go_simp
                    with_reducible rfl
                  rotate_left
                  · simp only [Act.put, List.setIfInBounds_toArray, List.set_cons_zero, List.set_cons_succ, i64_w, i32_w]
                    rfl
                  refine pure_ (i := 1) (N := some 143) (v := ?_) (a' := ?_) #[true, true, false, false, false, false, false, false, false, false, false, false, false, false, false, false] rfl rfl (by kernel_rfl) (fun _ _ _ h => h) (Or.inl ⟨by rfl, ?_⟩) ?_ ?_
                  rotate_left
                  · intro w'
                    go_simp
                    with_reducible rfl
                  rotate_left
                  · simp only [Act.put, List.setIfInBounds_toArray, List.set_cons_zero, List.set_cons_succ, i64_w, i32_w]
                    rfl
                  refine pure_ (i := 2) (N := some 144) (v := ?_) (a' := ?_) #[true, true, true, false, false, false, false, false, false, false, false, false, false, false, false, false] rfl rfl (by kernel_rfl) (fun _ _ _ h => h) (Or.inl ⟨by rfl, ?_⟩) ?_ ?_
                  rotate_left
                  · intro w'
                    go_simp
                    with_reducible rfl
                  rotate_left
                  · simp only [Act.put, List.setIfInBounds_toArray, List.set_cons_zero, List.set_cons_succ, i64_w, i32_w]
                    rfl
                  refine pure_ (i := 3) (N := some 145) (v := ?_) (a' := ?_) #[true, true, true, true, false, false, false, false, false, false, false, false, false, false, false, false] rfl rfl (by kernel_rfl) (fun _ _ _ h => h) (Or.inl ⟨by rfl, ?_⟩) ?_ ?_
                  rotate_left
                  · intro w'
                    go_simp
                    with_reducible rfl
                  rotate_left
                  · simp only [Act.put, List.setIfInBounds_toArray, List.set_cons_zero, List.set_cons_succ, i64_w, i32_w]
                    rfl
                  refine pure_ (i := 4) (N := some 146) (v := ?_) (a' := ?_) #[true, true, true, true, true, false, false, false, false, false, false, false, false, false, false, false] rfl rfl (by kernel_rfl) (fun _ _ _ h => h) (Or.inl ⟨by rfl, ?_⟩) ?_ ?_
                  rotate_left
                  · intro w'
                    go_simp
                    with_reducible rfl
                  rotate_left
                  · simp only [Act.put, List.setIfInBounds_toArray, List.set_cons_zero, List.set_cons_succ, i64_w, i32_w]
                    rfl
                  refine pure_ (i := 6) (N := some 148) (v := ?_) (a' := ?_) #[true, true, true, true, true, false, true, false, false, false, false, false, false, false, false, false] rfl rfl (by kernel_rfl) (fun _ _ _ h => h) (Or.inl ⟨by rfl, ?_⟩) ?_ ?_
                  rotate_left
                  · intro w'
                    go_simp
                    with_reducible rfl
                  rotate_left
                  · simp only [Act.put, List.setIfInBounds_toArray, List.set_cons_zero, List.set_cons_succ, i64_w, i32_w]
                    rfl
                  refine pure_ (i := 8) (N := some 150) (v := ?_) (a' := ?_) #[true, true, true, true, true, false, true, false, true, false, false, false, false, false, false, false] rfl rfl (by kernel_rfl) (fun _ _ _ h => h) (Or.inl ⟨by rfl, ?_⟩) ?_ ?_
                  rotate_left
                  · intro w'
                    go_simp
                    with_reducible rfl
                  rotate_left
                  · simp only [Act.put, List.setIfInBounds_toArray, List.set_cons_zero, List.set_cons_succ, i64_w, i32_w]
                    rfl
                  refine pure_ (i := 9) (N := some 151) (v := ?_) (a' := ?_) #[true, true, true, true, true, false, true, false, true, true, false, false, false, false, false, false] rfl rfl (by kernel_rfl) (fun _ _ _ h => h) (Or.inl ⟨by rfl, ?_⟩) ?_ ?_
                  rotate_left
                  · intro w'
                    go_simp
                    with_reducible rfl
                  rotate_left
                  · simp only [Act.put, List.setIfInBounds_toArray, List.set_cons_zero, List.set_cons_succ, i64_w, i32_w]
                    rfl
                  refine pure_ (i := 10) (N := some 152) (v := ?_) (a' := ?_) #[true, true, true, true, true, false, true, false, true, true, true, false, false, false, false, false] rfl rfl (by kernel_rfl) (fun _ _ _ h => h) (Or.inl ⟨by rfl, ?_⟩) ?_ ?_
                  rotate_left
                  · intro w'
                    go_simp
                    with_reducible rfl
                  rotate_left
                  · simp only [Act.put, List.setIfInBounds_toArray, List.set_cons_zero, List.set_cons_succ, i64_w, i32_w]
                    rfl
                  refine pure_ (i := 11) (N := some 153) (v := ?_) (a' := ?_) #[true, true, true, true, true, false, true, false, true, true, true, true, false, false, false, false] rfl rfl (by kernel_rfl) (fun _ _ _ h => h) (Or.inl ⟨by rfl, ?_⟩) ?_ ?_
                  rotate_left
                  · intro w'
                    go_simp
                    with_reducible rfl
                  rotate_left
                  · simp only [Act.put, List.setIfInBounds_toArray, List.set_cons_zero, List.set_cons_succ, i64_w, i32_w]
                    rfl
                  refine take_ (i := 5) (N := some 147) (v := ?_) (a' := ?_) #[true, true, true, true, true, true, true, false, true, true, true, true, false, false, false, false] rfl rfl (by kernel_rfl) (fun _ _ _ h => h) (Or.inl ⟨by rfl, ?_⟩) hHeld ?_ ?_
                  rotate_left
                  · rintro w' ⟨s0, s1, s2, s3, s4, s5, s6⟩
                    go_simp
                    with_reducible rfl
                  rotate_left
                  · simp only [Act.put, List.setIfInBounds_toArray, List.set_cons_zero, List.set_cons_succ, i64_w, i32_w]
                    rfl
                  refine take_ (i := 7) (N := some 149) (v := ?_) (a' := ?_) #[true, true, true, true, true, true, true, true, true, true, true, true, false, false, false, false] rfl rfl (by kernel_rfl) (fun _ _ _ h => h) (Or.inl ⟨by rfl, ?_⟩) hHeld ?_ ?_
                  rotate_left
                  · rintro w' ⟨s0, s1, s2, s3, s4, s5, s6⟩
                    go_simp
                    with_reducible rfl
                  rotate_left
                  · simp only [Act.put, List.setIfInBounds_toArray, List.set_cons_zero, List.set_cons_succ, i64_w, i32_w]
                    rfl
                  refine take_ (i := 12) (N := some 154) (v := ?_) (a' := ?_) #[true, true, true, true, true, true, true, true, true, true, true, true, true, false, false, false] rfl rfl (by kernel_rfl) (fun _ _ _ h => h) (Or.inl ⟨by rfl, ?_⟩) hHeld ?_ ?_
                  rotate_left
                  · rintro w' ⟨s0, s1, s2, s3, s4, s5, s6⟩
                    go_simp
                    with_reducible rfl
                  rotate_left
                  · simp only [Act.put, List.setIfInBounds_toArray, List.set_cons_zero, List.set_cons_succ, i64_w, i32_w]
                    rfl
                  refine one_ (i := 13) (N := some 155) #[true, true, true, true, true, true, true, true, true, true, true, true, true, true, false, false] rfl rfl (by kernel_rfl) (by decide) (fun K hK => ?_)
                  refine goes_ Try.func48 (by kernel_rfl) rfl #[.agg #[.slice none 0 0, .int .i64 f2, .int .i64 0, .slice none ([] : List Pr).length 0, .slice none 0 0], .int .i64 f3, .int .i64 gv] (by rfl) rfl rfl (by simp only [List.map_toArray, List.map_cons, List.map_nil]; rfl) ?_
                  with_reducible refine (HW.out).mono ?_
                  rintro e w10 ⟨A10, c10, bs10, rfl, hbs10, hr10, hb10⟩
                  refine ⟨_, rfl, ?_⟩
                  have HA10 := Lib.hid (HA9d.out.quiet (Fr.of_below hb10))
                  have fz := fun i => HA10.out.rf.o.frozenAt i
                  have k0 := ((hb10.cell (World.block_lt_of_cell? w9.drew _ e0)).trans e0)
                  have k1 := ((hb10.cell (World.block_lt_of_cell? w9.drew _ e1)).trans e1)
                  have k2 := ((hb10.cell (World.block_lt_of_cell? w9.drew _ e2)).trans e2)
                  have k3 := ((hb10.cell (World.block_lt_of_cell? w9.drew _ e3)).trans e3)
                  have k4 := ((hb10.cell (World.block_lt_of_cell? w9.drew _ e4)).trans e4)
                  have k5 := ((hb10.cell (World.block_lt_of_cell? w9.drew _ n3)).trans n3)
                  have k6 := ((hb10.cell (World.block_lt_of_cell? w9.drew _ m1)).trans m1)
                  have HR10 := Lib.hid hr10
                  have hz10 : w.heap.size ≤ bs10 := (by have := HA9d.out.rf.bel.size; rcases hbs10 with h | h <;> omega)
                  refine hK.out _ _ ⟨k0, k1, k2, k3, k4, k5, k6⟩ (fun hHeld => ?_)
                  clear hK K
                  refine norm_ (a' := ?_) ?_ ?_
                  rotate_left
                  · show Act.put _ (some 155) _ = _
                    simp only [Act.put, List.setIfInBounds_toArray, List.set_cons_zero, List.set_cons_succ, i64_w, i32_w]
                    rfl
                  refine pure_ (i := 14) (N := some 156) (v := ?_) (a' := ?_) #[true, true, true, true, true, true, true, true, true, true, true, true, true, true, true, false] rfl rfl (by kernel_rfl) (fun _ _ _ h => h) (Or.inl ⟨by rfl, ?_⟩) ?_ ?_
                  rotate_left
                  · intro w'
                    go_simp
                    with_reducible rfl
                  rotate_left
                  · simp only [Act.put, List.setIfInBounds_toArray, List.set_cons_zero, List.set_cons_succ, i64_w, i32_w]
                    rfl
                  refine last_ (i := 15) (N := none) #[true, true, true, true, true, true, true, true, true, true, true, true, true, true, true, true] rfl rfl (by kernel_rfl) (by decide) (fun K hK => ?_)
                  refine skip_ (w1 := ?_) (by rfl) rfl ?_ ?_
                  rotate_left
                  · go_simp
                    rfl
                  refine hK.out _ _ ?_
                  clear hK K
                  refine done_ (by kernel_rfl) ?_
                  clear hr10 hb10 hbs10
                  have HP := Lib.hid (HA10.out.rf.put O.length ha1 ⟨f2, LW, .slice A10 LW.length c10⟩ HEN.out.symm ⟨A10, c10, bs10, rfl, hz10, HR10.out⟩ (by show LW.length ≤ _; have h00 := List.length_nil (α := Pr); omega))
                  obtain ⟨bsc, hbc, hrc⟩ := HP.out.1.c
                  have HS := Lib.hid (rSet22 _ bsc _ _ cs (Nat.le_trans HP.out.1.csl (by decide)) hrc f3 f4)
                  have hbk : Blk (put5 w10 g1 O.length ⟨f2, LW, .slice A10 LW.length c10⟩) wo.heap.size #[.int .i64 f0, .int .i64 f1, .int .i64 f2, .int .i64 f3, .int .i64 f4] 29 := (HP.out.2.block _ HA10.out.blk.lt (fun e => own_ne HA10.out.rf.o HA10.out.blk (by decide) e.symm)).trans HA10.out.blk
                  have b3 := hbk.cell 3; have b4 := hbk.cell 4
                  simp at b3 b4
                  have hwz : w.heap.size ≤ (put5 w10 g1 O.length ⟨f2, LW, .slice A10 LW.length c10⟩).heap.size := HP.out.1.bel.size
                  clear hrc hbk
                  go_wp2_with fail
                  refine HS.out.mono ?_
                  rintro e w11 ⟨A11, c11, rfl, hr11, hq11⟩
                  have HR11 := Lib.hid hr11; have HP11 := Lib.hid (HP.out.1.quiet hq11)
                  clear hr11 hq11
                  go_wp2
                  go_roundw
                  case rel =>
                    refine ⟨i + 1, _, A11, c11, O1.set O.length ⟨f2, LW, .slice A10 LW.length c10⟩, g1, c1, ok, by omega, by go_num, rfl, rfl, by rw [List.length_set], ?_, ?_⟩
                    · exact Lib.hid (by rw [gL_set O1 O.length ha1 _ HA10.out.rf.un HEN.out.symm]; show repG _ _ (updO (gL O1) f2 LW) _ = _; rw [HGL.out LW]; exact HQ.out)
                    · exact Lib.hid (by rw [List.length_set]; exact (HP11.out.setc _ hwz HR11.out (cSet_len _ _ _)))
                  case measure => simp [intOf]; omega
                · rw [hat]
                  have HA9 := HA7d
                  have HGL : True := trivial
                  have hg1 := gL_at O HA7d.out.rf.un a1 ha1
                  rw [hen1] at hg1
                  rw [hg1] at HQ
                  obtain ⟨Au, cu, bsu, hv1, hbu, hru0⟩ := HA7d.out.rf.u O[a1] (List.getElem_mem ha1)
                  have hru1 : R22 w7.drew.drew bsu (.slice Au O[a1].u.length cu) O[a1].u := by rw [← hv1]; exact R22.quiet hru0 ((Fr.refl _ w7.drew).drew)
                  have hlu := HA7d.out.rf.ul O[a1] (List.getElem_mem ha1)
                  generalize O[a1].u = Lu at *
                  clear hat hg1 hru0 HA7d
                  go_wp2
                  go_region
                  generalize w7.drew = w9 at HA9 hru1 ⊢
                  have HA9d := Lib.hid (HA9.out.quiet ((Fr.refl _ w9).drew))
                  obtain ⟨e0, e1, e2, e3, e4⟩ := HA9.out.rf.at a1 ha1
                  rw [hen1] at e1
                  rw [hv1] at e3
                  have n0 := HA9.out.blk.cell 0; have n2 := HA9.out.blk.cell 2; have n3 := HA9.out.blk.cell 3; have n4 := HA9.out.blk.cell 4
                  simp at n0 n2 n3 n4
                  obtain ⟨bsA, hbA, hrA⟩ := HA9.out.rf.c
                  obtain ⟨AA, cA, eA, hcA, hCA⟩ := hrA.reads
                  injection eA with eA1 _ eA2
                  subst eA1 eA2
                  obtain ⟨adA, eAA, m0, m1⟩ := at_T76 hCA (p : Int) (by omega) (by rw [allL_len]; omega)
                  cases eAA
                  rw [rd_allL cs p hp] at m1
                  simp only [Int.toNat_natCast] at m1
                  rw [show cs[p].2.2 = gv from by rw [HGV.out, cAt_lt cs p hp]] at m1
                  have HW := Lib.hid (wGWrote w9.drew bsu Au cu Lu hru1 (by omega) f2 f3 gv)
                  unfold gA at HW
                  obtain ⟨LW, hLW⟩ : ∃ z, z = wroteL Lu f3 gv := ⟨_, rfl⟩
                  rw [← hLW] at HW HQ
                  have hlw : LW.length ≤ Lu.length + 1 := by rw [hLW]; exact wroteL_len _ _ _
                  have HEN := Lib.hid hen1
                  clear hLW hen1 hv1 hrA hCA hru1 m0
                  go_upto_region 28 with fail
                  refine start_ (n := 16) (S := fun w' => w'.cell? ⟨g8, a1 * 5, none⟩ = some (.slice none 0 0) ∧ w'.cell? ⟨g8, a1 * 5 + 1, none⟩ = some (.int .i64 f2) ∧ w'.cell? ⟨g8, a1 * 5 + 2, none⟩ = some (.int .i64 0) ∧ w'.cell? ⟨g8, a1 * 5 + 3, none⟩ = some (.slice Au Lu.length cu) ∧ w'.cell? ⟨g8, a1 * 5 + 4, none⟩ = some (.slice none 0 0) ∧ w'.cell? ⟨wo.heap.size, 3, none⟩ = some (.int .i64 f3) ∧ w'.cell? ⟨(ad7.add (p * 2)).block, (ad7.add (p * 2)).off + 1, none⟩ = some (.int .i64 gv)) (ds := [15]) #[false, false, false, false, false, false, false, false, false, false, false, false, false, false, false, false] (by kernel_rfl) rfl rfl ⟨e0, e1, e2, e3, e4, n3, m1⟩ (fun hHeld => ?_)
                  refine pure_ (i := 0) (N := some 142) (v := ?_) (a' := ?_) #[true, false, false, false, false, false, false, false, false, false, false, false, false, false, false, false] rfl rfl (by kernel_rfl) (fun _ _ _ h => h) (Or.inl ⟨by rfl, ?_⟩) ?_ ?_
                  rotate_left
                  · intro w'
                    go_simp
                    with_reducible rfl
                  rotate_left
                  · simp only [Act.put, List.setIfInBounds_toArray, List.set_cons_zero, List.set_cons_succ, i64_w, i32_w]
                    rfl
                  refine pure_ (i := 1) (N := some 143) (v := ?_) (a' := ?_) #[true, true, false, false, false, false, false, false, false, false, false, false, false, false, false, false] rfl rfl (by kernel_rfl) (fun _ _ _ h => h) (Or.inl ⟨by rfl, ?_⟩) ?_ ?_
                  rotate_left
                  · intro w'
                    go_simp
                    with_reducible rfl
                  rotate_left
                  · simp only [Act.put, List.setIfInBounds_toArray, List.set_cons_zero, List.set_cons_succ, i64_w, i32_w]
                    rfl
                  refine pure_ (i := 2) (N := some 144) (v := ?_) (a' := ?_) #[true, true, true, false, false, false, false, false, false, false, false, false, false, false, false, false] rfl rfl (by kernel_rfl) (fun _ _ _ h => h) (Or.inl ⟨by rfl, ?_⟩) ?_ ?_
                  rotate_left
                  · intro w'
                    go_simp
                    with_reducible rfl
                  rotate_left
                  · simp only [Act.put, List.setIfInBounds_toArray, List.set_cons_zero, List.set_cons_succ, i64_w, i32_w]
                    rfl
                  refine pure_ (i := 3) (N := some 145) (v := ?_) (a' := ?_) #[true, true, true, true, false, false, false, false, false, false, false, false, false, false, false, false] rfl rfl (by kernel_rfl) (fun _ _ _ h => h) (Or.inl ⟨by rfl, ?_⟩) ?_ ?_
                  rotate_left
                  · intro w'
                    go_simp
                    with_reducible rfl
                  rotate_left
                  · simp only [Act.put, List.setIfInBounds_toArray, List.set_cons_zero, List.set_cons_succ, i64_w, i32_w]
                    rfl
                  refine pure_ (i := 4) (N := some 146) (v := ?_) (a' := ?_) #[true, true, true, true, true, false, false, false, false, false, false, false, false, false, false, false] rfl rfl (by kernel_rfl) (fun _ _ _ h => h) (Or.inl ⟨by rfl, ?_⟩) ?_ ?_
                  rotate_left
                  · intro w'
                    go_simp
                    with_reducible rfl
                  rotate_left
                  · simp only [Act.put, List.setIfInBounds_toArray, List.set_cons_zero, List.set_cons_succ, i64_w, i32_w]
                    rfl
                  refine pure_ (i := 6) (N := some 148) (v := ?_) (a' := ?_) #[true, true, true, true, true, false, true, false, false, false, false, false, false, false, false, false] rfl rfl (by kernel_rfl) (fun _ _ _ h => h) (Or.inl ⟨by rfl, ?_⟩) ?_ ?_
                  rotate_left
                  · intro w'
                    go_simp
                    with_reducible rfl
                  rotate_left
                  · simp only [Act.put, List.setIfInBounds_toArray, List.set_cons_zero, List.set_cons_succ, i64_w, i32_w]
                    rfl
                  refine pure_ (i := 8) (N := some 150) (v := ?_) (a' := ?_) #[true, true, true, true, true, false, true, false, true, false, false, false, false, false, false, false] rfl rfl (by kernel_rfl) (fun _ _ _ h => h) (Or.inl ⟨by rfl, ?_⟩) ?_ ?_
                  rotate_left
                  · intro w'
                    go_simp
                    with_reducible rfl
                  rotate_left
                  · simp only [Act.put, List.setIfInBounds_toArray, List.set_cons_zero, List.set_cons_succ, i64_w, i32_w]
                    rfl
                  refine pure_ (i := 9) (N := some 151) (v := ?_) (a' := ?_) #[true, true, true, true, true, false, true, false, true, true, false, false, false, false, false, false] rfl rfl (by kernel_rfl) (fun _ _ _ h => h) (Or.inl ⟨by rfl, ?_⟩) ?_ ?_
                  rotate_left
                  · intro w'
                    go_simp
                    with_reducible rfl
                  rotate_left
                  · simp only [Act.put, List.setIfInBounds_toArray, List.set_cons_zero, List.set_cons_succ, i64_w, i32_w]
                    rfl
                  refine pure_ (i := 10) (N := some 152) (v := ?_) (a' := ?_) #[true, true, true, true, true, false, true, false, true, true, true, false, false, false, false, false] rfl rfl (by kernel_rfl) (fun _ _ _ h => h) (Or.inl ⟨by rfl, ?_⟩) ?_ ?_
                  rotate_left
                  · intro w'
                    go_simp
                    with_reducible rfl
                  rotate_left
                  · simp only [Act.put, List.setIfInBounds_toArray, List.set_cons_zero, List.set_cons_succ, i64_w, i32_w]
                    rfl
                  refine pure_ (i := 11) (N := some 153) (v := ?_) (a' := ?_) #[true, true, true, true, true, false, true, false, true, true, true, true, false, false, false, false] rfl rfl (by kernel_rfl) (fun _ _ _ h => h) (Or.inl ⟨by rfl, ?_⟩) ?_ ?_
                  rotate_left
                  · intro w'
                    go_simp
                    with_reducible rfl
                  rotate_left
                  · simp only [Act.put, List.setIfInBounds_toArray, List.set_cons_zero, List.set_cons_succ, i64_w, i32_w]
                    rfl
                  refine take_ (i := 5) (N := some 147) (v := ?_) (a' := ?_) #[true, true, true, true, true, true, true, false, true, true, true, true, false, false, false, false] rfl rfl (by kernel_rfl) (fun _ _ _ h => h) (Or.inl ⟨by rfl, ?_⟩) hHeld ?_ ?_
                  rotate_left
                  · rintro w' ⟨s0, s1, s2, s3, s4, s5, s6⟩
                    go_simp
                    with_reducible rfl
                  rotate_left
                  · simp only [Act.put, List.setIfInBounds_toArray, List.set_cons_zero, List.set_cons_succ, i64_w, i32_w]
                    rfl
                  refine take_ (i := 7) (N := some 149) (v := ?_) (a' := ?_) #[true, true, true, true, true, true, true, true, true, true, true, true, false, false, false, false] rfl rfl (by kernel_rfl) (fun _ _ _ h => h) (Or.inl ⟨by rfl, ?_⟩) hHeld ?_ ?_
                  rotate_left
                  · rintro w' ⟨s0, s1, s2, s3, s4, s5, s6⟩
                    go_simp
                    with_reducible rfl
                  rotate_left
                  · simp only [Act.put, List.setIfInBounds_toArray, List.set_cons_zero, List.set_cons_succ, i64_w, i32_w]
                    rfl
                  refine take_ (i := 12) (N := some 154) (v := ?_) (a' := ?_) #[true, true, true, true, true, true, true, true, true, true, true, true, true, false, false, false] rfl rfl (by kernel_rfl) (fun _ _ _ h => h) (Or.inl ⟨by rfl, ?_⟩) hHeld ?_ ?_
                  rotate_left
                  · rintro w' ⟨s0, s1, s2, s3, s4, s5, s6⟩
                    go_simp
                    with_reducible rfl
                  rotate_left
                  · simp only [Act.put, List.setIfInBounds_toArray, List.set_cons_zero, List.set_cons_succ, i64_w, i32_w]
                    rfl
                  refine one_ (i := 13) (N := some 155) #[true, true, true, true, true, true, true, true, true, true, true, true, true, true, false, false] rfl rfl (by kernel_rfl) (by decide) (fun K hK => ?_)
                  refine goes_ Try.func48 (by kernel_rfl) rfl #[.agg #[.slice none 0 0, .int .i64 f2, .int .i64 0, .slice Au Lu.length cu, .slice none 0 0], .int .i64 f3, .int .i64 gv] (by rfl) rfl rfl (by simp only [List.map_toArray, List.map_cons, List.map_nil]; rfl) ?_
                  with_reducible refine (HW.out).mono ?_
                  rintro e w10 ⟨A10, c10, bs10, rfl, hbs10, hr10, hb10⟩
                  refine ⟨_, rfl, ?_⟩
                  have HA10 := Lib.hid (HA9d.out.quiet (Fr.of_below hb10))
                  have fz := fun i => HA10.out.rf.o.frozenAt i
                  have k0 := ((hb10.cell (World.block_lt_of_cell? w9.drew _ e0)).trans e0)
                  have k1 := ((hb10.cell (World.block_lt_of_cell? w9.drew _ e1)).trans e1)
                  have k2 := ((hb10.cell (World.block_lt_of_cell? w9.drew _ e2)).trans e2)
                  have k3 := ((hb10.cell (World.block_lt_of_cell? w9.drew _ e3)).trans e3)
                  have k4 := ((hb10.cell (World.block_lt_of_cell? w9.drew _ e4)).trans e4)
                  have k5 := ((hb10.cell (World.block_lt_of_cell? w9.drew _ n3)).trans n3)
                  have k6 := ((hb10.cell (World.block_lt_of_cell? w9.drew _ m1)).trans m1)
                  have HR10 := Lib.hid hr10
                  have hz10 : w.heap.size ≤ bs10 := (by have := HA9d.out.rf.bel.size; rcases hbs10 with h | h <;> omega)
                  refine hK.out _ _ ⟨k0, k1, k2, k3, k4, k5, k6⟩ (fun hHeld => ?_)
                  clear hK K
                  refine norm_ (a' := ?_) ?_ ?_
                  rotate_left
                  · show Act.put _ (some 155) _ = _
                    simp only [Act.put, List.setIfInBounds_toArray, List.set_cons_zero, List.set_cons_succ, i64_w, i32_w]
                    rfl
                  refine pure_ (i := 14) (N := some 156) (v := ?_) (a' := ?_) #[true, true, true, true, true, true, true, true, true, true, true, true, true, true, true, false] rfl rfl (by kernel_rfl) (fun _ _ _ h => h) (Or.inl ⟨by rfl, ?_⟩) ?_ ?_
                  rotate_left
                  · intro w'
                    go_simp
                    with_reducible rfl
                  rotate_left
                  · simp only [Act.put, List.setIfInBounds_toArray, List.set_cons_zero, List.set_cons_succ, i64_w, i32_w]
                    rfl
                  refine last_ (i := 15) (N := none) #[true, true, true, true, true, true, true, true, true, true, true, true, true, true, true, true] rfl rfl (by kernel_rfl) (by decide) (fun K hK => ?_)
                  refine skip_ (w1 := ?_) (by rfl) rfl ?_ ?_
                  rotate_left
                  · go_simp
                    rfl
                  refine hK.out _ _ ?_
                  clear hK K
                  refine done_ (by kernel_rfl) ?_
                  clear hr10 hb10 hbs10
                  have HP := Lib.hid (HA10.out.rf.put a1 ha1 ⟨f2, LW, .slice A10 LW.length c10⟩ HEN.out.symm ⟨A10, c10, bs10, rfl, hz10, HR10.out⟩ (by show LW.length ≤ _; have h00 := List.length_nil (α := Pr); omega))
                  obtain ⟨bsc, hbc, hrc⟩ := HP.out.1.c
                  have HS := Lib.hid (rSet22 _ bsc _ _ cs (Nat.le_trans HP.out.1.csl (by decide)) hrc f3 f4)
                  have hbk : Blk (put5 w10 g8 a1 ⟨f2, LW, .slice A10 LW.length c10⟩) wo.heap.size #[.int .i64 f0, .int .i64 f1, .int .i64 f2, .int .i64 f3, .int .i64 f4] 29 := (HP.out.2.block _ HA10.out.blk.lt (fun e => own_ne HA10.out.rf.o HA10.out.blk (by decide) e.symm)).trans HA10.out.blk
                  have b3 := hbk.cell 3; have b4 := hbk.cell 4
                  simp at b3 b4
                  have hwz : w.heap.size ≤ (put5 w10 g8 a1 ⟨f2, LW, .slice A10 LW.length c10⟩).heap.size := HP.out.1.bel.size
                  clear hrc hbk
                  go_wp2_with fail
                  refine HS.out.mono ?_
                  rintro e w11 ⟨A11, c11, rfl, hr11, hq11⟩
                  have HR11 := Lib.hid hr11; have HP11 := Lib.hid (HP.out.1.quiet hq11)
                  clear hr11 hq11
                  go_wp2
                  go_roundw
                  case rel =>
                    refine ⟨i + 1, _, A11, c11, O.set a1 ⟨f2, LW, .slice A10 LW.length c10⟩, g8, c8, ok, by omega, by go_num, rfl, rfl, by rw [List.length_set], ?_, ?_⟩
                    · exact Lib.hid (by rw [gL_set O a1 ha1 _ HA10.out.rf.un HEN.out.symm]; show repG _ _ (updO (gL O) f2 LW) _ = _; exact HQ.out)
                    · exact Lib.hid (by rw [List.length_set]; exact (HP11.out.setc _ hwz HR11.out (cSet_len _ _ _)).next)
                  case measure => simp [intOf]; omega
            · have c2b : decide (f2 > 0) = false := by simpa using c2
              clear hend
              go_wp2_with fail
              refine HE.out.mono ?_
              rintro e w6 ⟨rfl, hb6⟩
              have HA6 := Lib.hid (HA.out.quiet (Fr.of_below hb6))
              have z0 := HA6.out.blk.cell 0; have z2 := HA6.out.blk.cell 2; have z3 := HA6.out.blk.cell 3; have z4 := HA6.out.blk.cell 4
              simp at z0 z2 z3 z4
              clear hb6 HE HA y0 y1 y2 y3 y4
              cases ia
              case false =>
                rw [if_neg (by simp)] at HQ
                go_wp2
                go_roundw
                case rel => exact ⟨i + 1, cs, A6, c6, O, g8, c8, ok, by omega, by go_num, rfl, rfl, rfl, HQ, Lib.hid HA6.out.rf.next.next⟩
                case measure => simp [intOf]; omega
              rw [if_pos rfl] at HQ
              obtain ⟨bs6, hb6, hr6⟩ := HA6.out.rf.c
              have HF := Lib.hid (rFind22 w6 bs6 A6 c6 cs (Nat.le_trans HA6.out.rf.csl (by decide)) hr6 f3)
              clear hr6
              cases hfx : fidx f3 cs with
              | none =>
                obtain ⟨k1, k2⟩ := fI_none hfx
                rw [k1] at HF
                rw [k2] at HQ
                rw [if_pos rfl] at HQ
                clear k1 k2
                go_wp2_with fail
                refine HF.out.mono ?_
                rintro e w7 ⟨rfl, hq7⟩
                have HA7 := Lib.hid (HA6.out.quiet hq7)
                have v0 := HA7.out.blk.cell 0; have v2 := HA7.out.blk.cell 2; have v3 := HA7.out.blk.cell 3; have v4 := HA7.out.blk.cell 4
                simp at v0 v2 v3 v4
                clear hq7 HF HA6 z0 z2 z3 z4
                go_wp2
                go_region
                go_wp2
                go_roundw
                case rel => exact ⟨i + 1, cs, _, _, O, g8, c8, false, by omega, by go_num, rfl, rfl, rfl, HQ, Lib.hid (HA7.out.quiet ((Fr.refl _ w7).drew)).rf.next.next⟩
                case measure => simp [intOf]; omega
              | some p =>
                obtain ⟨k1, k2⟩ := fI_some hfx
                obtain ⟨hp, _⟩ := fidx_lt f3 cs p hfx
                rw [k1] at HF
                rw [k2] at HQ
                rw [if_neg (by simp)] at HQ
                obtain ⟨gv, hgv⟩ : ∃ z, z = (cAt cs p).2.2 := ⟨_, rfl⟩
                dsimp only at HQ
                rw [← hgv] at HQ
                have HGV := Lib.hid hgv
                clear hgv
                clear k1 k2
                go_wp2_with fail
                refine HF.out.mono ?_
                rintro e w7 ⟨rfl, hq7⟩
                have HA7 := Lib.hid (HA6.out.quiet hq7)
                have v0 := HA7.out.blk.cell 0; have v2 := HA7.out.blk.cell 2; have v3 := HA7.out.blk.cell 3; have v4 := HA7.out.blk.cell 4
                simp at v0 v2 v3 v4
                obtain ⟨bs7, hb7, hr7⟩ := HA7.out.rf.c
                obtain ⟨A7, c7, e7, hc7, hC7⟩ := hr7.reads
                injection e7 with e71 _ e72
                subst e71 e72
                obtain ⟨ad7, eA7, m0, m1⟩ := at_T76 hC7 (p : Int) (by omega) (by rw [allL_len]; omega)
                cases eA7
                rw [rd_allL cs p hp] at m1
                simp only [Int.toNat_natCast] at m1
                rw [show cs[p].2.2 = gv from by rw [HGV.out, cAt_lt cs p hp]] at m1
                have hpb : decide ((p : Int) < 0) = false := decide_eq_false (by omega)
                have hpl : p < (allL cs).length := by rw [allL_len]; exact hp
                clear hq7 hr7 hC7 m0 HF HA6 z0 z2 z3 z4
                by_cases c1 : f0 = 1
                · rw [if_pos c1] at HQ
                  have c11 : (f0 == 1) = true := by simp [c1]
                  by_cases c5 : gv = f4
                  · have c51 : (gv != f4) = false := by simp [c5]
                    have c52 : (gv == f4) = true := by simp [c5]
                    rw [c52, Bool.and_true] at HQ
                    clear c1 c5 c52
                    go_wp2
                    go_region
                    go_wp2
                    go_roundw
                    case rel => exact ⟨i + 1, cs, _, _, O, g8, c8, ok, by omega, by go_num, rfl, rfl, rfl, HQ, Lib.hid (HA7.out.quiet ((Fr.refl _ w7).drew)).rf.next.next⟩
                    case measure => simp [intOf]; omega
                  · have c51 : (gv != f4) = true := by simp [c5]
                    have c52 : (gv == f4) = false := by simp [c5]
                    rw [c52, Bool.and_false] at HQ
                    clear c1 c5 c52
                    go_wp2
                    go_region
                    go_wp2
                    go_roundw
                    case rel => exact ⟨i + 1, cs, _, _, O, g8, c8, false, by omega, by go_num, rfl, rfl, rfl, HQ, Lib.hid (HA7.out.quiet ((Fr.refl _ w7).drew)).rf.next.next⟩
                    case measure => simp [intOf]; omega
                rw [if_neg c1] at HQ
                have c11 : (f0 == 1) = false := by simp [c1]
                clear c1
                rw [if_neg (Int.not_lt.2 c2)] at HQ
                have HA7d := Lib.hid (HA7.out.quiet ((Fr.refl _ w7).drew))
                obtain ⟨bsc, hbc, hrc⟩ := HA7d.out.rf.c
                have HS := Lib.hid (rSet22 w7.drew bsc _ _ cs (Nat.le_trans HA7d.out.rf.csl (by decide)) hrc f3 f4)
                have hwz : w.heap.size ≤ w7.drew.heap.size := HA7d.out.rf.bel.size
                clear hrc
                go_wp2
                go_region
                go_wp2_with fail
                refine HS.out.mono ?_
                rintro e w8 ⟨A8, c8', rfl, hr8, hq8⟩
                have HR8 := Lib.hid hr8; have HA8 := Lib.hid (HA7d.out.quiet hq8)
                clear hr8 hq8
                go_wp2
                go_roundw
                case rel => exact ⟨i + 1, _, A8, c8', O, g8, c8, ok, by omega, by go_num, rfl, rfl, rfl, HQ, Lib.hid (HA8.out.rf.setc _ hwz HR8.out (cSet_len _ _ _)).next.next⟩
                case measure => simp [intOf]; omega
    · have e : i = l.length := by omega
      have hq := HQ.out
      rw [List.drop_of_length_le (by omega)] at hq
      simp only [repG] at hq
      have HQ2 := Lib.hid hq
      obtain ⟨bs, hb, hr⟩ := HR.out.c
      have HB := Lib.hid HR.out.bel
      have HR2 := Lib.hid hr
      clear hq HR HQ hr
      go_wp2
      go_ret2
      rw [← HQ2.out]
      exact ⟨_, bs, rfl, hb, HR2.out, HB.out⟩
end Go.Proofs.Ytadepdeckapgcaa.Hi
end

section
namespace Go.Proofs.Ytadepdeckapgcaa.Hi
open Go.Proofs.Ytadepdeckapgcaa Go.RowKit Go.Maps Go.Proofs.YtadepdeckapgcaaW.PrintWords Go.Proofs.YtadepdeckapgcaaW.PrintLast Go.Proofs.YtadepdeckapgcaaW.PrintMore Go.Proofs.Ytadepdeckapgcaa.PHj Go.Proofs.Ytadepdeckapgcaa.PHi
set_option linter.unusedVariables false
set_option linter.unusedSimpArgs false
theorem infoDe : (Try.prog.info? 86).map (fun i => (i.zero, i.size, i.bytes)) = some (some (.agg #[.int .i64 0, .int .i64 0, .int .i64 0]), 3, 24) := by kernel_rfl
abbrev shDe : Sh (Int × Int × Int) := shP shInt (shP shInt shInt)
def toDe (x : Int × Int × Int) : De22 := ⟨x.1, x.2.1, x.2.2⟩
theorem de_of {w : World} (a : Int × Int × Int) (cs : List Value) (h : shDe.rd w w.heap.size a cs) : k86.K w (toDe a) cs := by
  obtain ⟨c1, c2, rfl, _, ⟨rfl, _⟩, ⟨c3, c4, rfl, _, ⟨rfl, _⟩, ⟨rfl, _⟩⟩⟩ := h
  exact k86_mk w (toDe a)
theorem D_of_shape {w : World} {l : List (Int × Int × Int)} {v : Value} (h : (shL shDe).rd w w.heap.size l [v]) : D22 w v (l.map toDe) := by
  obtain ⟨A, c, rfl, hC, hc⟩ := C_of_shape (S := shDe) (d := k86) toDe rfl de_of h
  refine ⟨A, c, rfl, hc, hC, fun hne => ?_⟩
  rcases h with ⟨rfl, _⟩ | ⟨b, o, cap, hb, _, _, h, _⟩
  · simp at hne
  · simp at h
    obtain ⟨rfl, _⟩ := h
    exact ⟨b, o, rfl, hb⟩
theorem D22_take {w : World} {A : Option Addr} {c : Nat} {d : List De22} (h : D22 w (.slice A d.length c) d) (h60 : 60 < d.length) : D22 w (.slice A 60 c) (d.take 60) := by
  obtain ⟨A', c', e, hc, hC, hA⟩ := h
  injection e with e1 _ e2
  subst e1 e2
  have hl : (d.take 60).length = 60 := by simp; omega
  refine ⟨A, c, by rw [hl], by omega, ⟨rfl, by omega, fun _ => ?_⟩, fun _ => hA (fun e => by subst e; simp at h60)⟩
  obtain ⟨ad, e, hcell⟩ := hC.2.2 (by omega)
  refine ⟨ad, e, fun j p hj => hcell j p ?_⟩
  have hjl : j < 60 := by have := (List.getElem?_eq_some_iff.1 hj).1; omega
  rw [List.getElem?_take_of_lt hjl] at hj
  exact hj
theorem D_of_R {w : World} {base : Nat} {ok : Nat → Prop} {v : Value} {d : List De22} (h : Kd.R k86 86 w base ok v d) : D22 w v d := by
  obtain ⟨inner, ho⟩ := Kd.R_own h
  obtain ⟨A, c, rfl, hc, hC⟩ := Kd.R_reads h
  refine ⟨A, c, rfl, hc, hC, fun hne => ?_⟩
  rcases ho.2 with ⟨_, h0⟩ | ⟨g, cap, cur, e, _⟩
  · exact absurd (List.eq_nil_of_length_eq_zero h0) hne
  · injection e with e1 _ _
    subst e1
    exact ⟨g, 0, rfl, (ho.lt g rfl).2⟩
theorem wFew (w : World) (A : Option Addr) (c : Nat) (l : List Mk) (hC : Kd.C k29 w A l.length l) (hc : l.length ≤ c) :
    Calls Try.prog 6 #[.slice A l.length c] w fun e w' => ∃ A' c', e = .returned (.slice A' (l.take 120).length c') ∧ (l.take 120).length ≤ c' ∧ Kd.C k29 w' A' (l.take 120).length (l.take 120) ∧ Below w.heap.size w w' := by
  obtain ⟨k, hk⟩ := (ev_few l).rounds
  refine (logjamlaw38_few.calls k (fun k_ => k_ < w.heap.size) A c l _ w (Kd.V_mk hc (Kd.C_F k29_heap hC)) hk).mono ?_
  rintro e w' ⟨v, rfl, hR, hb⟩
  obtain ⟨A', c', rfl, hc', hC'⟩ := Kd.R_reads hR
  exact ⟨A', c', rfl, hc', hC', hb⟩
set_option maxRecDepth 100000 in
set_option maxHeartbeats 8000000 in
theorem replaysLaw (w : World) (A0 : Option Addr) (c0 : Nat) (d : List De22) (hD : D22 w (.slice A0 d.length c0) d) (A : Option Addr) (c : Nat) (l : List Mk) (hC : Kd.C k29 w A l.length l) (hc : l.length ≤ c) (hm : ∀ m ∈ l, inM m) :
    Calls Try.prog 5 #[.slice A0 d.length c0, .slice A l.length c] w fun e w' => e = .returned (.bool true) ∧ Quiet w w' := by
  have HF1 := Lib.hid (wFew w A c l hC hc)
  have h120 : (l.take 120).take 120 = l.take 120 := by rw [List.take_take]; rfl
  have hml : (l.take 120).length ≤ 120 := by simp; omega
  have hmm : ∀ m ∈ l.take 120, inM m := fun m h => hm m (List.mem_of_mem_take h)
  have HD := Lib.hid hD
  have hcd : d.length ≤ c0 := by obtain ⟨A', c', e, h, _⟩ := hD; injection e with _ _ e2; omega
  have hmx : d.length ≤ 9223372036854775807 := by obtain ⟨A', c', e, _, h, _⟩ := hD; exact h.2.1
  have HL := Lib.hid (fun w' => (ev_lives.rounds).elim (fun k hk => logjamlaw38_lives.calls k true w' hk))
  generalize l.take 120 = m at *
  clear hD hm hC
  by_cases h60 : 60 < d.length
  · obtain ⟨dd, hdd⟩ : ∃ z, z = d.take 60 := ⟨_, rfl⟩
    have hdl0 : dd.length = 60 := by rw [hdd]; simp; omega
    have h60c : (60 : Int) ≤ c0 := by omega
    have h60d : decide ((d.length : Int) > 60) = true := decide_eq_true (by omega)
    have HDD := Lib.hid hdd
    clear hdd
    have HF2 := Lib.hid (fun w' (A' : Option Addr) (c' : Nat) (hC' : Kd.C k29 w' A' m.length m) (hc' : m.length ≤ c') => by have q := wFew w' A' c' m hC' hc'; rw [h120] at q; exact q)
    go_enter Try.func5, Try.ntmps5
    go_wp2_with fail
    refine HF1.out.mono ?_
    rintro e w1 ⟨A1, c1, rfl, hc1, hC1, hb1⟩
    have HD1 : Hid (D22 w1 (.slice A0 60 c0) dd) := Lib.hid (by have q := (D22_take HD.out h60).quiet (Fr.of_below hb1); rw [← HDD.out] at q; exact q)
    have HBl : Hid (Below w1.heap.size w1 (w1.alloc (.cells #[] 86))) := (Below.refl _ _).alloc (Nat.le_refl _) _
    obtain ⟨A0', c0', e0, hc0', hC0, _⟩ := HD1.out
    injection e0 with e01 e0n e02
    subst e01 e02
    have HCd : Hid (Kd.C k86 (w1.alloc (.cells #[] 86)) A0 60 dd) := Lib.hid (by rw [e0n]; exact Kd.C_below hC0 HBl.out)
    have HRl : Hid (Kd.R k86 86 (w1.alloc (.cells #[] 86)) w1.heap.size (fun _ => True) (.slice (some ⟨w1.heap.size, 0, none⟩) 0 0) []) :=
      ⟨fun _ _ => trivial, [], World.ownsRow_lit (base := w1.heap.size) (e := 86) (size := 3) w1 #[] 0 (Nat.le_refl _) (by simp) (by simp), Reps.none _ _⟩
    have HC1 := Lib.hid hC1; have HB1 := Lib.hid hb1
    have hdl : dd.length ≤ 60 := by omega
    clear hC1 hb1 hC0 HF1 e0n hdl0
    obtain ⟨i05, hi05, _, hsz5, _⟩ := info_parts infoDe
    have q5 : (60 : Int) ≤ ((d.length : Int) : Int) := by omega
    have hcut5 := cut_to (P := Try.prog) 38 86 .i64 Try.underlying38 hi05 A0 d.length c0 60 (by omega) q5 hcd
    go_wp2_with (first
      | (at_builtin; refine Kd.R_append_rows k86 (Rr := k86.K (w1.alloc (.cells #[] 86))) (w0 := w1) w1.heap.size rfl (.tmp 17) (.tmp 18) 38 86 _ 24 rfl Try.underlying38 infoDe rfl (by decide) (by decide) _ [] dd A0 60 c0 (fun _ => True) (fun _ => False) rfl rfl HRl.out HCd.out (fun x cs hk => by have := k86_open hk; rw [this]; exact k86_mkM _ _ _ x) (fun _ q => q.elim) (fun _ _ => trivial) HBl.out HBl.out.size (by simp <;> omega) ?_; intro v2 w2 ho2 hb2 hg2 hat2; rw [List.nil_append] at ho2; have HR2 := Lib.hid (D_of_R ho2); have HB2 := Lib.hid hb2; obtain ⟨A2, c2, rfl⟩ := Kd.R_slice ho2; have HF2' := Lib.hid (HF2.out w2 A1 c1 (Kd.C_below HC1.out hb2) hc1); clear ho2 hb2 hg2 hat2)
      | (go_at_call 6; refine HF2'.out.mono ?_; rintro e w3 ⟨A3, c3, rfl, hc3, hC3, hb3⟩; have HP := Lib.hid (wReplay w3 _ dd hdl (HR2.out.quiet (Fr.of_below hb3)) A3 c3 m hC3 (by omega) hmm); have HB3 := Lib.hid hb3; clear hC3 hb3)
      | (go_at_call 17; refine HP.out.mono ?_; rintro e w4 ⟨v4, bs4, rfl, hbs4, hr4, hlen4, hq4⟩; obtain ⟨A4, c4, rfl⟩ := Kd.R_slice hr4; have HR4 := Lib.hid hr4; have HQ14 : Hid (Quiet w1 w4) := Lib.hid (((Fr.of_below HB2.out).quiet (Fr.of_below HB3.out)).quiet hq4); have HRP := Lib.hid (wRReplay w4 _ dd hdl (HD1.out.quiet HQ14.out) A1 c1 m (Kd.C_below HC1.out (HQ14.out.below (fun _ _ q => q))) (by omega) hmm); clear hr4 hq4)
      | (go_at_call 18; refine HRP.out.mono ?_; rintro e w5 ⟨v5, bs5, rfl, hbs5, hr5, hq5⟩; obtain ⟨A5, c5, rfl⟩ := Kd.R_slice hr5; have HS := Lib.hid (sameYes22 w5 _ _ _ (by rw [allL_len]; omega) _ _ (R22.quiet HR4.out hq5) hr5); have HQ5 := Lib.hid (HQ14.out.quiet hq5); clear hr5 hq5)
      | (go_at_call 19; refine HS.out.mono ?_; rintro e w6 ⟨rfl, hq6⟩; have HQ6 := Lib.hid (HQ5.out.quiet hq6); have HLL := Lib.hid (HL.out w6); clear hq6)
      | (go_at_call 16; refine HLL.out.mono ?_; rintro e w7 ⟨rfl, hb7⟩; have HQ7 := Lib.hid (HQ6.out.quiet (Fr.of_below hb7)); clear hb7))
    go_ret
    exact ⟨by simp, (Fr.of_below HB1.out).quiet HQ7.out⟩
  · obtain ⟨dd, hdd⟩ : ∃ z, z = d := ⟨_, rfl⟩
    have hdl0 : dd.length = d.length := by rw [hdd]
    have h60d : decide ((d.length : Int) > 60) = false := decide_eq_false (by omega)
    have HDD := Lib.hid hdd
    clear hdd
    have HF2 := Lib.hid (fun w' (A' : Option Addr) (c' : Nat) (hC' : Kd.C k29 w' A' m.length m) (hc' : m.length ≤ c') => by have q := wFew w' A' c' m hC' hc'; rw [h120] at q; exact q)
    go_enter Try.func5, Try.ntmps5
    go_wp2_with fail
    refine HF1.out.mono ?_
    rintro e w1 ⟨A1, c1, rfl, hc1, hC1, hb1⟩
    have HD1 : Hid (D22 w1 (.slice A0 d.length c0) dd) := Lib.hid (by have q := HD.out.quiet (Fr.of_below hb1); rw [HDD.out]; exact q)
    have HBl : Hid (Below w1.heap.size w1 (w1.alloc (.cells #[] 86))) := (Below.refl _ _).alloc (Nat.le_refl _) _
    obtain ⟨A0', c0', e0, hc0', hC0, _⟩ := HD1.out
    injection e0 with e01 e0n e02
    subst e01 e02
    have HCd : Hid (Kd.C k86 (w1.alloc (.cells #[] 86)) A0 d.length dd) := Lib.hid (by rw [e0n]; exact Kd.C_below hC0 HBl.out)
    have HRl : Hid (Kd.R k86 86 (w1.alloc (.cells #[] 86)) w1.heap.size (fun _ => True) (.slice (some ⟨w1.heap.size, 0, none⟩) 0 0) []) :=
      ⟨fun _ _ => trivial, [], World.ownsRow_lit (base := w1.heap.size) (e := 86) (size := 3) w1 #[] 0 (Nat.le_refl _) (by simp) (by simp), Reps.none _ _⟩
    have HC1 := Lib.hid hC1; have HB1 := Lib.hid hb1
    have hdl : dd.length ≤ 60 := by omega
    clear hC1 hb1 hC0 HF1 e0n hdl0
    go_wp2_with (first
      | (at_builtin; refine Kd.R_append_rows k86 (Rr := k86.K (w1.alloc (.cells #[] 86))) (w0 := w1) w1.heap.size rfl (.tmp 17) (.tmp 18) 38 86 _ 24 rfl Try.underlying38 infoDe rfl (by decide) (by decide) _ [] dd A0 d.length c0 (fun _ => True) (fun _ => False) rfl rfl HRl.out HCd.out (fun x cs hk => by have := k86_open hk; rw [this]; exact k86_mkM _ _ _ x) (fun _ q => q.elim) (fun _ _ => trivial) HBl.out HBl.out.size (by simp <;> omega) ?_; intro v2 w2 ho2 hb2 hg2 hat2; rw [List.nil_append] at ho2; have HR2 := Lib.hid (D_of_R ho2); have HB2 := Lib.hid hb2; obtain ⟨A2, c2, rfl⟩ := Kd.R_slice ho2; have HF2' := Lib.hid (HF2.out w2 A1 c1 (Kd.C_below HC1.out hb2) hc1); clear ho2 hb2 hg2 hat2)
      | (go_at_call 6; refine HF2'.out.mono ?_; rintro e w3 ⟨A3, c3, rfl, hc3, hC3, hb3⟩; have HP := Lib.hid (wReplay w3 _ dd hdl (HR2.out.quiet (Fr.of_below hb3)) A3 c3 m hC3 (by omega) hmm); have HB3 := Lib.hid hb3; clear hC3 hb3)
      | (go_at_call 17; refine HP.out.mono ?_; rintro e w4 ⟨v4, bs4, rfl, hbs4, hr4, hlen4, hq4⟩; obtain ⟨A4, c4, rfl⟩ := Kd.R_slice hr4; have HR4 := Lib.hid hr4; have HQ14 : Hid (Quiet w1 w4) := Lib.hid (((Fr.of_below HB2.out).quiet (Fr.of_below HB3.out)).quiet hq4); have HRP := Lib.hid (wRReplay w4 _ dd hdl (HD1.out.quiet HQ14.out) A1 c1 m (Kd.C_below HC1.out (HQ14.out.below (fun _ _ q => q))) (by omega) hmm); clear hr4 hq4)
      | (go_at_call 18; refine HRP.out.mono ?_; rintro e w5 ⟨v5, bs5, rfl, hbs5, hr5, hq5⟩; obtain ⟨A5, c5, rfl⟩ := Kd.R_slice hr5; have HS := Lib.hid (sameYes22 w5 _ _ _ (by rw [allL_len]; omega) _ _ (R22.quiet HR4.out hq5) hr5); have HQ5 := Lib.hid (HQ14.out.quiet hq5); clear hr5 hq5)
      | (go_at_call 19; refine HS.out.mono ?_; rintro e w6 ⟨rfl, hq6⟩; have HQ6 := Lib.hid (HQ5.out.quiet hq6); have HLL := Lib.hid (HL.out w6); clear hq6)
      | (go_at_call 16; refine HLL.out.mono ?_; rintro e w7 ⟨rfl, hb7⟩; have HQ7 := Lib.hid (HQ6.out.quiet (Fr.of_below hb7)); clear hb7))
    go_ret
    exact ⟨by simp, (Fr.of_below HB1.out).quiet HQ7.out⟩
theorem historyReplaysW (W : World) (v0 : Value) (a0 : List (Int × Int × Int)) (e0 : (shL shDe).rd W W.heap.size a0 [v0]) (v1 : Value) (a1 : List (Int × Int × Int × Int × Int)) (e1 : (shL shM).rd W W.heap.size a1 [v1]) :
    Calls Try.prog 5 #[v0, v1] W fun e w' => e = .returned (.bool true) ∧ Quiet W w' := by
  have hin := marks_in e1
  obtain ⟨A, c, rfl, hC, hc⟩ := C_of_shape (S := shM) (d := k29) toMk rfl mark_of e1
  have hD := D_of_shape e0
  obtain ⟨A0, c0, rfl, _⟩ := id hD
  exact replaysLaw W A0 c0 _ hD A c _ hC hc hin
end Go.Proofs.Ytadepdeckapgcaa.Hi
end
