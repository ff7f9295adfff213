/- LawTraceLines, part 5: what the proof stands on (merged by wip/shake.py out of the session's texts and of what the print wrote for this claim). -/
import Derived.Test.YtadepdeckapgcaaDoorZeD

section
namespace Go.Proofs.YtadepdeckapgcaaDoor.PTr
open Go.RowKit Go.Proofs.YtadepdeckapgcaaDoor.Orc Go.Proofs.YtadepdeckapgcaaDoorW.PrintWords Go.Proofs.YtadepdeckapgcaaDoorW.PrintLast Go.Proofs.YtadepdeckapgcaaDoorW.PrintMore
attribute [local go_sem] max2_int min2_int max_two min_two max_three min_three max_four min_four
set_option linter.unusedVariables false
set_option linter.unusedSimpArgs false
def logjamref41_Text.l0 : Nat → List (S72) → ByteArray → Int → Option (ByteArray × Int)
 | 0, _, _, _ => none
 | k + 1, x0, x4, x5 => if x5 < (x0.length : Int) then (if 0 ≤ x5 then ((logjamref41_Check.f k ((rd_T72 x0 x5).f0) ((rd_T72 x0 x5).f1) ((rd_T72 x0 x5).f2) ((rd_T72 x0 x5).f3)).bind fun t177 => (if t177 = 0 then ((logjamref41_Line.f k ((rd_T72 x0 x5).f0) ((rd_T72 x0 x5).f1) ((rd_T72 x0 x5).f2) ((rd_T72 x0 x5).f3)).bind fun t179 => (if x4.size + t179.size ≤ 9223372036854775807 then (if x4.size + t179.size + 1 ≤ 9223372036854775807 then (logjamref41_Text.l0 k x0 ((x4 ++ t179) ++ (⟨#[10]⟩ : ByteArray)) (wrap64 (x5 + 1))) else (none)) else (none))) else (some ((⟨#[]⟩ : ByteArray), t177)))) else (none)) else (some (x4, 0))
def logjamref41_Text.f (k : Nat) (l0 : List (S72)) : Option (ByteArray × Int) := logjamref41_Text.l0 k l0 (⟨#[]⟩ : ByteArray) 0
set_option maxHeartbeats 8000000 in
set_option maxRecDepth 100000 in
theorem logjamref41_Text.calls (k : Nat) (A0 : Option Addr) (c0 : Nat) (l0 : List (S72)) (r1 : ByteArray) (r2 : Int) (w : World) (hr0 : Kd.C k72 w A0 l0.length l0) (hc0 : l0.length ≤ c0) (h : logjamref41_Text.f k l0 = some (r1, r2)) :
  Calls Tryd.prog 49 #[.slice A0 l0.length c0] w fun e w' => e = .returned (.tuple #[.string r1, .int .i64 r2]) ∧ Below w.heap.size w w' := by
 have hu72 := Tryd.underlying72
 have HR0 := Aside0.mk hr0
 have HC0 := Aside0.mk hc0
 clear hr0 hc0
 have HB := Aside0.mk (Below.refl w.heap.size w)
 have H : (logjamref41_Text.l0 k l0 (⟨#[]⟩ : ByteArray) 0) = some (r1, r2) := h
 clear h
 have H' := Aside0.mk H
 clear H
 go_enter Tryd.func49, Tryd.ntmps49
 go_wp2
 go_loopg [4, 5] k (fun kq v4 v5 w' => ∃ (x4_1 : ByteArray) (x5_1 : Int), v4 = .string x4_1 ∧ v5 = .int .i64 x5_1 ∧ Aside0 (logjamref41_Text.l0 kq l0 x4_1 x5_1 = some (r1, r2)) ∧ Aside0 (kq ≤ k) ∧ Aside0 (Below w.heap.size w w'))
 case atStart => exact ⟨((⟨#[]⟩ : ByteArray)), (0), (by first | rfl | (simp; done) | (simp only [emptyNe_, emptyEq_]; done) | (simp [*]; done)), (by first | rfl | (simp; done) | (simp only [emptyNe_, emptyEq_]; done) | (simp [*]; done)), H', ⟨Nat.le_refl _⟩, ⟨by repeat (first | (with_reducible first | exact HB.out | apply below_alloc | apply pw_below_drewN | apply below_drew1) | exact HB.out)⟩⟩
 case round =>
  clear H'
  obtain ⟨x4_1, x5_1, rfl, rfl, HA, HK1, HB⟩ := hrel
  cases gk with
  | zero => exact absurd HA.out (by simp [logjamref41_Text.l0])
  | succ k1 =>
   have H := HA.out
   clear HA
   simp only [logjamref41_Text.l0] at H
   by_cases c2 : x5_1 < (l0.length : Int)
   ·rw [if_pos c2] at H
    have c2b0 : decide (x5_1 < (l0.length : Int)) = true := decide_eq_true c2
    clear c2
    by_cases c3 : 0 ≤ x5_1
    ·rw [if_pos c3] at H
     have c3b0 : decide (0 ≤ x5_1) = true := decide_eq_true c3
     clear c3
     replace H := Option.bind_eq_some_iff.mp H
     obtain ⟨t177, A40, H⟩ := H
     replace H : (if t177 = 0 then ((logjamref41_Line.f k1 ((rd_T72 l0 x5_1).f0) ((rd_T72 l0 x5_1).f1) ((rd_T72 l0 x5_1).f2) ((rd_T72 l0 x5_1).f3)).bind fun t179 => (if x4_1.size + t179.size ≤ 9223372036854775807 then (if x4_1.size + t179.size + 1 ≤ 9223372036854775807 then (logjamref41_Text.l0 k1 l0 ((x4_1 ++ t179) ++ (⟨#[10]⟩ : ByteArray)) (wrap64 (x5_1 + 1))) else (none)) else (none))) else (some ((⟨#[]⟩ : ByteArray), t177))) = some (r1, r2) := H
     have A4 := Aside0.mk A40
     clear A40
     by_cases c5 : t177 = 0
     ·rw [if_pos c5] at H
      have c5b0 : (t177 == 0) = true := beq_iff_eq.mpr c5
      have c5b1 : (t177 != 0) = false := bne_eq_false_iff_eq.mpr c5
      clear c5
      replace H := Option.bind_eq_some_iff.mp H
      obtain ⟨t179, A60, H⟩ := H
      replace H : (if x4_1.size + t179.size ≤ 9223372036854775807 then (if x4_1.size + t179.size + 1 ≤ 9223372036854775807 then (logjamref41_Text.l0 k1 l0 ((x4_1 ++ t179) ++ (⟨#[10]⟩ : ByteArray)) (wrap64 (x5_1 + 1))) else (none)) else (none)) = some (r1, r2) := H
      have A6 := Aside0.mk A60
      clear A60
      by_cases c7 : x4_1.size + t179.size ≤ 9223372036854775807
      ·rw [if_pos c7] at H
       have c7b0 := eq_true c7
       have c7b1 : decide (x4_1.size + t179.size ≤ 9223372036854775807) = true := decide_eq_true c7
       try have c7b2 : (9223372036854775807 < x4_1.size + t179.size) = False := eq_false (Nat.not_lt.2 c7)
       by_cases c8 : x4_1.size + t179.size + 1 ≤ 9223372036854775807
       ·rw [if_pos c8] at H
        have c8b0 := eq_true c8
        have c8b1 : decide (x4_1.size + t179.size + 1 ≤ 9223372036854775807) = true := decide_eq_true c8
        try have c8b2 : (9223372036854775807 < x4_1.size + t179.size + 1) = False := eq_false (Nat.not_lt.2 c8)
        have H' := Aside0.mk H
        clear H
        have p176 : 0 ≤ (x5_1 : Int) := of_decide_eq_true (by first | (with_reducible assumption) | assumption)
        have q176 : x5_1 < (l0.length : Int) := of_decide_eq_true (by first | (with_reducible assumption) | assumption)
        obtain ⟨ad176, e176, hx176_0, hx176_1, hx176_2, hx176_3⟩ := at_T72 HR0.out x5_1 p176 q176
        cases e176
        replace hx176_0 := (HB.out.cell (World.block_lt_of_cell? w _ hx176_0)).trans hx176_0
        replace hx176_1 := (HB.out.cell (World.block_lt_of_cell? w _ hx176_1)).trans hx176_1
        replace hx176_2 := (HB.out.cell (World.block_lt_of_cell? w _ hx176_2)).trans hx176_2
        replace hx176_3 := (HB.out.cell (World.block_lt_of_cell? w _ hx176_3)).trans hx176_3
        replace p176 := eq_true p176
        replace q176 := eq_true q176
        go_wp2_with (first | ((with_reducible refine gate_callee (f := 45) rfl ?_); refine goesL_ (some 17) rfl rfl Tryd.func45 (by kernel_rfl) rfl #[.agg #[.int .i64 ((rd_T72 l0 x5_1).f0), .int .i64 ((rd_T72 l0 x5_1).f1), .int .i64 ((rd_T72 l0 x5_1).f2), .int .i64 ((rd_T72 l0 x5_1).f3)]] rfl (by (try simp only [List.map_toArray, List.map_cons, List.map_nil]); first | done | rfl | (simp only [List.length_drop, List.length_take]; rfl)) ?_; (with_reducible refine (logjamref41_Check.calls k1 ((rd_T72 l0 x5_1).f0) ((rd_T72 l0 x5_1).f1) ((rd_T72 l0 x5_1).f2) ((rd_T72 l0 x5_1).f3) t177 _ A4.out).mono ?_); rintro e w9 ⟨rfl, hb⟩; refine ⟨_, rfl, ?_⟩; have n0_ := Aside0.mk (below_step (by repeat (first | (with_reducible first | exact HB.out | apply below_alloc | apply pw_below_drewN | apply below_drew1) | exact HB.out)) hb); clear HB; have HB := n0_; clear n0_; (try clear hb); (try clear hb2); (try clear hk); (try clear hi); have p178 : 0 ≤ (x5_1 : Int) := of_decide_eq_true (by first | (with_reducible assumption) | assumption); have q178 : x5_1 < (l0.length : Int) := of_decide_eq_true (by first | (with_reducible assumption) | assumption); obtain ⟨ad178, e178, hx178_0, hx178_1, hx178_2, hx178_3⟩ := at_T72 HR0.out x5_1 p178 q178; obtain rfl : ad176 = ad178 := (by injection e178); replace hx178_0 := (HB.out.cell (World.block_lt_of_cell? w _ hx178_0)).trans hx178_0; replace hx178_1 := (HB.out.cell (World.block_lt_of_cell? w _ hx178_1)).trans hx178_1; replace hx178_2 := (HB.out.cell (World.block_lt_of_cell? w _ hx178_2)).trans hx178_2; replace hx178_3 := (HB.out.cell (World.block_lt_of_cell? w _ hx178_3)).trans hx178_3; replace p178 := eq_true p178; replace q178 := eq_true q178) | ((with_reducible refine gate_callee (f := 46) rfl ?_); refine goesL_ (some 26) rfl rfl Tryd.func46 (by kernel_rfl) rfl #[.agg #[.int .i64 ((rd_T72 l0 x5_1).f0), .int .i64 ((rd_T72 l0 x5_1).f1), .int .i64 ((rd_T72 l0 x5_1).f2), .int .i64 ((rd_T72 l0 x5_1).f3)]] rfl (by (try simp only [List.map_toArray, List.map_cons, List.map_nil]); first | done | rfl | (simp only [List.length_drop, List.length_take]; rfl)) ?_; (with_reducible refine (logjamref41_Line.calls k1 ((rd_T72 l0 x5_1).f0) ((rd_T72 l0 x5_1).f1) ((rd_T72 l0 x5_1).f2) ((rd_T72 l0 x5_1).f3) t179 _ A6.out).mono ?_); rintro e w10 ⟨rfl, hb⟩; refine ⟨_, rfl, ?_⟩; have n0_ := Aside0.mk (below_step (by repeat (first | (with_reducible first | exact HB.out | apply below_alloc | apply pw_below_drewN | apply below_drew1) | exact HB.out)) hb); clear HB; have HB := n0_; clear n0_; (try clear hb); (try clear hb2); (try clear hk); (try clear hi)))
        go_roundg k1
        case measure => have := HK1.out; omega
        case rel => exact ⟨((x4_1 ++ t179) ++ (⟨#[10]⟩ : ByteArray)), (wrap64 (x5_1 + 1)), (by first | rfl | (simp; done) | (simp only [emptyNe_, emptyEq_]; done) | (simp [*]; done)), (by first | rfl | (simp; done) | (simp only [emptyNe_, emptyEq_]; done) | (simp [*]; done)), H', ⟨by have := HK1.out; omega⟩, ⟨by repeat (first | (with_reducible first | exact HB.out | apply below_alloc | apply pw_below_drewN | apply below_drew1) | exact HB.out)⟩⟩
       ·rw [if_neg c8] at H
        exact absurd H (by simp)
      ·rw [if_neg c7] at H
       exact absurd H (by simp)
     ·rw [if_neg c5] at H
      have c5b0 : (t177 == 0) = false := beq_eq_false_iff_ne.mpr c5
      have c5b1 : (t177 != 0) = true := bne_iff_ne.mpr c5
      simp only [Option.some.injEq, Prod.mk.injEq] at H
      obtain ⟨rfl, rfl⟩ := H
      have p176 : 0 ≤ (x5_1 : Int) := of_decide_eq_true (by first | (with_reducible assumption) | assumption)
      have q176 : x5_1 < (l0.length : Int) := of_decide_eq_true (by first | (with_reducible assumption) | assumption)
      obtain ⟨ad176, e176, hx176_0, hx176_1, hx176_2, hx176_3⟩ := at_T72 HR0.out x5_1 p176 q176
      cases e176
      replace hx176_0 := (HB.out.cell (World.block_lt_of_cell? w _ hx176_0)).trans hx176_0
      replace hx176_1 := (HB.out.cell (World.block_lt_of_cell? w _ hx176_1)).trans hx176_1
      replace hx176_2 := (HB.out.cell (World.block_lt_of_cell? w _ hx176_2)).trans hx176_2
      replace hx176_3 := (HB.out.cell (World.block_lt_of_cell? w _ hx176_3)).trans hx176_3
      replace p176 := eq_true p176
      replace q176 := eq_true q176
      go_wp2_with (first | ((with_reducible refine gate_callee (f := 45) rfl ?_); refine goesL_ (some 17) rfl rfl Tryd.func45 (by kernel_rfl) rfl #[.agg #[.int .i64 ((rd_T72 l0 x5_1).f0), .int .i64 ((rd_T72 l0 x5_1).f1), .int .i64 ((rd_T72 l0 x5_1).f2), .int .i64 ((rd_T72 l0 x5_1).f3)]] rfl (by (try simp only [List.map_toArray, List.map_cons, List.map_nil]); first | done | rfl | (simp only [List.length_drop, List.length_take]; rfl)) ?_; (with_reducible refine (logjamref41_Check.calls k1 ((rd_T72 l0 x5_1).f0) ((rd_T72 l0 x5_1).f1) ((rd_T72 l0 x5_1).f2) ((rd_T72 l0 x5_1).f3) t177 _ A4.out).mono ?_); rintro e w11 ⟨rfl, hb⟩; refine ⟨_, rfl, ?_⟩; have n0_ := Aside0.mk (below_step (by repeat (first | (with_reducible first | exact HB.out | apply below_alloc | apply pw_below_drewN | apply below_drew1) | exact HB.out)) hb); clear HB; have HB := n0_; clear n0_; (try clear hb); (try clear hb2); (try clear hk); (try clear hi)))
      go_ret2
      exact ⟨by first | rfl | (simp [errW_none, errW_some] <;> rfl) | (simp [*, errW_none, errW_some] <;> rfl), by repeat (first | (with_reducible first | exact HB.out | apply below_alloc | apply pw_below_drewN | apply below_drew1) | exact HB.out)⟩
    ·rw [if_neg c3] at H
     exact absurd H (by simp)
   ·rw [if_neg c2] at H
    have c2b0 : decide (x5_1 < (l0.length : Int)) = false := decide_eq_false c2
    clear c2
    simp only [Option.some.injEq, Prod.mk.injEq] at H
    obtain ⟨rfl, rfl⟩ := H
    go_wp2
    go_ret2
    exact ⟨by first | rfl | (simp [errW_none, errW_some] <;> rfl) | (simp [*, errW_none, errW_some] <;> rfl), by repeat (first | (with_reducible first | exact HB.out | apply below_alloc | apply pw_below_drewN | apply below_drew1) | exact HB.out)⟩
def op_Of.l0 : Nat → ByteArray → List ByteArray → Int → Int → Option (Int × Bool)
 | 0, _, _, _, _ => none
 | k + 1, x0, x6, x7, x8 => if x8 < x7 then (if 0 ≤ x8 then (if x8 < (x6.length : Int) then (if (rdOf ByteArray.empty x6 x8).toList = x0.toList then (some (x8, true)) else (op_Of.l0 k x0 x6 x7 (wrap64 (x8 + 1)))) else (none)) else (none)) else (some (0, false))
def op_Of.f (k : Nat) (a0 : ByteArray) : Option (Int × Bool) := (o_Fields.f (⟨#[112, 117, 115, 104, 32, 108, 111, 97, 100, 32, 115, 116, 111, 114, 101, 32, 97, 100, 100, 32, 115, 117, 98, 32, 109, 117, 108, 32, 100, 105, 118, 32, 109, 111, 100, 32, 110, 101, 103, 32, 108, 116, 32, 101, 113, 32, 97, 110, 100, 32, 111, 114, 32, 120, 111, 114, 32, 115, 104, 108, 32, 115, 104, 114, 32, 100, 117, 112, 32, 100, 114, 111, 112, 32, 106, 117, 109, 112, 32, 122, 101, 114, 111, 32, 99, 97, 108, 108, 32, 114, 101, 116, 32, 115, 101, 108, 102, 32, 110, 111, 119, 32, 111, 117, 116, 32, 121, 105, 101, 108, 100, 32, 119, 97, 105, 116, 32, 119, 97, 105, 116, 102, 111, 114, 32, 115, 108, 101, 101, 112, 32, 117, 110, 108, 111, 99, 107, 32, 112, 111, 115, 116, 32, 103, 105, 118, 101, 32, 99, 119, 97, 105, 116, 32, 99, 119, 97, 105, 116, 102, 111, 114, 32, 115, 105, 103, 110, 97, 108, 32, 98, 114, 111, 97, 100, 99, 97, 115, 116, 32, 101, 110, 114, 111, 108, 32, 108, 101, 97, 118, 101, 32, 97, 114, 114, 105, 118, 101, 32, 97, 114, 114, 105, 118, 101, 102, 111, 114, 32, 115, 112, 97, 119, 110, 32, 106, 111, 105, 110, 32, 106, 111, 105, 110, 102, 111, 114, 32, 103, 114, 97, 110, 116, 32, 119, 97, 105, 118, 101, 32, 114, 101, 97, 100, 32, 119, 114, 105, 116, 101, 32, 98, 101, 103, 105, 110, 32, 99, 111, 109, 109, 105, 116, 32, 99, 108, 97, 105, 109, 32, 100, 101, 97, 100, 32, 109, 101, 110, 100]⟩ : ByteArray)).bind fun t180 => (op_Of.l0 k a0 t180 (t180.length : Int) 0)
set_option maxHeartbeats 8000000 in
set_option maxRecDepth 100000 in
theorem op_Of.calls (k : Nat) (a0 : ByteArray) (r1 : Int) (r2 : Bool) (w : World) (h : op_Of.f k a0 = some (r1, r2)) (hG : Gl w) :
  Calls Tryd.prog 134 #[.string a0] w fun e w' => e = .returned (.tuple #[.int .i64 r1, .bool r2]) ∧ Below w.heap.size w w' := by
 have HG := Aside0.mk hG
 clear hG
 have HB := Aside0.mk (Below.refl w.heap.size w)
 have H : ((o_Fields.f (⟨#[112, 117, 115, 104, 32, 108, 111, 97, 100, 32, 115, 116, 111, 114, 101, 32, 97, 100, 100, 32, 115, 117, 98, 32, 109, 117, 108, 32, 100, 105, 118, 32, 109, 111, 100, 32, 110, 101, 103, 32, 108, 116, 32, 101, 113, 32, 97, 110, 100, 32, 111, 114, 32, 120, 111, 114, 32, 115, 104, 108, 32, 115, 104, 114, 32, 100, 117, 112, 32, 100, 114, 111, 112, 32, 106, 117, 109, 112, 32, 122, 101, 114, 111, 32, 99, 97, 108, 108, 32, 114, 101, 116, 32, 115, 101, 108, 102, 32, 110, 111, 119, 32, 111, 117, 116, 32, 121, 105, 101, 108, 100, 32, 119, 97, 105, 116, 32, 119, 97, 105, 116, 102, 111, 114, 32, 115, 108, 101, 101, 112, 32, 117, 110, 108, 111, 99, 107, 32, 112, 111, 115, 116, 32, 103, 105, 118, 101, 32, 99, 119, 97, 105, 116, 32, 99, 119, 97, 105, 116, 102, 111, 114, 32, 115, 105, 103, 110, 97, 108, 32, 98, 114, 111, 97, 100, 99, 97, 115, 116, 32, 101, 110, 114, 111, 108, 32, 108, 101, 97, 118, 101, 32, 97, 114, 114, 105, 118, 101, 32, 97, 114, 114, 105, 118, 101, 102, 111, 114, 32, 115, 112, 97, 119, 110, 32, 106, 111, 105, 110, 32, 106, 111, 105, 110, 102, 111, 114, 32, 103, 114, 97, 110, 116, 32, 119, 97, 105, 118, 101, 32, 114, 101, 97, 100, 32, 119, 114, 105, 116, 101, 32, 98, 101, 103, 105, 110, 32, 99, 111, 109, 109, 105, 116, 32, 99, 108, 97, 105, 109, 32, 100, 101, 97, 100, 32, 109, 101, 110, 100]⟩ : ByteArray)).bind fun t180 => (op_Of.l0 k a0 t180 (t180.length : Int) 0)) = some (r1, r2) := h
 clear h
 replace H := Option.bind_eq_some_iff.mp H
 obtain ⟨t180, A20, H⟩ := H
 replace H : (op_Of.l0 k a0 t180 (t180.length : Int) 0) = some (r1, r2) := H
 have A2 := Aside0.mk A20
 clear A20
 have H' := Aside0.mk H
 clear H
 go_enter Tryd.func134, Tryd.ntmps134
 go_wp2_with (first | ((with_reducible refine gate_callee (f := 131) rfl ?_); refine goesL_ (some 6) rfl rfl Tryd.func131 (by kernel_rfl) rfl #[.string (⟨#[112, 117, 115, 104, 32, 108, 111, 97, 100, 32, 115, 116, 111, 114, 101, 32, 97, 100, 100, 32, 115, 117, 98, 32, 109, 117, 108, 32, 100, 105, 118, 32, 109, 111, 100, 32, 110, 101, 103, 32, 108, 116, 32, 101, 113, 32, 97, 110, 100, 32, 111, 114, 32, 120, 111, 114, 32, 115, 104, 108, 32, 115, 104, 114, 32, 100, 117, 112, 32, 100, 114, 111, 112, 32, 106, 117, 109, 112, 32, 122, 101, 114, 111, 32, 99, 97, 108, 108, 32, 114, 101, 116, 32, 115, 101, 108, 102, 32, 110, 111, 119, 32, 111, 117, 116, 32, 121, 105, 101, 108, 100, 32, 119, 97, 105, 116, 32, 119, 97, 105, 116, 102, 111, 114, 32, 115, 108, 101, 101, 112, 32, 117, 110, 108, 111, 99, 107, 32, 112, 111, 115, 116, 32, 103, 105, 118, 101, 32, 99, 119, 97, 105, 116, 32, 99, 119, 97, 105, 116, 102, 111, 114, 32, 115, 105, 103, 110, 97, 108, 32, 98, 114, 111, 97, 100, 99, 97, 115, 116, 32, 101, 110, 114, 111, 108, 32, 108, 101, 97, 118, 101, 32, 97, 114, 114, 105, 118, 101, 32, 97, 114, 114, 105, 118, 101, 102, 111, 114, 32, 115, 112, 97, 119, 110, 32, 106, 111, 105, 110, 32, 106, 111, 105, 110, 102, 111, 114, 32, 103, 114, 97, 110, 116, 32, 119, 97, 105, 118, 101, 32, 114, 101, 97, 100, 32, 119, 114, 105, 116, 101, 32, 98, 101, 103, 105, 110, 32, 99, 111, 109, 109, 105, 116, 32, 99, 108, 97, 105, 109, 32, 100, 101, 97, 100, 32, 109, 101, 110, 100]⟩ : ByteArray)] rfl (by (try simp only [List.map_toArray, List.map_cons, List.map_nil]); first | done | rfl | (simp only [List.length_drop, List.length_take]; rfl)) ?_; (with_reducible refine (o_Fields.calls (⟨#[112, 117, 115, 104, 32, 108, 111, 97, 100, 32, 115, 116, 111, 114, 101, 32, 97, 100, 100, 32, 115, 117, 98, 32, 109, 117, 108, 32, 100, 105, 118, 32, 109, 111, 100, 32, 110, 101, 103, 32, 108, 116, 32, 101, 113, 32, 97, 110, 100, 32, 111, 114, 32, 120, 111, 114, 32, 115, 104, 108, 32, 115, 104, 114, 32, 100, 117, 112, 32, 100, 114, 111, 112, 32, 106, 117, 109, 112, 32, 122, 101, 114, 111, 32, 99, 97, 108, 108, 32, 114, 101, 116, 32, 115, 101, 108, 102, 32, 110, 111, 119, 32, 111, 117, 116, 32, 121, 105, 101, 108, 100, 32, 119, 97, 105, 116, 32, 119, 97, 105, 116, 102, 111, 114, 32, 115, 108, 101, 101, 112, 32, 117, 110, 108, 111, 99, 107, 32, 112, 111, 115, 116, 32, 103, 105, 118, 101, 32, 99, 119, 97, 105, 116, 32, 99, 119, 97, 105, 116, 102, 111, 114, 32, 115, 105, 103, 110, 97, 108, 32, 98, 114, 111, 97, 100, 99, 97, 115, 116, 32, 101, 110, 114, 111, 108, 32, 108, 101, 97, 118, 101, 32, 97, 114, 114, 105, 118, 101, 32, 97, 114, 114, 105, 118, 101, 102, 111, 114, 32, 115, 112, 97, 119, 110, 32, 106, 111, 105, 110, 32, 106, 111, 105, 110, 102, 111, 114, 32, 103, 114, 97, 110, 116, 32, 119, 97, 105, 118, 101, 32, 114, 101, 97, 100, 32, 119, 114, 105, 116, 101, 32, 98, 101, 103, 105, 110, 32, 99, 111, 109, 109, 105, 116, 32, 99, 108, 97, 105, 109, 32, 100, 101, 97, 100, 32, 109, 101, 110, 100]⟩ : ByteArray) t180 _ A2.out ?side1).mono ?_); (case side1 => exact Gl.below HG.out (by repeat (first | (with_reducible first | exact HB.out | apply below_alloc | apply pw_below_drewN | apply below_drew1) | exact HB.out))); rintro e w3 ⟨v181, rfl, ho0, hb⟩; refine ⟨_, rfl, ?_⟩; have n0_ := Aside0.mk (Kd.R_lower ho0 (below_size (by repeat (first | (with_reducible first | exact HB.out | apply below_alloc | apply pw_below_drewN | apply below_drew1) | exact HB.out)))); have n1_ := Aside0.mk (below_step (by repeat (first | (with_reducible first | exact HB.out | apply below_alloc | apply pw_below_drewN | apply below_drew1) | exact HB.out)) hb); clear HB; have HO182 := n0_; have HB := n1_; clear n0_ n1_; (try clear hb); (try clear hb2); (try clear hk); (try clear hi); (try clear ho0); obtain ⟨Ao4, co4, eo4⟩ := Kd.R_slice HO182.out; subst eo4))
 go_loopg [8] k (fun kq v8 w' => ∃ (x8_1 : Int), v8 = .int .i64 x8_1 ∧ Aside0 (op_Of.l0 kq a0 t180 (t180.length : Int) x8_1 = some (r1, r2)) ∧ Aside0 (kq ≤ k) ∧ Aside0 (Kd.R Kd.string 9 w' w.heap.size (fun _ => True) (.slice Ao4 t180.length co4) t180) ∧ Aside0 (Below w.heap.size w w'))
 case atStart => exact ⟨(0), (by first | rfl | (simp; done) | (simp only [emptyNe_, emptyEq_]; done) | (simp [*]; done)), H', ⟨Nat.le_refl _⟩, ⟨by (with_reducible repeat (first | apply Kd.R_alloc | apply Kd.R_drewN | apply Kd.R_drew)); exact HO182.out⟩, ⟨by repeat (first | (with_reducible first | exact HB.out | apply below_alloc | apply pw_below_drewN | apply below_drew1) | exact HB.out)⟩⟩
 case round =>
  clear H'
  try clear c1
  try clear p2
  obtain ⟨x8_1, rfl, HA, HK1, HO_6, HB⟩ := hrel
  cases gk with
  | zero => exact absurd HA.out (by simp [op_Of.l0])
  | succ k1 =>
   have H := HA.out
   clear HA
   simp only [op_Of.l0] at H
   by_cases c5 : x8_1 < (t180.length : Int)
   ·rw [if_pos c5] at H
    have c5b0 : decide (x8_1 < (t180.length : Int)) = true := decide_eq_true c5
    clear c5
    by_cases c6 : 0 ≤ x8_1
    ·rw [if_pos c6] at H
     have c6b0 : decide (0 ≤ x8_1) = true := decide_eq_true c6
     clear c6
     by_cases c7 : x8_1 < (t180.length : Int)
     ·rw [if_pos c7] at H
      have c7b0 : decide (x8_1 < (t180.length : Int)) = true := decide_eq_true c7
      clear c7
      by_cases c8 : (rdOf ByteArray.empty t180 x8_1).toList = a0.toList
      ·rw [if_pos c8] at H
       have c8b0 : ((rdOf ByteArray.empty t180 x8_1).toList == a0.toList) = true := beq_iff_eq.mpr c8
       have c8b1 : ((rdOf ByteArray.empty t180 x8_1).toList != a0.toList) = false := bne_eq_false_iff_eq.mpr c8
       clear c8
       simp only [Option.some.injEq, Prod.mk.injEq] at H
       obtain ⟨rfl, rfl⟩ := H
       have p183 : 0 ≤ (x8_1 : Int) := of_decide_eq_true (by first | (with_reducible assumption) | assumption)
       have q183 : x8_1 < (t180.length : Int) := of_decide_eq_true (by first | (with_reducible assumption) | assumption)
       obtain ⟨ad183, e183, hx183_0⟩ := Kd.at_string (Kd.R_reads' HO_6.out).2.2 x8_1 p183 q183
       cases e183
       replace p183 := eq_true p183
       replace q183 := eq_true q183
       go_wp2
       go_ret2
       exact ⟨by first | rfl | (simp [errW_none, errW_some] <;> rfl) | (simp [*, errW_none, errW_some] <;> rfl), by repeat (first | (with_reducible first | exact HB.out | apply below_alloc | apply pw_below_drewN | apply below_drew1) | exact HB.out)⟩
      ·rw [if_neg c8] at H
       have c8b0 : ((rdOf ByteArray.empty t180 x8_1).toList == a0.toList) = false := beq_eq_false_iff_ne.mpr c8
       have c8b1 : ((rdOf ByteArray.empty t180 x8_1).toList != a0.toList) = true := bne_iff_ne.mpr c8
       have H' := Aside0.mk H
       clear H
       have p183 : 0 ≤ (x8_1 : Int) := of_decide_eq_true (by first | (with_reducible assumption) | assumption)
       have q183 : x8_1 < (t180.length : Int) := of_decide_eq_true (by first | (with_reducible assumption) | assumption)
       obtain ⟨ad183, e183, hx183_0⟩ := Kd.at_string (Kd.R_reads' HO_6.out).2.2 x8_1 p183 q183
       cases e183
       replace p183 := eq_true p183
       replace q183 := eq_true q183
       go_wp2
       go_roundg k1
       case measure => have := HK1.out; omega
       case rel => exact ⟨(wrap64 (x8_1 + 1)), (by first | rfl | (simp; done) | (simp only [emptyNe_, emptyEq_]; done) | (simp [*]; done)), H', ⟨by have := HK1.out; omega⟩, ⟨by (with_reducible repeat (first | apply Kd.R_alloc | apply Kd.R_drewN | apply Kd.R_drew)); exact HO_6.out⟩, ⟨by repeat (first | (with_reducible first | exact HB.out | apply below_alloc | apply pw_below_drewN | apply below_drew1) | exact HB.out)⟩⟩
     ·rw [if_neg c7] at H
      exact absurd H (by simp)
    ·rw [if_neg c6] at H
     exact absurd H (by simp)
   ·rw [if_neg c5] at H
    have c5b0 : decide (x8_1 < (t180.length : Int)) = false := decide_eq_false c5
    clear c5
    simp only [Option.some.injEq, Prod.mk.injEq] at H
    obtain ⟨rfl, rfl⟩ := H
    go_wp2
    go_ret2
    exact ⟨by first | rfl | (simp [errW_none, errW_some] <;> rfl) | (simp [*, errW_none, errW_some] <;> rfl), by repeat (first | (with_reducible first | exact HB.out | apply below_alloc | apply pw_below_drewN | apply below_drew1) | exact HB.out)⟩
def slices_Index_string_string.l0 : Nat → List ByteArray → ByteArray → Int → Int → Option (Int)
 | 0, _, _, _, _ => none
 | k + 1, x0, x1, x7, x8 => if x8 < x7 then (if 0 ≤ x8 then (if x8 < (x0.length : Int) then (if x1.toList = (rdOf ByteArray.empty x0 x8).toList then (some x8) else (slices_Index_string_string.l0 k x0 x1 x7 (wrap64 (x8 + 1)))) else (none)) else (none)) else (some (-1))
def slices_Index_string_string.f (k : Nat) (l0 : List ByteArray) (a1 : ByteArray) : Option (Int) := slices_Index_string_string.l0 k l0 a1 (l0.length : Int) 0
set_option maxHeartbeats 8000000 in
set_option maxRecDepth 100000 in
theorem slices_Index_string_string.calls (k : Nat) (A0 : Option Addr) (c0 : Nat) (l0 : List ByteArray) (a1 : ByteArray) (r : Int) (w : World) (hr0 : Kd.C Kd.string w A0 l0.length l0) (hc0 : l0.length ≤ c0) (h : slices_Index_string_string.f k l0 a1 = some r) :
  Calls Tryd.prog 135 #[.slice A0 l0.length c0, .string a1] w fun e w' => e = .returned (.int .i64 r) ∧ Drawn0 w w' := by
 have HR0 := Aside0.mk hr0
 have HC0 := Aside0.mk hc0
 clear hr0 hc0
 have H : (slices_Index_string_string.l0 k l0 a1 (l0.length : Int) 0) = some r := h
 clear h
 have H' := Aside0.mk H
 clear H
 go_enter Tryd.func135, Tryd.ntmps135
 go_wp2
 go_loopg [8] k (fun kq v8 w' => ∃ (x8_1 : Int), v8 = .int .i64 x8_1 ∧ Aside0 (slices_Index_string_string.l0 kq l0 a1 (l0.length : Int) x8_1 = some r) ∧ Aside0 (kq ≤ k) ∧ Drawn0 w w')
 case atStart => exact ⟨(0), (by first | rfl | (simp; done) | (simp only [emptyNe_, emptyEq_]; done) | (simp [*]; done)), H', ⟨Nat.le_refl _⟩, by repeat (first | exact Drawn0.refl _ | apply Drawn0.step)⟩
 case round =>
  clear H'
  try clear c1
  try clear p2
  obtain ⟨x8_1, rfl, HA, HK1, ⟨m1, rfl⟩⟩ := hrel
  cases gk with
  | zero => exact absurd HA.out (by simp [slices_Index_string_string.l0])
  | succ k1 =>
   have H := HA.out
   clear HA
   simp only [slices_Index_string_string.l0] at H
   by_cases c3 : x8_1 < (l0.length : Int)
   ·rw [if_pos c3] at H
    have c3b0 : decide (x8_1 < (l0.length : Int)) = true := decide_eq_true c3
    clear c3
    by_cases c4 : 0 ≤ x8_1
    ·rw [if_pos c4] at H
     have c4b0 : decide (0 ≤ x8_1) = true := decide_eq_true c4
     clear c4
     by_cases c5 : x8_1 < (l0.length : Int)
     ·rw [if_pos c5] at H
      have c5b0 : decide (x8_1 < (l0.length : Int)) = true := decide_eq_true c5
      clear c5
      by_cases c6 : a1.toList = (rdOf ByteArray.empty l0 x8_1).toList
      ·rw [if_pos c6] at H
       have c6b0 : (a1.toList == (rdOf ByteArray.empty l0 x8_1).toList) = true := beq_iff_eq.mpr c6
       have c6b1 : (a1.toList != (rdOf ByteArray.empty l0 x8_1).toList) = false := bne_eq_false_iff_eq.mpr c6
       clear c6
       obtain rfl := Option.some.inj H
       have p184 : 0 ≤ (x8_1 : Int) := of_decide_eq_true (by first | (with_reducible assumption) | assumption)
       have q184 : x8_1 < (l0.length : Int) := of_decide_eq_true (by first | (with_reducible assumption) | assumption)
       obtain ⟨ad184, e184, hx184_0⟩ := Kd.at_string HR0.out x8_1 p184 q184
       cases e184
       replace p184 := eq_true p184
       replace q184 := eq_true q184
       go_wp2
       go_ret
       exact ⟨by first | rfl | (simp; done) | (simp only [emptyNe_, emptyEq_]; done) | (simp [*]; done), by repeat (first | exact Drawn0.refl _ | apply Drawn0.step)⟩
      ·rw [if_neg c6] at H
       have c6b0 : (a1.toList == (rdOf ByteArray.empty l0 x8_1).toList) = false := beq_eq_false_iff_ne.mpr c6
       have c6b1 : (a1.toList != (rdOf ByteArray.empty l0 x8_1).toList) = true := bne_iff_ne.mpr c6
       have H' := Aside0.mk H
       clear H
       have p184 : 0 ≤ (x8_1 : Int) := of_decide_eq_true (by first | (with_reducible assumption) | assumption)
       have q184 : x8_1 < (l0.length : Int) := of_decide_eq_true (by first | (with_reducible assumption) | assumption)
       obtain ⟨ad184, e184, hx184_0⟩ := Kd.at_string HR0.out x8_1 p184 q184
       cases e184
       replace p184 := eq_true p184
       replace q184 := eq_true q184
       go_wp2
       go_roundg k1
       case measure => have := HK1.out; omega
       case rel => exact ⟨(wrap64 (x8_1 + 1)), (by first | rfl | (simp; done) | (simp only [emptyNe_, emptyEq_]; done) | (simp [*]; done)), H', ⟨by have := HK1.out; omega⟩, by repeat (first | exact Drawn0.refl _ | apply Drawn0.step)⟩
     ·rw [if_neg c5] at H
      exact absurd H (by simp)
    ·rw [if_neg c4] at H
     exact absurd H (by simp)
   ·rw [if_neg c3] at H
    have c3b0 : decide (x8_1 < (l0.length : Int)) = false := decide_eq_false c3
    clear c3
    obtain rfl := Option.some.inj H
    go_wp2
    go_ret
    exact ⟨by first | rfl | (simp; done) | (simp only [emptyNe_, emptyEq_]; done) | (simp [*]; done), by repeat (first | exact Drawn0.refl _ | apply Drawn0.step)⟩
def trace_guess.f (k : Nat) (l0 : List ByteArray) : Option (Int × Int × Int × Int) := if (l0.length : Int) < 2 then (some (0, 0, 0, 0)) else (if 0 < (l0.length : Int) then (if (rdOf ByteArray.empty l0 0).toList = ([116, 105, 99, 107] : List UInt8) then (if 1 < (l0.length : Int) then ((o_number.f (rdOf ByteArray.empty l0 1)).bind fun t188 => (some (6, (-1), t188, 0))) else (none)) else ((o_number.f (rdOf ByteArray.empty l0 0)).bind fun t190 => (if 0 ≤ (wrap64 ((l0.length : Int) - 1)) then (if (wrap64 ((l0.length : Int) - 1)) < (l0.length : Int) then ((o_number.f (rdOf ByteArray.empty l0 (wrap64 ((l0.length : Int) - 1)))).bind fun t193 => (if 1 < (l0.length : Int) then (if (rdOf ByteArray.empty l0 1).toList = ([111, 112] : List UInt8) then (if (l0.length : Int) = 0 then (none) else (if 0 ≤ ((2 : Int) % (l0.length : Int)) then (if ((2 : Int) % (l0.length : Int)) < (l0.length : Int) then ((op_Of.f k (rdOf ByteArray.empty l0 ((2 : Int) % (l0.length : Int)))).bind fun bt196 => (some (1, t190, bt196.1, t193))) else (none)) else (none))) else (if (rdOf ByteArray.empty l0 1).toList = ([111, 117, 116] : List UInt8) then (some (2, t190, t193, 0)) else (if (rdOf ByteArray.empty l0 1).toList = ([98, 108, 111, 99, 107] : List UInt8) then (if (l0.length : Int) = 0 then (none) else (if 0 ≤ ((2 : Int) % (l0.length : Int)) then (if ((2 : Int) % (l0.length : Int)) < (l0.length : Int) then ((op_Of.f k (rdOf ByteArray.empty l0 ((2 : Int) % (l0.length : Int)))).bind fun bt199 => (some (3, t190, bt199.1, 0))) else (none)) else (none))) else (if (rdOf ByteArray.empty l0 1).toList = ([119, 97, 107, 101] : List UInt8) then (some (4, t190, t193, 0)) else (if (rdOf ByteArray.empty l0 1).toList = ([101, 110, 100] : List UInt8) then ((trace_ends.f).bind fun t201 => (if (l0.length : Int) = 0 then (none) else (if 0 ≤ ((2 : Int) % (l0.length : Int)) then (if ((2 : Int) % (l0.length : Int)) < (l0.length : Int) then ((slices_Index_string_string.f k t201 (rdOf ByteArray.empty l0 ((2 : Int) % (l0.length : Int)))).bind fun t205 => (some (5, t190, t205, t193))) else (none)) else (none)))) else (if (rdOf ByteArray.empty l0 1).toList = ([97, 98, 111, 114, 116] : List UInt8) then (some (7, t190, t193, 0)) else (some (0, t190, 0, 0)))))))) else (none))) else (none)) else (none)))) else (none))
def trace_guess.T19 : Bool × List (List Nat × List Nat) := (true, [([], []), ([], []), ([], []), ([2], [2]), ([3], [3]), ([1, 4], [1, 4]), ([5], [5]), ([0, 6, 0], [0, 6]), ([], []), ([], []), ([9, 7], [9]), ([0, 1, 2, 3, 4, 5, 6, 7, 9, 10], []), ([11, 7, 10, 0, 1, 2, 3, 4, 5, 6, 7, 9, 10], [7, 11]), ([0, 1, 2, 3, 4, 5, 6, 7, 8, 9, 10, 11, 12], []), ([13, 8, 12, 0, 1, 2, 3, 4, 5, 6, 7, 8, 9, 10, 11, 12], [8, 13])])
def trace_guess.B19 : List Nat := [0, 0, 0, 4, 12, 30, 62, 127, 0, 0, 767, 1791, 3839, 8191, 16383]
theorem trace_guess.tab19 : rtab .any (opsOf Tryd.f97 19) = trace_guess.T19 := by kernel_rfl
theorem trace_guess.bits19 : waitsOk trace_guess.T19.2 trace_guess.B19 = true := by kernel_rfl
set_option maxHeartbeats 8000000 in
set_option maxRecDepth 100000 in
theorem trace_guess.calls (k : Nat) (A0 : Option Addr) (c0 : Nat) (l0 : List ByteArray) (r1 : Int) (r2 : Int) (r3 : Int) (r4 : Int) (w : World) (hr0 : Kd.C Kd.string w A0 l0.length l0) (hc0 : l0.length ≤ c0) (h : trace_guess.f k l0 = some (r1, r2, r3, r4)) (hG : Gl w) :
  Calls Tryd.prog 97 #[.slice A0 l0.length c0] w fun e w' => e = .returned (.agg #[.int .i64 r1, .int .i64 r2, .int .i64 r3, .int .i64 r4]) ∧ Below w.heap.size w w' := by
 have HG := Aside0.mk hG
 clear hG
 have hu72 := Tryd.underlying72
 have HR0 := Aside0.mk hr0
 have HC0 := Aside0.mk hc0
 clear hr0 hc0
 have HB := Aside0.mk (Below.refl w.heap.size w)
 have H : (if (l0.length : Int) < 2 then (some (0, 0, 0, 0)) else (if 0 < (l0.length : Int) then (if (rdOf ByteArray.empty l0 0).toList = ([116, 105, 99, 107] : List UInt8) then (if 1 < (l0.length : Int) then ((o_number.f (rdOf ByteArray.empty l0 1)).bind fun t188 => (some (6, (-1), t188, 0))) else (none)) else ((o_number.f (rdOf ByteArray.empty l0 0)).bind fun t190 => (if 0 ≤ (wrap64 ((l0.length : Int) - 1)) then (if (wrap64 ((l0.length : Int) - 1)) < (l0.length : Int) then ((o_number.f (rdOf ByteArray.empty l0 (wrap64 ((l0.length : Int) - 1)))).bind fun t193 => (if 1 < (l0.length : Int) then (if (rdOf ByteArray.empty l0 1).toList = ([111, 112] : List UInt8) then (if (l0.length : Int) = 0 then (none) else (if 0 ≤ ((2 : Int) % (l0.length : Int)) then (if ((2 : Int) % (l0.length : Int)) < (l0.length : Int) then ((op_Of.f k (rdOf ByteArray.empty l0 ((2 : Int) % (l0.length : Int)))).bind fun bt196 => (some (1, t190, bt196.1, t193))) else (none)) else (none))) else (if (rdOf ByteArray.empty l0 1).toList = ([111, 117, 116] : List UInt8) then (some (2, t190, t193, 0)) else (if (rdOf ByteArray.empty l0 1).toList = ([98, 108, 111, 99, 107] : List UInt8) then (if (l0.length : Int) = 0 then (none) else (if 0 ≤ ((2 : Int) % (l0.length : Int)) then (if ((2 : Int) % (l0.length : Int)) < (l0.length : Int) then ((op_Of.f k (rdOf ByteArray.empty l0 ((2 : Int) % (l0.length : Int)))).bind fun bt199 => (some (3, t190, bt199.1, 0))) else (none)) else (none))) else (if (rdOf ByteArray.empty l0 1).toList = ([119, 97, 107, 101] : List UInt8) then (some (4, t190, t193, 0)) else (if (rdOf ByteArray.empty l0 1).toList = ([101, 110, 100] : List UInt8) then ((trace_ends.f).bind fun t201 => (if (l0.length : Int) = 0 then (none) else (if 0 ≤ ((2 : Int) % (l0.length : Int)) then (if ((2 : Int) % (l0.length : Int)) < (l0.length : Int) then ((slices_Index_string_string.f k t201 (rdOf ByteArray.empty l0 ((2 : Int) % (l0.length : Int)))).bind fun t205 => (some (5, t190, t205, t193))) else (none)) else (none)))) else (if (rdOf ByteArray.empty l0 1).toList = ([97, 98, 111, 114, 116] : List UInt8) then (some (7, t190, t193, 0)) else (some (0, t190, 0, 0)))))))) else (none))) else (none)) else (none)))) else (none))) = some (r1, r2, r3, r4) := h
 clear h
 by_cases c2 : (l0.length : Int) < 2
 ·rw [if_pos c2] at H
  have c2b0 : decide ((l0.length : Int) < 2) = true := decide_eq_true c2
  have c2b1 : decide (l0.length < 2) = true := decide_eq_true (by omega)
  clear c2
  simp only [Option.some.injEq, Prod.mk.injEq] at H
  obtain ⟨rfl, rfl, rfl, rfl⟩ := H
  go_enter Tryd.func97, Tryd.ntmps97
  go_wp2_with (first | ((with_reducible refine gate_dst (N := 2) rfl ?_); refine box_event ?hg (N := 2) ?hd (cs := #[.int .i64 0, .int .i64 0, .int .i64 0, .int .i64 0]) (t := 72) ?hr ?_; (case hd => rfl); (case hg => rfl); (case hr => first | (go_simp; done) | (go_simp; rfl)); intro gb185 hg w3 hbox hb; have n0_ := Aside0.mk (below_step (by repeat (first | (with_reducible first | exact HB.out | apply below_alloc | apply pw_below_drewN | apply below_drew1) | exact HB.out)) hb); have n1_ := Aside0.mk (hbox); have n2_ := Aside0.mk ((by rw [hg]; exact (below_size (by repeat (first | (with_reducible first | exact HB.out | apply below_alloc | apply pw_below_drewN | apply below_drew1) | exact HB.out))) : w.heap.size ≤ gb185)); have n3_ := Aside0.mk ((by rw [hg]; exact (below_size (by repeat (first | (with_reducible first | exact HB.out | apply below_alloc | apply pw_below_drewN | apply below_drew1) | exact HB.out))) : w.heap.size ≤ gb185)); clear HB; have HB := n0_; have BK185 := n1_; have GW185 := n2_; have GE185 := n3_; clear n0_ n1_ n2_ n3_; clear hb hbox hg; have hcz4_0 : w3.cell? ⟨gb185, 0, none⟩ = some (.int .i64 0) := (blk_cell BK185.out 0).trans rfl; have hcz4_1 : w3.cell? ⟨gb185, 1, none⟩ = some (.int .i64 0) := (blk_cell BK185.out 1).trans rfl; have hcz4_2 : w3.cell? ⟨gb185, 2, none⟩ = some (.int .i64 0) := (blk_cell BK185.out 2).trans rfl; have hcz4_3 : w3.cell? ⟨gb185, 3, none⟩ = some (.int .i64 0) := (blk_cell BK185.out 3).trans rfl; have hfz4_0 := blk_frozen BK185.out 0; have hfz4_1 := blk_frozen BK185.out 1; have hfz4_2 := blk_frozen BK185.out 2; have hfz4_3 := blk_frozen BK185.out 3))
  refine bodyPost_ret (results_cell_row rfl _ _ gb185 72 #[.int .i64 0, .int .i64 0, .int .i64 0, .int .i64 0] (0, 0) _ rfl (by (with_reducible repeat (first | refine blk_drewN ?_ _ | refine blk_drew ?_ | refine blk_alloc ?_ _)); refine blk_put (cs := #[.int .i64 0, .int .i64 0, .int .i64 0, .int .i64 0]) ?_ 3 _ rfl; (with_reducible repeat (first | refine blk_drewN ?_ _ | refine blk_drew ?_ | refine blk_alloc ?_ _)); refine blk_put (cs := #[.int .i64 0, .int .i64 0, .int .i64 0, .int .i64 0]) ?_ 2 _ rfl; (with_reducible repeat (first | refine blk_drewN ?_ _ | refine blk_drew ?_ | refine blk_alloc ?_ _)); refine blk_put (cs := #[.int .i64 0, .int .i64 0, .int .i64 0, .int .i64 0]) ?_ 1 _ rfl; (with_reducible repeat (first | refine blk_drewN ?_ _ | refine blk_drew ?_ | refine blk_alloc ?_ _)); refine blk_put (cs := #[.int .i64 0, .int .i64 0, .int .i64 0, .int .i64 0]) ?_ 0 _ rfl; (with_reducible repeat (first | refine blk_drewN ?_ _ | refine blk_drew ?_ | refine blk_alloc ?_ _)); exact BK185.out) Tryd.underlying72 rfl (by kernel_rfl)) rfl ?_
  exact ⟨by first | rfl | (simp [errW_none, errW_some] <;> rfl) | (simp [*, errW_none, errW_some] <;> rfl), by repeat (first | (with_reducible first | exact HB.out | apply below_alloc | apply pw_below_drewN | apply below_drew1 | refine below_set ?_ GE185.out) | exact HB.out)⟩
 ·rw [if_neg c2] at H
  have c2b0 : decide ((l0.length : Int) < 2) = false := decide_eq_false c2
  have c2b1 : decide (l0.length < 2) = false := decide_eq_false (by omega)
  clear c2
  by_cases c5 : 0 < (l0.length : Int)
  ·rw [if_pos c5] at H
   have c5b0 : decide (0 < (l0.length : Int)) = true := decide_eq_true c5
   have c5b1 : decide (0 < l0.length) = true := decide_eq_true (by omega)
   clear c5
   by_cases c6 : (rdOf ByteArray.empty l0 0).toList = ([116, 105, 99, 107] : List UInt8)
   ·rw [if_pos c6] at H
    have c6b0 : ((rdOf ByteArray.empty l0 0).toList == ([116, 105, 99, 107] : List UInt8)) = true := beq_iff_eq.mpr c6
    have c6b1 : ((rdOf ByteArray.empty l0 0).toList != ([116, 105, 99, 107] : List UInt8)) = false := bne_eq_false_iff_eq.mpr c6
    clear c6
    by_cases c7 : 1 < (l0.length : Int)
    ·rw [if_pos c7] at H
     have c7b0 : decide (1 < (l0.length : Int)) = true := decide_eq_true c7
     have c7b1 : decide (1 < l0.length) = true := decide_eq_true (by omega)
     clear c7
     replace H := Option.bind_eq_some_iff.mp H
     obtain ⟨t188, A80, H⟩ := H
     replace H : (some (6, (-1), t188, 0)) = some (r1, r2, r3, r4) := H
     have A8 := Aside0.mk A80
     clear A80
     simp only [Option.some.injEq, Prod.mk.injEq] at H
     obtain ⟨rfl, rfl, rfl, rfl⟩ := H
     go_enter Tryd.func97, Tryd.ntmps97
     go_wp2_with (first | ((with_reducible refine gate_dst (N := 2) rfl ?_); refine box_event ?hg (N := 2) ?hd (cs := #[.int .i64 0, .int .i64 0, .int .i64 0, .int .i64 0]) (t := 72) ?hr ?_; (case hd => rfl); (case hg => rfl); (case hr => first | (go_simp; done) | (go_simp; rfl)); intro gb185 hg w9 hbox hb; have n0_ := Aside0.mk (below_step (by repeat (first | (with_reducible first | exact HB.out | apply below_alloc | apply pw_below_drewN | apply below_drew1) | exact HB.out)) hb); have n1_ := Aside0.mk (hbox); have n2_ := Aside0.mk ((by rw [hg]; exact (below_size (by repeat (first | (with_reducible first | exact HB.out | apply below_alloc | apply pw_below_drewN | apply below_drew1) | exact HB.out))) : w.heap.size ≤ gb185)); have n3_ := Aside0.mk ((by rw [hg]; exact (below_size (by repeat (first | (with_reducible first | exact HB.out | apply below_alloc | apply pw_below_drewN | apply below_drew1) | exact HB.out))) : w.heap.size ≤ gb185)); clear HB; have HB := n0_; have BK185 := n1_; have GW185 := n2_; have GE185 := n3_; clear n0_ n1_ n2_ n3_; clear hb hbox hg; have p186 : 0 ≤ (0 : Int) := (by omega); have q186 : 0 < (l0.length : Int) := of_decide_eq_true (by first | (with_reducible assumption) | assumption); obtain ⟨ad186, e186, hx186_0⟩ := Kd.at_string HR0.out 0 p186 q186; cases e186; have qi186 : (0 < l0.length) = True := eq_true (by omega); (try rw [show ((0 : Int)).toNat = 0 from rfl] at hx186_0); (try rw [Addr.add_zero'] at hx186_0); replace hx186_0 := (HB.out.cell (World.block_lt_of_cell? w _ hx186_0)).trans hx186_0; replace p186 := eq_true p186; replace q186 := eq_true q186; have p187 : 0 ≤ (1 : Int) := (by omega); have q187 : 1 < (l0.length : Int) := of_decide_eq_true (by first | (with_reducible assumption) | assumption); obtain ⟨ad187, e187, hx187_0⟩ := Kd.at_string HR0.out 1 p187 q187; obtain rfl : ad186 = ad187 := (by injection e187); (try simp only [show (1 : Int).toNat = 1 from rfl, Nat.reduceMul, Nat.reduceEqDiff, Go.Addr.add, ↓reduceIte] at hx187_0); have qi187 : (1 < l0.length) = True := eq_true (by omega); (try rw [show ((1 : Int)).toNat = 1 from rfl] at hx187_0); replace hx187_0 := (HB.out.cell (World.block_lt_of_cell? w _ hx187_0)).trans hx187_0; replace p187 := eq_true p187; replace q187 := eq_true q187) | ((with_reducible refine gate_callee (f := 133) rfl ?_); refine goesL_ (some 16) rfl rfl Tryd.func133 (by kernel_rfl) rfl #[.string (rdOf ByteArray.empty l0 1)] rfl (by (try simp only [List.map_toArray, List.map_cons, List.map_nil]); first | done | rfl | (simp only [List.length_drop, List.length_take]; rfl)) ?_; (with_reducible refine (o_number.calls (rdOf ByteArray.empty l0 1) t188 _ A8.out ?side1).mono ?_); (case side1 => exact Gl.below HG.out (by repeat (first | (with_reducible first | exact HB.out | apply below_alloc | apply pw_below_drewN | apply below_drew1 | refine below_set ?_ GE185.out) | exact HB.out))); rintro e w10 ⟨rfl, hb⟩; refine ⟨_, rfl, ?_⟩; have n0_ := Aside0.mk (blk_below (g := gb185) (o := .cells #[.int .i64 0, .int .i64 0, .int .i64 0, .int .i64 0] 72 (0, 0)) (by (with_reducible repeat (first | refine blk_drewN ?_ _ | refine blk_drew ?_ | refine blk_alloc ?_ _)); exact BK185.out) hb); have n1_ := Aside0.mk (below_step (by repeat (first | (with_reducible first | exact HB.out | apply below_alloc | apply pw_below_drewN | apply below_drew1 | refine below_set ?_ GE185.out) | exact HB.out)) hb); clear BK185; clear HB; have BK185 := n0_; have HB := n1_; clear n0_ n1_; (try clear hb); (try clear hb2); (try clear hk); (try clear hi); have hcz11_0 : w10.cell? ⟨gb185, 0, none⟩ = some (.int .i64 0) := (blk_cell BK185.out 0).trans rfl; have hcz11_1 : w10.cell? ⟨gb185, 1, none⟩ = some (.int .i64 0) := (blk_cell BK185.out 1).trans rfl; have hcz11_2 : w10.cell? ⟨gb185, 2, none⟩ = some (.int .i64 0) := (blk_cell BK185.out 2).trans rfl; have hcz11_3 : w10.cell? ⟨gb185, 3, none⟩ = some (.int .i64 0) := (blk_cell BK185.out 3).trans rfl; have hfz11_0 := blk_frozen BK185.out 0; have hfz11_1 := blk_frozen BK185.out 1; have hfz11_2 := blk_frozen BK185.out 2; have hfz11_3 := blk_frozen BK185.out 3))
     refine bodyPost_ret (results_cell_row rfl _ _ gb185 72 #[.int .i64 6, .int .i64 (-1), .int .i64 t188, .int .i64 0] (0, 0) _ rfl (by (with_reducible repeat (first | refine blk_drewN ?_ _ | refine blk_drew ?_ | refine blk_alloc ?_ _)); refine blk_put (cs := #[.int .i64 6, .int .i64 (-1), .int .i64 t188, .int .i64 0]) ?_ 3 _ rfl; (with_reducible repeat (first | refine blk_drewN ?_ _ | refine blk_drew ?_ | refine blk_alloc ?_ _)); refine blk_put (cs := #[.int .i64 6, .int .i64 (-1), .int .i64 0, .int .i64 0]) ?_ 2 _ rfl; (with_reducible repeat (first | refine blk_drewN ?_ _ | refine blk_drew ?_ | refine blk_alloc ?_ _)); refine blk_put (cs := #[.int .i64 6, .int .i64 0, .int .i64 0, .int .i64 0]) ?_ 1 _ rfl; (with_reducible repeat (first | refine blk_drewN ?_ _ | refine blk_drew ?_ | refine blk_alloc ?_ _)); refine blk_put (cs := #[.int .i64 0, .int .i64 0, .int .i64 0, .int .i64 0]) ?_ 0 _ rfl; (with_reducible repeat (first | refine blk_drewN ?_ _ | refine blk_drew ?_ | refine blk_alloc ?_ _)); exact BK185.out) Tryd.underlying72 rfl (by kernel_rfl)) rfl ?_
     exact ⟨by first | rfl | (simp [errW_none, errW_some] <;> rfl) | (simp [*, errW_none, errW_some] <;> rfl), by repeat (first | (with_reducible first | exact HB.out | apply below_alloc | apply pw_below_drewN | apply below_drew1 | refine below_set ?_ GE185.out) | exact HB.out)⟩
    ·rw [if_neg c7] at H
     exact absurd H (by simp)
   ·rw [if_neg c6] at H
    have c6b0 : ((rdOf ByteArray.empty l0 0).toList == ([116, 105, 99, 107] : List UInt8)) = false := beq_eq_false_iff_ne.mpr c6
    have c6b1 : ((rdOf ByteArray.empty l0 0).toList != ([116, 105, 99, 107] : List UInt8)) = true := bne_iff_ne.mpr c6
    replace H := Option.bind_eq_some_iff.mp H
    obtain ⟨t190, A120, H⟩ := H
    replace H : (if 0 ≤ (wrap64 ((l0.length : Int) - 1)) then (if (wrap64 ((l0.length : Int) - 1)) < (l0.length : Int) then ((o_number.f (rdOf ByteArray.empty l0 (wrap64 ((l0.length : Int) - 1)))).bind fun t193 => (if 1 < (l0.length : Int) then (if (rdOf ByteArray.empty l0 1).toList = ([111, 112] : List UInt8) then (if (l0.length : Int) = 0 then (none) else (if 0 ≤ ((2 : Int) % (l0.length : Int)) then (if ((2 : Int) % (l0.length : Int)) < (l0.length : Int) then ((op_Of.f k (rdOf ByteArray.empty l0 ((2 : Int) % (l0.length : Int)))).bind fun bt196 => (some (1, t190, bt196.1, t193))) else (none)) else (none))) else (if (rdOf ByteArray.empty l0 1).toList = ([111, 117, 116] : List UInt8) then (some (2, t190, t193, 0)) else (if (rdOf ByteArray.empty l0 1).toList = ([98, 108, 111, 99, 107] : List UInt8) then (if (l0.length : Int) = 0 then (none) else (if 0 ≤ ((2 : Int) % (l0.length : Int)) then (if ((2 : Int) % (l0.length : Int)) < (l0.length : Int) then ((op_Of.f k (rdOf ByteArray.empty l0 ((2 : Int) % (l0.length : Int)))).bind fun bt199 => (some (3, t190, bt199.1, 0))) else (none)) else (none))) else (if (rdOf ByteArray.empty l0 1).toList = ([119, 97, 107, 101] : List UInt8) then (some (4, t190, t193, 0)) else (if (rdOf ByteArray.empty l0 1).toList = ([101, 110, 100] : List UInt8) then ((trace_ends.f).bind fun t201 => (if (l0.length : Int) = 0 then (none) else (if 0 ≤ ((2 : Int) % (l0.length : Int)) then (if ((2 : Int) % (l0.length : Int)) < (l0.length : Int) then ((slices_Index_string_string.f k t201 (rdOf ByteArray.empty l0 ((2 : Int) % (l0.length : Int)))).bind fun t205 => (some (5, t190, t205, t193))) else (none)) else (none)))) else (if (rdOf ByteArray.empty l0 1).toList = ([97, 98, 111, 114, 116] : List UInt8) then (some (7, t190, t193, 0)) else (some (0, t190, 0, 0)))))))) else (none))) else (none)) else (none)) = some (r1, r2, r3, r4) := H
    have A12 := Aside0.mk A120
    clear A120
    obtain ⟨ji13, hji13⟩ : ∃ j_ : Int, (wrap64 ((l0.length : Int) - 1)) = j_ := ⟨_, rfl⟩
    replace H : (if 0 ≤ (ji13) then (if (ji13) < (l0.length : Int) then ((o_number.f (rdOf ByteArray.empty l0 (ji13))).bind fun t193 => (if 1 < (l0.length : Int) then (if (rdOf ByteArray.empty l0 1).toList = ([111, 112] : List UInt8) then (if (l0.length : Int) = 0 then (none) else (if 0 ≤ ((2 : Int) % (l0.length : Int)) then (if ((2 : Int) % (l0.length : Int)) < (l0.length : Int) then ((op_Of.f k (rdOf ByteArray.empty l0 ((2 : Int) % (l0.length : Int)))).bind fun bt196 => (some (1, t190, bt196.1, t193))) else (none)) else (none))) else (if (rdOf ByteArray.empty l0 1).toList = ([111, 117, 116] : List UInt8) then (some (2, t190, t193, 0)) else (if (rdOf ByteArray.empty l0 1).toList = ([98, 108, 111, 99, 107] : List UInt8) then (if (l0.length : Int) = 0 then (none) else (if 0 ≤ ((2 : Int) % (l0.length : Int)) then (if ((2 : Int) % (l0.length : Int)) < (l0.length : Int) then ((op_Of.f k (rdOf ByteArray.empty l0 ((2 : Int) % (l0.length : Int)))).bind fun bt199 => (some (3, t190, bt199.1, 0))) else (none)) else (none))) else (if (rdOf ByteArray.empty l0 1).toList = ([119, 97, 107, 101] : List UInt8) then (some (4, t190, t193, 0)) else (if (rdOf ByteArray.empty l0 1).toList = ([101, 110, 100] : List UInt8) then ((trace_ends.f).bind fun t201 => (if (l0.length : Int) = 0 then (none) else (if 0 ≤ ((2 : Int) % (l0.length : Int)) then (if ((2 : Int) % (l0.length : Int)) < (l0.length : Int) then ((slices_Index_string_string.f k t201 (rdOf ByteArray.empty l0 ((2 : Int) % (l0.length : Int)))).bind fun t205 => (some (5, t190, t205, t193))) else (none)) else (none)))) else (if (rdOf ByteArray.empty l0 1).toList = ([97, 98, 111, 114, 116] : List UInt8) then (some (7, t190, t193, 0)) else (some (0, t190, 0, 0)))))))) else (none))) else (none)) else (none)) = some (r1, r2, r3, r4) := by first | (rw [hji13] at H; exact H) | (simp only [hji13] at H ⊢; exact H)
    (try rw [hji13] at A12)
    have hji13w : (IntKind.i64.wrap ((l0.length : Int) - 1)) = ji13 := (i64_w _).trans hji13
    by_cases c14 : 0 ≤ (ji13)
    ·rw [if_pos c14] at H
     have c14b0 : decide (0 ≤ (ji13)) = true := decide_eq_true c14
     clear c14
     by_cases c15 : (ji13) < (l0.length : Int)
     ·rw [if_pos c15] at H
      have c15b0 : decide ((ji13) < (l0.length : Int)) = true := decide_eq_true c15
      clear c15
      replace H := Option.bind_eq_some_iff.mp H
      obtain ⟨t193, A160, H⟩ := H
      replace H : (if 1 < (l0.length : Int) then (if (rdOf ByteArray.empty l0 1).toList = ([111, 112] : List UInt8) then (if (l0.length : Int) = 0 then (none) else (if 0 ≤ ((2 : Int) % (l0.length : Int)) then (if ((2 : Int) % (l0.length : Int)) < (l0.length : Int) then ((op_Of.f k (rdOf ByteArray.empty l0 ((2 : Int) % (l0.length : Int)))).bind fun bt196 => (some (1, t190, bt196.1, t193))) else (none)) else (none))) else (if (rdOf ByteArray.empty l0 1).toList = ([111, 117, 116] : List UInt8) then (some (2, t190, t193, 0)) else (if (rdOf ByteArray.empty l0 1).toList = ([98, 108, 111, 99, 107] : List UInt8) then (if (l0.length : Int) = 0 then (none) else (if 0 ≤ ((2 : Int) % (l0.length : Int)) then (if ((2 : Int) % (l0.length : Int)) < (l0.length : Int) then ((op_Of.f k (rdOf ByteArray.empty l0 ((2 : Int) % (l0.length : Int)))).bind fun bt199 => (some (3, t190, bt199.1, 0))) else (none)) else (none))) else (if (rdOf ByteArray.empty l0 1).toList = ([119, 97, 107, 101] : List UInt8) then (some (4, t190, t193, 0)) else (if (rdOf ByteArray.empty l0 1).toList = ([101, 110, 100] : List UInt8) then ((trace_ends.f).bind fun t201 => (if (l0.length : Int) = 0 then (none) else (if 0 ≤ ((2 : Int) % (l0.length : Int)) then (if ((2 : Int) % (l0.length : Int)) < (l0.length : Int) then ((slices_Index_string_string.f k t201 (rdOf ByteArray.empty l0 ((2 : Int) % (l0.length : Int)))).bind fun t205 => (some (5, t190, t205, t193))) else (none)) else (none)))) else (if (rdOf ByteArray.empty l0 1).toList = ([97, 98, 111, 114, 116] : List UInt8) then (some (7, t190, t193, 0)) else (some (0, t190, 0, 0)))))))) else (none)) = some (r1, r2, r3, r4) := H
      have A16 := Aside0.mk A160
      clear A160
      by_cases c17 : 1 < (l0.length : Int)
      ·rw [if_pos c17] at H
       have c17b0 : decide (1 < (l0.length : Int)) = true := decide_eq_true c17
       have c17b1 : decide (1 < l0.length) = true := decide_eq_true (by omega)
       clear c17
       by_cases c18 : (rdOf ByteArray.empty l0 1).toList = ([111, 112] : List UInt8)
       ·rw [if_pos c18] at H
        have c18b0 : ((rdOf ByteArray.empty l0 1).toList == ([111, 112] : List UInt8)) = true := beq_iff_eq.mpr c18
        have c18b1 : ((rdOf ByteArray.empty l0 1).toList != ([111, 112] : List UInt8)) = false := bne_eq_false_iff_eq.mpr c18
        clear c18
        by_cases c19 : (l0.length : Int) = 0
        ·rw [if_pos c19] at H
         exact absurd H (by simp)
        ·rw [if_neg c19] at H
         have c19b0 : ((l0.length : Int) == 0) = false := beq_eq_false_iff_ne.mpr c19
         have c19b1 : ((l0.length : Int) != 0) = true := bne_iff_ne.mpr c19
         have c19b2 : ¬ (l0 = []) := fun h_ => c19 (by rw [h_]; rfl)
         obtain ⟨ji20, hji20⟩ : ∃ j_ : Int, ((2 : Int) % (l0.length : Int)) = j_ := ⟨_, rfl⟩
         have htmji20 : Int.tmod (2 : Int) (l0.length : Int) = ji20 := (Int.tmod_eq_emod_of_nonneg (by omega)).trans hji20
         replace H : (if 0 ≤ (ji20) then (if (ji20) < (l0.length : Int) then ((op_Of.f k (rdOf ByteArray.empty l0 (ji20))).bind fun bt196 => (some (1, t190, bt196.1, t193))) else (none)) else (none)) = some (r1, r2, r3, r4) := by first | (rw [hji20] at H; exact H) | (simp only [hji20] at H ⊢; exact H)
         (try rw [hji20] at A12)
         (try rw [hji20] at A16)
         by_cases c21 : 0 ≤ (ji20)
         ·rw [if_pos c21] at H
          have c21b0 : decide (0 ≤ (ji20)) = true := decide_eq_true c21
          clear c21
          by_cases c22 : (ji20) < (l0.length : Int)
          ·rw [if_pos c22] at H
           have c22b0 : decide ((ji20) < (l0.length : Int)) = true := decide_eq_true c22
           clear c22
           replace H := Option.bind_eq_some_iff.mp H
           obtain ⟨⟨t196, t197⟩, A230, H⟩ := H
           replace H : (some (1, t190, t196, t193)) = some (r1, r2, r3, r4) := H
           have A23 := Aside0.mk A230
           clear A230
           simp only [Option.some.injEq, Prod.mk.injEq] at H
           obtain ⟨rfl, rfl, rfl, rfl⟩ := H
           go_enter Tryd.func97, Tryd.ntmps97
           go_wp2_with (first | ((with_reducible refine gate_dst (N := 2) rfl ?_); refine box_event ?hg (N := 2) ?hd (cs := #[.int .i64 0, .int .i64 0, .int .i64 0, .int .i64 0]) (t := 72) ?hr ?_; (case hd => rfl); (case hg => rfl); (case hr => first | (go_simp; done) | (go_simp; rfl)); intro gb185 hg w24 hbox hb; have n0_ := Aside0.mk (below_step (by repeat (first | (with_reducible first | exact HB.out | apply below_alloc | apply pw_below_drewN | apply below_drew1) | exact HB.out)) hb); have n1_ := Aside0.mk (hbox); have n2_ := Aside0.mk ((by rw [hg]; exact (below_size (by repeat (first | (with_reducible first | exact HB.out | apply below_alloc | apply pw_below_drewN | apply below_drew1) | exact HB.out))) : w.heap.size ≤ gb185)); have n3_ := Aside0.mk ((by rw [hg]; exact (below_size (by repeat (first | (with_reducible first | exact HB.out | apply below_alloc | apply pw_below_drewN | apply below_drew1) | exact HB.out))) : w.heap.size ≤ gb185)); clear HB; have HB := n0_; have BK185 := n1_; have GW185 := n2_; have GE185 := n3_; clear n0_ n1_ n2_ n3_; clear hb hbox hg; have p186 : 0 ≤ (0 : Int) := (by omega); have q186 : 0 < (l0.length : Int) := of_decide_eq_true (by first | (with_reducible assumption) | assumption); obtain ⟨ad186, e186, hx186_0⟩ := Kd.at_string HR0.out 0 p186 q186; cases e186; have qi186 : (0 < l0.length) = True := eq_true (by omega); (try rw [show ((0 : Int)).toNat = 0 from rfl] at hx186_0); (try rw [Addr.add_zero'] at hx186_0); replace hx186_0 := (HB.out.cell (World.block_lt_of_cell? w _ hx186_0)).trans hx186_0; replace p186 := eq_true p186; replace q186 := eq_true q186; have p189 : 0 ≤ (0 : Int) := (by omega); have q189 : 0 < (l0.length : Int) := of_decide_eq_true (by first | (with_reducible assumption) | assumption); obtain ⟨ad189, e189, hx189_0⟩ := Kd.at_string HR0.out 0 p189 q189; obtain rfl : ad186 = ad189 := (by injection e189); have qi189 : (0 < l0.length) = True := eq_true (by omega); (try rw [show ((0 : Int)).toNat = 0 from rfl] at hx189_0); (try rw [Addr.add_zero'] at hx189_0); replace hx189_0 := (HB.out.cell (World.block_lt_of_cell? w _ hx189_0)).trans hx189_0; replace p189 := eq_true p189; replace q189 := eq_true q189) | ((with_reducible refine gate_callee (f := 133) rfl ?_); refine goesL_ (some 21) rfl rfl Tryd.func133 (by kernel_rfl) rfl #[.string (rdOf ByteArray.empty l0 0)] rfl (by (try simp only [List.map_toArray, List.map_cons, List.map_nil]); first | done | rfl | (simp only [List.length_drop, List.length_take]; rfl)) ?_; (with_reducible refine (o_number.calls (rdOf ByteArray.empty l0 0) t190 _ A12.out ?side1).mono ?_); (case side1 => exact Gl.below HG.out (by repeat (first | (with_reducible first | exact HB.out | apply below_alloc | apply pw_below_drewN | apply below_drew1 | refine below_set ?_ GE185.out) | exact HB.out))); rintro e w25 ⟨rfl, hb⟩; refine ⟨_, rfl, ?_⟩; have n0_ := Aside0.mk (blk_below (g := gb185) (o := .cells #[.int .i64 0, .int .i64 0, .int .i64 0, .int .i64 0] 72 (0, 0)) (by (with_reducible repeat (first | refine blk_drewN ?_ _ | refine blk_drew ?_ | refine blk_alloc ?_ _)); exact BK185.out) hb); have n1_ := Aside0.mk (below_step (by repeat (first | (with_reducible first | exact HB.out | apply below_alloc | apply pw_below_drewN | apply below_drew1 | refine below_set ?_ GE185.out) | exact HB.out)) hb); clear BK185; clear HB; have BK185 := n0_; have HB := n1_; clear n0_ n1_; (try clear hb); (try clear hb2); (try clear hk); (try clear hi)) | ((with_reducible refine gate_dst (N := 3) rfl ?_); refine box_event ?hg (N := 3) ?hd (cs := #[.int .i64 0, .int .i64 0, .int .i64 0, .int .i64 0]) (t := 72) ?hr ?_; (case hd => rfl); (case hg => rfl); (case hr => first | (go_simp; done) | (go_simp; rfl)); intro gb191 hg w26 hbox hb; have n0_ := Aside0.mk (blk_below (g := gb185) (o := .cells #[.int .i64 0, .int .i64 0, .int .i64 0, .int .i64 0] 72 (0, 0)) (by (with_reducible repeat (first | refine blk_drewN ?_ _ | refine blk_drew ?_ | refine blk_alloc ?_ _)); exact BK185.out) hb); have n1_ := Aside0.mk (below_step (by repeat (first | (with_reducible first | exact HB.out | apply below_alloc | apply pw_below_drewN | apply below_drew1 | refine below_set ?_ GE185.out) | exact HB.out)) hb); have n2_ := Aside0.mk (hbox); have n3_ := Aside0.mk ((by rw [hg]; exact (below_size (by repeat (first | (with_reducible first | exact HB.out | apply below_alloc | apply pw_below_drewN | apply below_drew1 | refine below_set ?_ GE185.out) | exact HB.out))) : w.heap.size ≤ gb191)); have n4_ := Aside0.mk ((by rw [hg]; exact (below_size (by repeat (first | (with_reducible first | exact HB.out | apply below_alloc | apply pw_below_drewN | apply below_drew1 | refine below_set ?_ GE185.out) | exact HB.out))) : w.heap.size ≤ gb191)); have n5_ := Aside0.mk ((by rw [hg]; exact Nat.ne_of_lt (blk_lt (g := gb185) (o := .cells #[.int .i64 0, .int .i64 0, .int .i64 0, .int .i64 0] 72 (0, 0)) (by (with_reducible repeat (first | refine blk_drewN ?_ _ | refine blk_drew ?_ | refine blk_alloc ?_ _)); exact BK185.out)) : gb185 ≠ gb191)); have n6_ := Aside0.mk ((by rw [hg]; exact Nat.ne_of_gt (blk_lt (g := gb185) (o := .cells #[.int .i64 0, .int .i64 0, .int .i64 0, .int .i64 0] 72 (0, 0)) (by (with_reducible repeat (first | refine blk_drewN ?_ _ | refine blk_drew ?_ | refine blk_alloc ?_ _)); exact BK185.out)) : gb191 ≠ gb185)); clear BK185; clear HB; have BK185 := n0_; have HB := n1_; have BK191 := n2_; have GW191 := n3_; have GE191 := n4_; have NB185_191 := n5_; have NB191_185 := n6_; clear n0_ n1_ n2_ n3_ n4_ n5_ n6_; clear hb hbox hg; have hnb27 := NB191_185.out; have hnc27 := NB185_191.out; have hcz28_0 : w26.cell? ⟨gb191, 0, none⟩ = some (.int .i64 0) := (blk_cell BK191.out 0).trans rfl; have hcz28_1 : w26.cell? ⟨gb191, 1, none⟩ = some (.int .i64 0) := (blk_cell BK191.out 1).trans rfl; have hcz28_2 : w26.cell? ⟨gb191, 2, none⟩ = some (.int .i64 0) := (blk_cell BK191.out 2).trans rfl; have hcz28_3 : w26.cell? ⟨gb191, 3, none⟩ = some (.int .i64 0) := (blk_cell BK191.out 3).trans rfl; have hfz28_0 := blk_frozen BK191.out 0; have hfz28_1 := blk_frozen BK191.out 1; have hfz28_2 := blk_frozen BK191.out 2; have hfz28_3 := blk_frozen BK191.out 3; have p192 : 0 ≤ ((ji13) : Int) := of_decide_eq_true (by first | (with_reducible assumption) | assumption); have q192 : (ji13) < (l0.length : Int) := of_decide_eq_true (by first | (with_reducible assumption) | assumption); obtain ⟨ad192, e192, hx192_0⟩ := Kd.at_string HR0.out (ji13) p192 q192; obtain rfl : ad186 = ad192 := (by injection e192); have hn192_0 : ad186.block ≠ gb191 := Nat.ne_of_lt (Nat.lt_of_lt_of_le (by have := World.block_lt_of_cell? _ _ hx192_0; first | rwa [add_block] at this | exact this) GW191.out); have hn192_1 : ad186.block ≠ gb191 := Nat.ne_of_lt (Nat.lt_of_lt_of_le (by have := World.block_lt_of_cell? _ _ hx192_0; first | rwa [add_block] at this | exact this) GW191.out); have hn192_2 : ad186.block ≠ gb191 := Nat.ne_of_lt (Nat.lt_of_lt_of_le (by have := World.block_lt_of_cell? _ _ hx192_0; first | rwa [add_block] at this | exact this) GW191.out); have hn192_3 : ad186.block ≠ gb191 := Nat.ne_of_lt (Nat.lt_of_lt_of_le (by have := World.block_lt_of_cell? _ _ hx192_0; first | rwa [add_block] at this | exact this) GW191.out); replace hx192_0 := (HB.out.cell (World.block_lt_of_cell? w _ hx192_0)).trans hx192_0; replace hx192_0 := (cell_far (p := ⟨gb191, 0, none⟩) (by first | (rw [add_block]; exact hn192_0) | (show (Addr.add _ _).block ≠ _; rw [add_block]; exact hn192_0) | exact hn192_0) (.int .i64 0)).trans hx192_0; replace hx192_0 := (cell_far (p := ⟨gb191, 1, none⟩) (by first | (rw [add_block]; exact hn192_1) | (show (Addr.add _ _).block ≠ _; rw [add_block]; exact hn192_1) | exact hn192_1) (.int .i64 t190)).trans hx192_0; replace hx192_0 := (cell_far (p := ⟨gb191, 2, none⟩) (by first | (rw [add_block]; exact hn192_2) | (show (Addr.add _ _).block ≠ _; rw [add_block]; exact hn192_2) | exact hn192_2) (.int .i64 0)).trans hx192_0; replace hx192_0 := (cell_far (p := ⟨gb191, 3, none⟩) (by first | (rw [add_block]; exact hn192_3) | (show (Addr.add _ _).block ≠ _; rw [add_block]; exact hn192_3) | exact hn192_3) (.int .i64 0)).trans hx192_0; clear hn192_0; clear hn192_1; clear hn192_2; clear hn192_3; replace p192 := eq_true p192; replace q192 := eq_true q192) | ((with_reducible refine gate_callee (f := 133) rfl ?_); refine goesL_ (some 29) rfl rfl Tryd.func133 (by kernel_rfl) rfl #[.string (rdOf ByteArray.empty l0 (ji13))] rfl (by (try simp only [List.map_toArray, List.map_cons, List.map_nil]); first | done | (simp only [hji13]; rfl) | rfl | (simp only [List.length_drop, List.length_take]; rfl)) ?_; (with_reducible refine (o_number.calls (rdOf ByteArray.empty l0 (ji13)) t193 _ A16.out ?side1).mono ?_); (case side1 => exact Gl.below HG.out (by repeat (first | (with_reducible first | exact HB.out | apply below_alloc | apply pw_below_drewN | apply below_drew1 | refine below_set ?_ GE185.out | refine below_set ?_ GE191.out) | exact HB.out))); rintro e w29 ⟨rfl, hb⟩; refine ⟨_, rfl, ?_⟩; have n0_ := Aside0.mk (blk_below (g := gb185) (o := .cells #[.int .i64 0, .int .i64 0, .int .i64 0, .int .i64 0] 72 (0, 0)) (by (with_reducible repeat (first | refine blk_drewN ?_ _ | refine blk_drew ?_ | refine blk_alloc ?_ _)); refine blk_far ?_ NB185_191.out _; (with_reducible repeat (first | refine blk_drewN ?_ _ | refine blk_drew ?_ | refine blk_alloc ?_ _)); refine blk_far ?_ NB185_191.out _; (with_reducible repeat (first | refine blk_drewN ?_ _ | refine blk_drew ?_ | refine blk_alloc ?_ _)); refine blk_far ?_ NB185_191.out _; (with_reducible repeat (first | refine blk_drewN ?_ _ | refine blk_drew ?_ | refine blk_alloc ?_ _)); refine blk_far ?_ NB185_191.out _; (with_reducible repeat (first | refine blk_drewN ?_ _ | refine blk_drew ?_ | refine blk_alloc ?_ _)); exact BK185.out) hb); have n1_ := Aside0.mk (blk_below (g := gb191) (o := .cells #[.int .i64 0, .int .i64 t190, .int .i64 0, .int .i64 0] 72 (0, 0)) (by (with_reducible repeat (first | refine blk_drewN ?_ _ | refine blk_drew ?_ | refine blk_alloc ?_ _)); refine blk_put (cs := #[.int .i64 0, .int .i64 t190, .int .i64 0, .int .i64 0]) ?_ 3 _ rfl; (with_reducible repeat (first | refine blk_drewN ?_ _ | refine blk_drew ?_ | refine blk_alloc ?_ _)); refine blk_put (cs := #[.int .i64 0, .int .i64 t190, .int .i64 0, .int .i64 0]) ?_ 2 _ rfl; (with_reducible repeat (first | refine blk_drewN ?_ _ | refine blk_drew ?_ | refine blk_alloc ?_ _)); refine blk_put (cs := #[.int .i64 0, .int .i64 0, .int .i64 0, .int .i64 0]) ?_ 1 _ rfl; (with_reducible repeat (first | refine blk_drewN ?_ _ | refine blk_drew ?_ | refine blk_alloc ?_ _)); refine blk_put (cs := #[.int .i64 0, .int .i64 0, .int .i64 0, .int .i64 0]) ?_ 0 _ rfl; (with_reducible repeat (first | refine blk_drewN ?_ _ | refine blk_drew ?_ | refine blk_alloc ?_ _)); exact BK191.out) hb); have n2_ := Aside0.mk (below_step (by repeat (first | (with_reducible first | exact HB.out | apply below_alloc | apply pw_below_drewN | apply below_drew1 | refine below_set ?_ GE185.out | refine below_set ?_ GE191.out) | exact HB.out)) hb); clear BK185; clear BK191; clear HB; have BK185 := n0_; have BK191 := n1_; have HB := n2_; clear n0_ n1_ n2_; (try clear hb); (try clear hb2); (try clear hk); (try clear hi); have p194 : 0 ≤ (1 : Int) := (by omega); have q194 : 1 < (l0.length : Int) := of_decide_eq_true (by first | (with_reducible assumption) | assumption); obtain ⟨ad194, e194, hx194_0⟩ := Kd.at_string HR0.out 1 p194 q194; obtain rfl : ad186 = ad194 := (by injection e194); (try simp only [show (1 : Int).toNat = 1 from rfl, Nat.reduceMul, Nat.reduceEqDiff, Go.Addr.add, ↓reduceIte] at hx194_0); have qi194 : (1 < l0.length) = True := eq_true (by omega); (try rw [show ((1 : Int)).toNat = 1 from rfl] at hx194_0); replace hx194_0 := (HB.out.cell (World.block_lt_of_cell? w _ hx194_0)).trans hx194_0; replace p194 := eq_true p194; replace q194 := eq_true q194; have hcz30_0 : w29.cell? ⟨gb191, 0, none⟩ = some (.int .i64 0) := (blk_cell BK191.out 0).trans rfl; have hcz30_1 : w29.cell? ⟨gb191, 1, none⟩ = some (.int .i64 t190) := (blk_cell BK191.out 1).trans rfl; have hcz30_2 : w29.cell? ⟨gb191, 2, none⟩ = some (.int .i64 0) := (blk_cell BK191.out 2).trans rfl; have hcz30_3 : w29.cell? ⟨gb191, 3, none⟩ = some (.int .i64 0) := (blk_cell BK191.out 3).trans rfl; have hfz30_0 := blk_frozen BK191.out 0; have hfz30_1 := blk_frozen BK191.out 1; have hfz30_2 := blk_frozen BK191.out 2; have hfz30_3 := blk_frozen BK191.out 3; have p195 : 0 ≤ ((ji20) : Int) := of_decide_eq_true (by first | (with_reducible assumption) | assumption); have q195 : (ji20) < (l0.length : Int) := of_decide_eq_true (by first | (with_reducible assumption) | assumption); obtain ⟨ad195, e195, hx195_0⟩ := Kd.at_string HR0.out (ji20) p195 q195; obtain rfl : ad186 = ad195 := (by injection e195); have hn195_0 : ad186.block ≠ gb191 := Nat.ne_of_lt (Nat.lt_of_lt_of_le (by have := World.block_lt_of_cell? _ _ hx195_0; first | rwa [add_block] at this | exact this) GW191.out); have hn195_1 : ad186.block ≠ gb191 := Nat.ne_of_lt (Nat.lt_of_lt_of_le (by have := World.block_lt_of_cell? _ _ hx195_0; first | rwa [add_block] at this | exact this) GW191.out); replace hx195_0 := (HB.out.cell (World.block_lt_of_cell? w _ hx195_0)).trans hx195_0; replace hx195_0 := (cell_far (p := ⟨gb191, 0, none⟩) (by first | (rw [add_block]; exact hn195_0) | (show (Addr.add _ _).block ≠ _; rw [add_block]; exact hn195_0) | exact hn195_0) (.int .i64 1)).trans hx195_0; replace hx195_0 := (cell_far (p := ⟨gb191, 3, none⟩) (by first | (rw [add_block]; exact hn195_1) | (show (Addr.add _ _).block ≠ _; rw [add_block]; exact hn195_1) | exact hn195_1) (.int .i64 t193)).trans hx195_0; clear hn195_0; clear hn195_1; replace p195 := eq_true p195; replace q195 := eq_true q195) | ((with_reducible refine gate_callee (f := 134) rfl ?_); refine goesL_ (some 45) rfl rfl Tryd.func134 (by kernel_rfl) rfl #[.string (rdOf ByteArray.empty l0 (ji20))] rfl (by (try simp only [List.map_toArray, List.map_cons, List.map_nil]); first | done | (simp only [hji20]; rfl) | rfl | (simp only [List.length_drop, List.length_take]; rfl)) ?_; (with_reducible refine (op_Of.calls k (rdOf ByteArray.empty l0 (ji20)) t196 t197 _ A23.out ?side1).mono ?_); (case side1 => exact Gl.below HG.out (by repeat (first | (with_reducible first | exact HB.out | apply below_alloc | apply pw_below_drewN | apply below_drew1 | refine below_set ?_ GE185.out | refine below_set ?_ GE191.out) | exact HB.out))); rintro e w31 ⟨rfl, hb⟩; refine ⟨_, rfl, ?_⟩; have n0_ := Aside0.mk (blk_below (g := gb185) (o := .cells #[.int .i64 0, .int .i64 0, .int .i64 0, .int .i64 0] 72 (0, 0)) (by (with_reducible repeat (first | refine blk_drewN ?_ _ | refine blk_drew ?_ | refine blk_alloc ?_ _)); refine blk_far ?_ NB185_191.out _; (with_reducible repeat (first | refine blk_drewN ?_ _ | refine blk_drew ?_ | refine blk_alloc ?_ _)); refine blk_far ?_ NB185_191.out _; (with_reducible repeat (first | refine blk_drewN ?_ _ | refine blk_drew ?_ | refine blk_alloc ?_ _)); exact BK185.out) hb); have n1_ := Aside0.mk (blk_below (g := gb191) (o := .cells #[.int .i64 1, .int .i64 t190, .int .i64 0, .int .i64 t193] 72 (0, 0)) (by (with_reducible repeat (first | refine blk_drewN ?_ _ | refine blk_drew ?_ | refine blk_alloc ?_ _)); refine blk_put (cs := #[.int .i64 1, .int .i64 t190, .int .i64 0, .int .i64 0]) ?_ 3 _ rfl; (with_reducible repeat (first | refine blk_drewN ?_ _ | refine blk_drew ?_ | refine blk_alloc ?_ _)); refine blk_put (cs := #[.int .i64 0, .int .i64 t190, .int .i64 0, .int .i64 0]) ?_ 0 _ rfl; (with_reducible repeat (first | refine blk_drewN ?_ _ | refine blk_drew ?_ | refine blk_alloc ?_ _)); exact BK191.out) hb); have n2_ := Aside0.mk (below_step (by repeat (first | (with_reducible first | exact HB.out | apply below_alloc | apply pw_below_drewN | apply below_drew1 | refine below_set ?_ GE185.out | refine below_set ?_ GE191.out) | exact HB.out)) hb); clear BK185; clear BK191; clear HB; have BK185 := n0_; have BK191 := n1_; have HB := n2_; clear n0_ n1_ n2_; (try clear hb); (try clear hb2); (try clear hk); (try clear hi); have hcz32_0 : w31.cell? ⟨gb191, 0, none⟩ = some (.int .i64 1) := (blk_cell BK191.out 0).trans rfl; have hcz32_1 : w31.cell? ⟨gb191, 1, none⟩ = some (.int .i64 t190) := (blk_cell BK191.out 1).trans rfl; have hcz32_2 : w31.cell? ⟨gb191, 2, none⟩ = some (.int .i64 0) := (blk_cell BK191.out 2).trans rfl; have hcz32_3 : w31.cell? ⟨gb191, 3, none⟩ = some (.int .i64 t193) := (blk_cell BK191.out 3).trans rfl; have hfz32_0 := blk_frozen BK191.out 0; have hfz32_1 := blk_frozen BK191.out 1; have hfz32_2 := blk_frozen BK191.out 2; have hfz32_3 := blk_frozen BK191.out 3; have hcz33_0 : w31.cell? ⟨gb185, 0, none⟩ = some (.int .i64 0) := (blk_cell BK185.out 0).trans rfl; have hcz33_1 : w31.cell? ⟨gb185, 1, none⟩ = some (.int .i64 0) := (blk_cell BK185.out 1).trans rfl; have hcz33_2 : w31.cell? ⟨gb185, 2, none⟩ = some (.int .i64 0) := (blk_cell BK185.out 2).trans rfl; have hcz33_3 : w31.cell? ⟨gb185, 3, none⟩ = some (.int .i64 0) := (blk_cell BK185.out 3).trans rfl; have hfz33_0 := blk_frozen BK185.out 0; have hfz33_1 := blk_frozen BK185.out 1; have hfz33_2 := blk_frozen BK185.out 2; have hfz33_3 := blk_frozen BK185.out 3))
           refine bodyPost_ret (results_cell_row rfl _ _ gb185 72 #[.int .i64 1, .int .i64 t190, .int .i64 t196, .int .i64 t193] (0, 0) _ rfl (by (with_reducible repeat (first | refine blk_drewN ?_ _ | refine blk_drew ?_ | refine blk_alloc ?_ _)); refine blk_put (cs := #[.int .i64 1, .int .i64 t190, .int .i64 t196, .int .i64 0]) ?_ 3 _ rfl; (with_reducible repeat (first | refine blk_drewN ?_ _ | refine blk_drew ?_ | refine blk_alloc ?_ _)); refine blk_put (cs := #[.int .i64 1, .int .i64 t190, .int .i64 0, .int .i64 0]) ?_ 2 _ rfl; (with_reducible repeat (first | refine blk_drewN ?_ _ | refine blk_drew ?_ | refine blk_alloc ?_ _)); refine blk_put (cs := #[.int .i64 1, .int .i64 0, .int .i64 0, .int .i64 0]) ?_ 1 _ rfl; (with_reducible repeat (first | refine blk_drewN ?_ _ | refine blk_drew ?_ | refine blk_alloc ?_ _)); refine blk_put (cs := #[.int .i64 0, .int .i64 0, .int .i64 0, .int .i64 0]) ?_ 0 _ rfl; (with_reducible repeat (first | refine blk_drewN ?_ _ | refine blk_drew ?_ | refine blk_alloc ?_ _)); refine blk_far ?_ NB185_191.out _; (with_reducible repeat (first | refine blk_drewN ?_ _ | refine blk_drew ?_ | refine blk_alloc ?_ _)); exact BK185.out) Tryd.underlying72 rfl (by kernel_rfl)) rfl ?_
           exact ⟨by first | rfl | (simp [errW_none, errW_some] <;> rfl) | (simp only [← hji13, ← hji20]; first | rfl | (simp [errW_none, errW_some] <;> rfl)) | (simp [*, errW_none, errW_some] <;> rfl), by repeat (first | (with_reducible first | exact HB.out | apply below_alloc | apply pw_below_drewN | apply below_drew1 | refine below_set ?_ GE185.out | refine below_set ?_ GE191.out) | exact HB.out)⟩
          ·rw [if_neg c22] at H
           exact absurd H (by simp)
         ·rw [if_neg c21] at H
          exact absurd H (by simp)
       ·rw [if_neg c18] at H
        have c18b0 : ((rdOf ByteArray.empty l0 1).toList == ([111, 112] : List UInt8)) = false := beq_eq_false_iff_ne.mpr c18
        have c18b1 : ((rdOf ByteArray.empty l0 1).toList != ([111, 112] : List UInt8)) = true := bne_iff_ne.mpr c18
        by_cases c34 : (rdOf ByteArray.empty l0 1).toList = ([111, 117, 116] : List UInt8)
        ·rw [if_pos c34] at H
         have c34b0 : ((rdOf ByteArray.empty l0 1).toList == ([111, 117, 116] : List UInt8)) = true := beq_iff_eq.mpr c34
         have c34b1 : ((rdOf ByteArray.empty l0 1).toList != ([111, 117, 116] : List UInt8)) = false := bne_eq_false_iff_eq.mpr c34
         clear c34
         simp only [Option.some.injEq, Prod.mk.injEq] at H
         obtain ⟨rfl, rfl, rfl, rfl⟩ := H
         go_enter Tryd.func97, Tryd.ntmps97
         go_wp2_with (first | ((with_reducible refine gate_dst (N := 2) rfl ?_); refine box_event ?hg (N := 2) ?hd (cs := #[.int .i64 0, .int .i64 0, .int .i64 0, .int .i64 0]) (t := 72) ?hr ?_; (case hd => rfl); (case hg => rfl); (case hr => first | (go_simp; done) | (go_simp; rfl)); intro gb185 hg w35 hbox hb; have n0_ := Aside0.mk (below_step (by repeat (first | (with_reducible first | exact HB.out | apply below_alloc | apply pw_below_drewN | apply below_drew1) | exact HB.out)) hb); have n1_ := Aside0.mk (hbox); have n2_ := Aside0.mk ((by rw [hg]; exact (below_size (by repeat (first | (with_reducible first | exact HB.out | apply below_alloc | apply pw_below_drewN | apply below_drew1) | exact HB.out))) : w.heap.size ≤ gb185)); have n3_ := Aside0.mk ((by rw [hg]; exact (below_size (by repeat (first | (with_reducible first | exact HB.out | apply below_alloc | apply pw_below_drewN | apply below_drew1) | exact HB.out))) : w.heap.size ≤ gb185)); clear HB; have HB := n0_; have BK185 := n1_; have GW185 := n2_; have GE185 := n3_; clear n0_ n1_ n2_ n3_; clear hb hbox hg; have p186 : 0 ≤ (0 : Int) := (by omega); have q186 : 0 < (l0.length : Int) := of_decide_eq_true (by first | (with_reducible assumption) | assumption); obtain ⟨ad186, e186, hx186_0⟩ := Kd.at_string HR0.out 0 p186 q186; cases e186; have qi186 : (0 < l0.length) = True := eq_true (by omega); (try rw [show ((0 : Int)).toNat = 0 from rfl] at hx186_0); (try rw [Addr.add_zero'] at hx186_0); replace hx186_0 := (HB.out.cell (World.block_lt_of_cell? w _ hx186_0)).trans hx186_0; replace p186 := eq_true p186; replace q186 := eq_true q186; have p189 : 0 ≤ (0 : Int) := (by omega); have q189 : 0 < (l0.length : Int) := of_decide_eq_true (by first | (with_reducible assumption) | assumption); obtain ⟨ad189, e189, hx189_0⟩ := Kd.at_string HR0.out 0 p189 q189; obtain rfl : ad186 = ad189 := (by injection e189); have qi189 : (0 < l0.length) = True := eq_true (by omega); (try rw [show ((0 : Int)).toNat = 0 from rfl] at hx189_0); (try rw [Addr.add_zero'] at hx189_0); replace hx189_0 := (HB.out.cell (World.block_lt_of_cell? w _ hx189_0)).trans hx189_0; replace p189 := eq_true p189; replace q189 := eq_true q189) | ((with_reducible refine gate_callee (f := 133) rfl ?_); refine goesL_ (some 21) rfl rfl Tryd.func133 (by kernel_rfl) rfl #[.string (rdOf ByteArray.empty l0 0)] rfl (by (try simp only [List.map_toArray, List.map_cons, List.map_nil]); first | done | rfl | (simp only [List.length_drop, List.length_take]; rfl)) ?_; (with_reducible refine (o_number.calls (rdOf ByteArray.empty l0 0) t190 _ A12.out ?side1).mono ?_); (case side1 => exact Gl.below HG.out (by repeat (first | (with_reducible first | exact HB.out | apply below_alloc | apply pw_below_drewN | apply below_drew1 | refine below_set ?_ GE185.out) | exact HB.out))); rintro e w36 ⟨rfl, hb⟩; refine ⟨_, rfl, ?_⟩; have n0_ := Aside0.mk (blk_below (g := gb185) (o := .cells #[.int .i64 0, .int .i64 0, .int .i64 0, .int .i64 0] 72 (0, 0)) (by (with_reducible repeat (first | refine blk_drewN ?_ _ | refine blk_drew ?_ | refine blk_alloc ?_ _)); exact BK185.out) hb); have n1_ := Aside0.mk (below_step (by repeat (first | (with_reducible first | exact HB.out | apply below_alloc | apply pw_below_drewN | apply below_drew1 | refine below_set ?_ GE185.out) | exact HB.out)) hb); clear BK185; clear HB; have BK185 := n0_; have HB := n1_; clear n0_ n1_; (try clear hb); (try clear hb2); (try clear hk); (try clear hi)) | ((with_reducible refine gate_dst (N := 3) rfl ?_); refine box_event ?hg (N := 3) ?hd (cs := #[.int .i64 0, .int .i64 0, .int .i64 0, .int .i64 0]) (t := 72) ?hr ?_; (case hd => rfl); (case hg => rfl); (case hr => first | (go_simp; done) | (go_simp; rfl)); intro gb191 hg w37 hbox hb; have n0_ := Aside0.mk (blk_below (g := gb185) (o := .cells #[.int .i64 0, .int .i64 0, .int .i64 0, .int .i64 0] 72 (0, 0)) (by (with_reducible repeat (first | refine blk_drewN ?_ _ | refine blk_drew ?_ | refine blk_alloc ?_ _)); exact BK185.out) hb); have n1_ := Aside0.mk (below_step (by repeat (first | (with_reducible first | exact HB.out | apply below_alloc | apply pw_below_drewN | apply below_drew1 | refine below_set ?_ GE185.out) | exact HB.out)) hb); have n2_ := Aside0.mk (hbox); have n3_ := Aside0.mk ((by rw [hg]; exact (below_size (by repeat (first | (with_reducible first | exact HB.out | apply below_alloc | apply pw_below_drewN | apply below_drew1 | refine below_set ?_ GE185.out) | exact HB.out))) : w.heap.size ≤ gb191)); have n4_ := Aside0.mk ((by rw [hg]; exact (below_size (by repeat (first | (with_reducible first | exact HB.out | apply below_alloc | apply pw_below_drewN | apply below_drew1 | refine below_set ?_ GE185.out) | exact HB.out))) : w.heap.size ≤ gb191)); have n5_ := Aside0.mk ((by rw [hg]; exact Nat.ne_of_lt (blk_lt (g := gb185) (o := .cells #[.int .i64 0, .int .i64 0, .int .i64 0, .int .i64 0] 72 (0, 0)) (by (with_reducible repeat (first | refine blk_drewN ?_ _ | refine blk_drew ?_ | refine blk_alloc ?_ _)); exact BK185.out)) : gb185 ≠ gb191)); have n6_ := Aside0.mk ((by rw [hg]; exact Nat.ne_of_gt (blk_lt (g := gb185) (o := .cells #[.int .i64 0, .int .i64 0, .int .i64 0, .int .i64 0] 72 (0, 0)) (by (with_reducible repeat (first | refine blk_drewN ?_ _ | refine blk_drew ?_ | refine blk_alloc ?_ _)); exact BK185.out)) : gb191 ≠ gb185)); clear BK185; clear HB; have BK185 := n0_; have HB := n1_; have BK191 := n2_; have GW191 := n3_; have GE191 := n4_; have NB185_191 := n5_; have NB191_185 := n6_; clear n0_ n1_ n2_ n3_ n4_ n5_ n6_; clear hb hbox hg; have hnb38 := NB191_185.out; have hnc38 := NB185_191.out; have hcz39_0 : w37.cell? ⟨gb191, 0, none⟩ = some (.int .i64 0) := (blk_cell BK191.out 0).trans rfl; have hcz39_1 : w37.cell? ⟨gb191, 1, none⟩ = some (.int .i64 0) := (blk_cell BK191.out 1).trans rfl; have hcz39_2 : w37.cell? ⟨gb191, 2, none⟩ = some (.int .i64 0) := (blk_cell BK191.out 2).trans rfl; have hcz39_3 : w37.cell? ⟨gb191, 3, none⟩ = some (.int .i64 0) := (blk_cell BK191.out 3).trans rfl; have hfz39_0 := blk_frozen BK191.out 0; have hfz39_1 := blk_frozen BK191.out 1; have hfz39_2 := blk_frozen BK191.out 2; have hfz39_3 := blk_frozen BK191.out 3; have p192 : 0 ≤ ((ji13) : Int) := of_decide_eq_true (by first | (with_reducible assumption) | assumption); have q192 : (ji13) < (l0.length : Int) := of_decide_eq_true (by first | (with_reducible assumption) | assumption); obtain ⟨ad192, e192, hx192_0⟩ := Kd.at_string HR0.out (ji13) p192 q192; obtain rfl : ad186 = ad192 := (by injection e192); have hn192_0 : ad186.block ≠ gb191 := Nat.ne_of_lt (Nat.lt_of_lt_of_le (by have := World.block_lt_of_cell? _ _ hx192_0; first | rwa [add_block] at this | exact this) GW191.out); have hn192_1 : ad186.block ≠ gb191 := Nat.ne_of_lt (Nat.lt_of_lt_of_le (by have := World.block_lt_of_cell? _ _ hx192_0; first | rwa [add_block] at this | exact this) GW191.out); have hn192_2 : ad186.block ≠ gb191 := Nat.ne_of_lt (Nat.lt_of_lt_of_le (by have := World.block_lt_of_cell? _ _ hx192_0; first | rwa [add_block] at this | exact this) GW191.out); have hn192_3 : ad186.block ≠ gb191 := Nat.ne_of_lt (Nat.lt_of_lt_of_le (by have := World.block_lt_of_cell? _ _ hx192_0; first | rwa [add_block] at this | exact this) GW191.out); replace hx192_0 := (HB.out.cell (World.block_lt_of_cell? w _ hx192_0)).trans hx192_0; replace hx192_0 := (cell_far (p := ⟨gb191, 0, none⟩) (by first | (rw [add_block]; exact hn192_0) | (show (Addr.add _ _).block ≠ _; rw [add_block]; exact hn192_0) | exact hn192_0) (.int .i64 0)).trans hx192_0; replace hx192_0 := (cell_far (p := ⟨gb191, 1, none⟩) (by first | (rw [add_block]; exact hn192_1) | (show (Addr.add _ _).block ≠ _; rw [add_block]; exact hn192_1) | exact hn192_1) (.int .i64 t190)).trans hx192_0; replace hx192_0 := (cell_far (p := ⟨gb191, 2, none⟩) (by first | (rw [add_block]; exact hn192_2) | (show (Addr.add _ _).block ≠ _; rw [add_block]; exact hn192_2) | exact hn192_2) (.int .i64 0)).trans hx192_0; replace hx192_0 := (cell_far (p := ⟨gb191, 3, none⟩) (by first | (rw [add_block]; exact hn192_3) | (show (Addr.add _ _).block ≠ _; rw [add_block]; exact hn192_3) | exact hn192_3) (.int .i64 0)).trans hx192_0; clear hn192_0; clear hn192_1; clear hn192_2; clear hn192_3; replace p192 := eq_true p192; replace q192 := eq_true q192) | ((with_reducible refine gate_callee (f := 133) rfl ?_); refine goesL_ (some 29) rfl rfl Tryd.func133 (by kernel_rfl) rfl #[.string (rdOf ByteArray.empty l0 (ji13))] rfl (by (try simp only [List.map_toArray, List.map_cons, List.map_nil]); first | done | (simp only [hji13]; rfl) | rfl | (simp only [List.length_drop, List.length_take]; rfl)) ?_; (with_reducible refine (o_number.calls (rdOf ByteArray.empty l0 (ji13)) t193 _ A16.out ?side1).mono ?_); (case side1 => exact Gl.below HG.out (by repeat (first | (with_reducible first | exact HB.out | apply below_alloc | apply pw_below_drewN | apply below_drew1 | refine below_set ?_ GE185.out | refine below_set ?_ GE191.out) | exact HB.out))); rintro e w40 ⟨rfl, hb⟩; refine ⟨_, rfl, ?_⟩; have n0_ := Aside0.mk (blk_below (g := gb185) (o := .cells #[.int .i64 0, .int .i64 0, .int .i64 0, .int .i64 0] 72 (0, 0)) (by (with_reducible repeat (first | refine blk_drewN ?_ _ | refine blk_drew ?_ | refine blk_alloc ?_ _)); refine blk_far ?_ NB185_191.out _; (with_reducible repeat (first | refine blk_drewN ?_ _ | refine blk_drew ?_ | refine blk_alloc ?_ _)); refine blk_far ?_ NB185_191.out _; (with_reducible repeat (first | refine blk_drewN ?_ _ | refine blk_drew ?_ | refine blk_alloc ?_ _)); refine blk_far ?_ NB185_191.out _; (with_reducible repeat (first | refine blk_drewN ?_ _ | refine blk_drew ?_ | refine blk_alloc ?_ _)); refine blk_far ?_ NB185_191.out _; (with_reducible repeat (first | refine blk_drewN ?_ _ | refine blk_drew ?_ | refine blk_alloc ?_ _)); exact BK185.out) hb); have n1_ := Aside0.mk (blk_below (g := gb191) (o := .cells #[.int .i64 0, .int .i64 t190, .int .i64 0, .int .i64 0] 72 (0, 0)) (by (with_reducible repeat (first | refine blk_drewN ?_ _ | refine blk_drew ?_ | refine blk_alloc ?_ _)); refine blk_put (cs := #[.int .i64 0, .int .i64 t190, .int .i64 0, .int .i64 0]) ?_ 3 _ rfl; (with_reducible repeat (first | refine blk_drewN ?_ _ | refine blk_drew ?_ | refine blk_alloc ?_ _)); refine blk_put (cs := #[.int .i64 0, .int .i64 t190, .int .i64 0, .int .i64 0]) ?_ 2 _ rfl; (with_reducible repeat (first | refine blk_drewN ?_ _ | refine blk_drew ?_ | refine blk_alloc ?_ _)); refine blk_put (cs := #[.int .i64 0, .int .i64 0, .int .i64 0, .int .i64 0]) ?_ 1 _ rfl; (with_reducible repeat (first | refine blk_drewN ?_ _ | refine blk_drew ?_ | refine blk_alloc ?_ _)); refine blk_put (cs := #[.int .i64 0, .int .i64 0, .int .i64 0, .int .i64 0]) ?_ 0 _ rfl; (with_reducible repeat (first | refine blk_drewN ?_ _ | refine blk_drew ?_ | refine blk_alloc ?_ _)); exact BK191.out) hb); have n2_ := Aside0.mk (below_step (by repeat (first | (with_reducible first | exact HB.out | apply below_alloc | apply pw_below_drewN | apply below_drew1 | refine below_set ?_ GE185.out | refine below_set ?_ GE191.out) | exact HB.out)) hb); clear BK185; clear BK191; clear HB; have BK185 := n0_; have BK191 := n1_; have HB := n2_; clear n0_ n1_ n2_; (try clear hb); (try clear hb2); (try clear hk); (try clear hi); have p194 : 0 ≤ (1 : Int) := (by omega); have q194 : 1 < (l0.length : Int) := of_decide_eq_true (by first | (with_reducible assumption) | assumption); obtain ⟨ad194, e194, hx194_0⟩ := Kd.at_string HR0.out 1 p194 q194; obtain rfl : ad186 = ad194 := (by injection e194); (try simp only [show (1 : Int).toNat = 1 from rfl, Nat.reduceMul, Nat.reduceEqDiff, Go.Addr.add, ↓reduceIte] at hx194_0); have qi194 : (1 < l0.length) = True := eq_true (by omega); (try rw [show ((1 : Int)).toNat = 1 from rfl] at hx194_0); replace hx194_0 := (HB.out.cell (World.block_lt_of_cell? w _ hx194_0)).trans hx194_0; replace p194 := eq_true p194; replace q194 := eq_true q194; have hcz41_0 : w40.cell? ⟨gb191, 0, none⟩ = some (.int .i64 0) := (blk_cell BK191.out 0).trans rfl; have hcz41_1 : w40.cell? ⟨gb191, 1, none⟩ = some (.int .i64 t190) := (blk_cell BK191.out 1).trans rfl; have hcz41_2 : w40.cell? ⟨gb191, 2, none⟩ = some (.int .i64 0) := (blk_cell BK191.out 2).trans rfl; have hcz41_3 : w40.cell? ⟨gb191, 3, none⟩ = some (.int .i64 0) := (blk_cell BK191.out 3).trans rfl; have hfz41_0 := blk_frozen BK191.out 0; have hfz41_1 := blk_frozen BK191.out 1; have hfz41_2 := blk_frozen BK191.out 2; have hfz41_3 := blk_frozen BK191.out 3; have hcz42_0 : w40.cell? ⟨gb185, 0, none⟩ = some (.int .i64 0) := (blk_cell BK185.out 0).trans rfl; have hcz42_1 : w40.cell? ⟨gb185, 1, none⟩ = some (.int .i64 0) := (blk_cell BK185.out 1).trans rfl; have hcz42_2 : w40.cell? ⟨gb185, 2, none⟩ = some (.int .i64 0) := (blk_cell BK185.out 2).trans rfl; have hcz42_3 : w40.cell? ⟨gb185, 3, none⟩ = some (.int .i64 0) := (blk_cell BK185.out 3).trans rfl; have hfz42_0 := blk_frozen BK185.out 0; have hfz42_1 := blk_frozen BK185.out 1; have hfz42_2 := blk_frozen BK185.out 2; have hfz42_3 := blk_frozen BK185.out 3))
         refine bodyPost_ret (results_cell_row rfl _ _ gb185 72 #[.int .i64 2, .int .i64 t190, .int .i64 t193, .int .i64 0] (0, 0) _ rfl (by (with_reducible repeat (first | refine blk_drewN ?_ _ | refine blk_drew ?_ | refine blk_alloc ?_ _)); refine blk_put (cs := #[.int .i64 2, .int .i64 t190, .int .i64 t193, .int .i64 0]) ?_ 3 _ rfl; (with_reducible repeat (first | refine blk_drewN ?_ _ | refine blk_drew ?_ | refine blk_alloc ?_ _)); refine blk_put (cs := #[.int .i64 2, .int .i64 t190, .int .i64 0, .int .i64 0]) ?_ 2 _ rfl; (with_reducible repeat (first | refine blk_drewN ?_ _ | refine blk_drew ?_ | refine blk_alloc ?_ _)); refine blk_put (cs := #[.int .i64 2, .int .i64 0, .int .i64 0, .int .i64 0]) ?_ 1 _ rfl; (with_reducible repeat (first | refine blk_drewN ?_ _ | refine blk_drew ?_ | refine blk_alloc ?_ _)); refine blk_put (cs := #[.int .i64 0, .int .i64 0, .int .i64 0, .int .i64 0]) ?_ 0 _ rfl; (with_reducible repeat (first | refine blk_drewN ?_ _ | refine blk_drew ?_ | refine blk_alloc ?_ _)); refine blk_far ?_ NB185_191.out _; (with_reducible repeat (first | refine blk_drewN ?_ _ | refine blk_drew ?_ | refine blk_alloc ?_ _)); refine blk_far ?_ NB185_191.out _; (with_reducible repeat (first | refine blk_drewN ?_ _ | refine blk_drew ?_ | refine blk_alloc ?_ _)); exact BK185.out) Tryd.underlying72 rfl (by kernel_rfl)) rfl ?_
         exact ⟨by first | rfl | (simp [errW_none, errW_some] <;> rfl) | (simp only [← hji13]; first | rfl | (simp [errW_none, errW_some] <;> rfl)) | (simp [*, errW_none, errW_some] <;> rfl), by repeat (first | (with_reducible first | exact HB.out | apply below_alloc | apply pw_below_drewN | apply below_drew1 | refine below_set ?_ GE185.out | refine below_set ?_ GE191.out) | exact HB.out)⟩
        ·rw [if_neg c34] at H
         have c34b0 : ((rdOf ByteArray.empty l0 1).toList == ([111, 117, 116] : List UInt8)) = false := beq_eq_false_iff_ne.mpr c34
         have c34b1 : ((rdOf ByteArray.empty l0 1).toList != ([111, 117, 116] : List UInt8)) = true := bne_iff_ne.mpr c34
         by_cases c43 : (rdOf ByteArray.empty l0 1).toList = ([98, 108, 111, 99, 107] : List UInt8)
         ·rw [if_pos c43] at H
          have c43b0 : ((rdOf ByteArray.empty l0 1).toList == ([98, 108, 111, 99, 107] : List UInt8)) = true := beq_iff_eq.mpr c43
          have c43b1 : ((rdOf ByteArray.empty l0 1).toList != ([98, 108, 111, 99, 107] : List UInt8)) = false := bne_eq_false_iff_eq.mpr c43
          clear c43
          by_cases c44 : (l0.length : Int) = 0
          ·rw [if_pos c44] at H
           exact absurd H (by simp)
          ·rw [if_neg c44] at H
           have c44b0 : ((l0.length : Int) == 0) = false := beq_eq_false_iff_ne.mpr c44
           have c44b1 : ((l0.length : Int) != 0) = true := bne_iff_ne.mpr c44
           have c44b2 : ¬ (l0 = []) := fun h_ => c44 (by rw [h_]; rfl)
           obtain ⟨ji45, hji45⟩ : ∃ j_ : Int, ((2 : Int) % (l0.length : Int)) = j_ := ⟨_, rfl⟩
           have htmji45 : Int.tmod (2 : Int) (l0.length : Int) = ji45 := (Int.tmod_eq_emod_of_nonneg (by omega)).trans hji45
           replace H : (if 0 ≤ (ji45) then (if (ji45) < (l0.length : Int) then ((op_Of.f k (rdOf ByteArray.empty l0 (ji45))).bind fun bt199 => (some (3, t190, bt199.1, 0))) else (none)) else (none)) = some (r1, r2, r3, r4) := by first | (rw [hji45] at H; exact H) | (simp only [hji45] at H ⊢; exact H)
           (try rw [hji45] at A12)
           (try rw [hji45] at A16)
           by_cases c46 : 0 ≤ (ji45)
           ·rw [if_pos c46] at H
            have c46b0 : decide (0 ≤ (ji45)) = true := decide_eq_true c46
            clear c46
            by_cases c47 : (ji45) < (l0.length : Int)
            ·rw [if_pos c47] at H
             have c47b0 : decide ((ji45) < (l0.length : Int)) = true := decide_eq_true c47
             clear c47
             replace H := Option.bind_eq_some_iff.mp H
             obtain ⟨⟨t199, t200⟩, A480, H⟩ := H
             replace H : (some (3, t190, t199, 0)) = some (r1, r2, r3, r4) := H
             have A48 := Aside0.mk A480
             clear A480
             simp only [Option.some.injEq, Prod.mk.injEq] at H
             obtain ⟨rfl, rfl, rfl, rfl⟩ := H
             go_enter Tryd.func97, Tryd.ntmps97
             go_wp2_with (first | ((with_reducible refine gate_dst (N := 2) rfl ?_); refine box_event ?hg (N := 2) ?hd (cs := #[.int .i64 0, .int .i64 0, .int .i64 0, .int .i64 0]) (t := 72) ?hr ?_; (case hd => rfl); (case hg => rfl); (case hr => first | (go_simp; done) | (go_simp; rfl)); intro gb185 hg w49 hbox hb; have n0_ := Aside0.mk (below_step (by repeat (first | (with_reducible first | exact HB.out | apply below_alloc | apply pw_below_drewN | apply below_drew1) | exact HB.out)) hb); have n1_ := Aside0.mk (hbox); have n2_ := Aside0.mk ((by rw [hg]; exact (below_size (by repeat (first | (with_reducible first | exact HB.out | apply below_alloc | apply pw_below_drewN | apply below_drew1) | exact HB.out))) : w.heap.size ≤ gb185)); have n3_ := Aside0.mk ((by rw [hg]; exact (below_size (by repeat (first | (with_reducible first | exact HB.out | apply below_alloc | apply pw_below_drewN | apply below_drew1) | exact HB.out))) : w.heap.size ≤ gb185)); clear HB; have HB := n0_; have BK185 := n1_; have GW185 := n2_; have GE185 := n3_; clear n0_ n1_ n2_ n3_; clear hb hbox hg; have p186 : 0 ≤ (0 : Int) := (by omega); have q186 : 0 < (l0.length : Int) := of_decide_eq_true (by first | (with_reducible assumption) | assumption); obtain ⟨ad186, e186, hx186_0⟩ := Kd.at_string HR0.out 0 p186 q186; cases e186; have qi186 : (0 < l0.length) = True := eq_true (by omega); (try rw [show ((0 : Int)).toNat = 0 from rfl] at hx186_0); (try rw [Addr.add_zero'] at hx186_0); replace hx186_0 := (HB.out.cell (World.block_lt_of_cell? w _ hx186_0)).trans hx186_0; replace p186 := eq_true p186; replace q186 := eq_true q186; have p189 : 0 ≤ (0 : Int) := (by omega); have q189 : 0 < (l0.length : Int) := of_decide_eq_true (by first | (with_reducible assumption) | assumption); obtain ⟨ad189, e189, hx189_0⟩ := Kd.at_string HR0.out 0 p189 q189; obtain rfl : ad186 = ad189 := (by injection e189); have qi189 : (0 < l0.length) = True := eq_true (by omega); (try rw [show ((0 : Int)).toNat = 0 from rfl] at hx189_0); (try rw [Addr.add_zero'] at hx189_0); replace hx189_0 := (HB.out.cell (World.block_lt_of_cell? w _ hx189_0)).trans hx189_0; replace p189 := eq_true p189; replace q189 := eq_true q189) | ((with_reducible refine gate_callee (f := 133) rfl ?_); refine goesL_ (some 21) rfl rfl Tryd.func133 (by kernel_rfl) rfl #[.string (rdOf ByteArray.empty l0 0)] rfl (by (try simp only [List.map_toArray, List.map_cons, List.map_nil]); first | done | rfl | (simp only [List.length_drop, List.length_take]; rfl)) ?_; (with_reducible refine (o_number.calls (rdOf ByteArray.empty l0 0) t190 _ A12.out ?side1).mono ?_); (case side1 => exact Gl.below HG.out (by repeat (first | (with_reducible first | exact HB.out | apply below_alloc | apply pw_below_drewN | apply below_drew1 | refine below_set ?_ GE185.out) | exact HB.out))); rintro e w50 ⟨rfl, hb⟩; refine ⟨_, rfl, ?_⟩; have n0_ := Aside0.mk (blk_below (g := gb185) (o := .cells #[.int .i64 0, .int .i64 0, .int .i64 0, .int .i64 0] 72 (0, 0)) (by (with_reducible repeat (first | refine blk_drewN ?_ _ | refine blk_drew ?_ | refine blk_alloc ?_ _)); exact BK185.out) hb); have n1_ := Aside0.mk (below_step (by repeat (first | (with_reducible first | exact HB.out | apply below_alloc | apply pw_below_drewN | apply below_drew1 | refine below_set ?_ GE185.out) | exact HB.out)) hb); clear BK185; clear HB; have BK185 := n0_; have HB := n1_; clear n0_ n1_; (try clear hb); (try clear hb2); (try clear hk); (try clear hi)) | ((with_reducible refine gate_dst (N := 3) rfl ?_); refine box_event ?hg (N := 3) ?hd (cs := #[.int .i64 0, .int .i64 0, .int .i64 0, .int .i64 0]) (t := 72) ?hr ?_; (case hd => rfl); (case hg => rfl); (case hr => first | (go_simp; done) | (go_simp; rfl)); intro gb191 hg w51 hbox hb; have n0_ := Aside0.mk (blk_below (g := gb185) (o := .cells #[.int .i64 0, .int .i64 0, .int .i64 0, .int .i64 0] 72 (0, 0)) (by (with_reducible repeat (first | refine blk_drewN ?_ _ | refine blk_drew ?_ | refine blk_alloc ?_ _)); exact BK185.out) hb); have n1_ := Aside0.mk (below_step (by repeat (first | (with_reducible first | exact HB.out | apply below_alloc | apply pw_below_drewN | apply below_drew1 | refine below_set ?_ GE185.out) | exact HB.out)) hb); have n2_ := Aside0.mk (hbox); have n3_ := Aside0.mk ((by rw [hg]; exact (below_size (by repeat (first | (with_reducible first | exact HB.out | apply below_alloc | apply pw_below_drewN | apply below_drew1 | refine below_set ?_ GE185.out) | exact HB.out))) : w.heap.size ≤ gb191)); have n4_ := Aside0.mk ((by rw [hg]; exact (below_size (by repeat (first | (with_reducible first | exact HB.out | apply below_alloc | apply pw_below_drewN | apply below_drew1 | refine below_set ?_ GE185.out) | exact HB.out))) : w.heap.size ≤ gb191)); have n5_ := Aside0.mk ((by rw [hg]; exact Nat.ne_of_lt (blk_lt (g := gb185) (o := .cells #[.int .i64 0, .int .i64 0, .int .i64 0, .int .i64 0] 72 (0, 0)) (by (with_reducible repeat (first | refine blk_drewN ?_ _ | refine blk_drew ?_ | refine blk_alloc ?_ _)); exact BK185.out)) : gb185 ≠ gb191)); have n6_ := Aside0.mk ((by rw [hg]; exact Nat.ne_of_gt (blk_lt (g := gb185) (o := .cells #[.int .i64 0, .int .i64 0, .int .i64 0, .int .i64 0] 72 (0, 0)) (by (with_reducible repeat (first | refine blk_drewN ?_ _ | refine blk_drew ?_ | refine blk_alloc ?_ _)); exact BK185.out)) : gb191 ≠ gb185)); clear BK185; clear HB; have BK185 := n0_; have HB := n1_; have BK191 := n2_; have GW191 := n3_; have GE191 := n4_; have NB185_191 := n5_; have NB191_185 := n6_; clear n0_ n1_ n2_ n3_ n4_ n5_ n6_; clear hb hbox hg; have hnb52 := NB191_185.out; have hnc52 := NB185_191.out; have hcz53_0 : w51.cell? ⟨gb191, 0, none⟩ = some (.int .i64 0) := (blk_cell BK191.out 0).trans rfl; have hcz53_1 : w51.cell? ⟨gb191, 1, none⟩ = some (.int .i64 0) := (blk_cell BK191.out 1).trans rfl; have hcz53_2 : w51.cell? ⟨gb191, 2, none⟩ = some (.int .i64 0) := (blk_cell BK191.out 2).trans rfl; have hcz53_3 : w51.cell? ⟨gb191, 3, none⟩ = some (.int .i64 0) := (blk_cell BK191.out 3).trans rfl; have hfz53_0 := blk_frozen BK191.out 0; have hfz53_1 := blk_frozen BK191.out 1; have hfz53_2 := blk_frozen BK191.out 2; have hfz53_3 := blk_frozen BK191.out 3; have p192 : 0 ≤ ((ji13) : Int) := of_decide_eq_true (by first | (with_reducible assumption) | assumption); have q192 : (ji13) < (l0.length : Int) := of_decide_eq_true (by first | (with_reducible assumption) | assumption); obtain ⟨ad192, e192, hx192_0⟩ := Kd.at_string HR0.out (ji13) p192 q192; obtain rfl : ad186 = ad192 := (by injection e192); have hn192_0 : ad186.block ≠ gb191 := Nat.ne_of_lt (Nat.lt_of_lt_of_le (by have := World.block_lt_of_cell? _ _ hx192_0; first | rwa [add_block] at this | exact this) GW191.out); have hn192_1 : ad186.block ≠ gb191 := Nat.ne_of_lt (Nat.lt_of_lt_of_le (by have := World.block_lt_of_cell? _ _ hx192_0; first | rwa [add_block] at this | exact this) GW191.out); have hn192_2 : ad186.block ≠ gb191 := Nat.ne_of_lt (Nat.lt_of_lt_of_le (by have := World.block_lt_of_cell? _ _ hx192_0; first | rwa [add_block] at this | exact this) GW191.out); have hn192_3 : ad186.block ≠ gb191 := Nat.ne_of_lt (Nat.lt_of_lt_of_le (by have := World.block_lt_of_cell? _ _ hx192_0; first | rwa [add_block] at this | exact this) GW191.out); replace hx192_0 := (HB.out.cell (World.block_lt_of_cell? w _ hx192_0)).trans hx192_0; replace hx192_0 := (cell_far (p := ⟨gb191, 0, none⟩) (by first | (rw [add_block]; exact hn192_0) | (show (Addr.add _ _).block ≠ _; rw [add_block]; exact hn192_0) | exact hn192_0) (.int .i64 0)).trans hx192_0; replace hx192_0 := (cell_far (p := ⟨gb191, 1, none⟩) (by first | (rw [add_block]; exact hn192_1) | (show (Addr.add _ _).block ≠ _; rw [add_block]; exact hn192_1) | exact hn192_1) (.int .i64 t190)).trans hx192_0; replace hx192_0 := (cell_far (p := ⟨gb191, 2, none⟩) (by first | (rw [add_block]; exact hn192_2) | (show (Addr.add _ _).block ≠ _; rw [add_block]; exact hn192_2) | exact hn192_2) (.int .i64 0)).trans hx192_0; replace hx192_0 := (cell_far (p := ⟨gb191, 3, none⟩) (by first | (rw [add_block]; exact hn192_3) | (show (Addr.add _ _).block ≠ _; rw [add_block]; exact hn192_3) | exact hn192_3) (.int .i64 0)).trans hx192_0; clear hn192_0; clear hn192_1; clear hn192_2; clear hn192_3; replace p192 := eq_true p192; replace q192 := eq_true q192) | ((with_reducible refine gate_callee (f := 133) rfl ?_); refine goesL_ (some 29) rfl rfl Tryd.func133 (by kernel_rfl) rfl #[.string (rdOf ByteArray.empty l0 (ji13))] rfl (by (try simp only [List.map_toArray, List.map_cons, List.map_nil]); first | done | (simp only [hji13]; rfl) | rfl | (simp only [List.length_drop, List.length_take]; rfl)) ?_; (with_reducible refine (o_number.calls (rdOf ByteArray.empty l0 (ji13)) t193 _ A16.out ?side1).mono ?_); (case side1 => exact Gl.below HG.out (by repeat (first | (with_reducible first | exact HB.out | apply below_alloc | apply pw_below_drewN | apply below_drew1 | refine below_set ?_ GE185.out | refine below_set ?_ GE191.out) | exact HB.out))); rintro e w54 ⟨rfl, hb⟩; refine ⟨_, rfl, ?_⟩; have n0_ := Aside0.mk (blk_below (g := gb185) (o := .cells #[.int .i64 0, .int .i64 0, .int .i64 0, .int .i64 0] 72 (0, 0)) (by (with_reducible repeat (first | refine blk_drewN ?_ _ | refine blk_drew ?_ | refine blk_alloc ?_ _)); refine blk_far ?_ NB185_191.out _; (with_reducible repeat (first | refine blk_drewN ?_ _ | refine blk_drew ?_ | refine blk_alloc ?_ _)); refine blk_far ?_ NB185_191.out _; (with_reducible repeat (first | refine blk_drewN ?_ _ | refine blk_drew ?_ | refine blk_alloc ?_ _)); refine blk_far ?_ NB185_191.out _; (with_reducible repeat (first | refine blk_drewN ?_ _ | refine blk_drew ?_ | refine blk_alloc ?_ _)); refine blk_far ?_ NB185_191.out _; (with_reducible repeat (first | refine blk_drewN ?_ _ | refine blk_drew ?_ | refine blk_alloc ?_ _)); exact BK185.out) hb); have n1_ := Aside0.mk (blk_below (g := gb191) (o := .cells #[.int .i64 0, .int .i64 t190, .int .i64 0, .int .i64 0] 72 (0, 0)) (by (with_reducible repeat (first | refine blk_drewN ?_ _ | refine blk_drew ?_ | refine blk_alloc ?_ _)); refine blk_put (cs := #[.int .i64 0, .int .i64 t190, .int .i64 0, .int .i64 0]) ?_ 3 _ rfl; (with_reducible repeat (first | refine blk_drewN ?_ _ | refine blk_drew ?_ | refine blk_alloc ?_ _)); refine blk_put (cs := #[.int .i64 0, .int .i64 t190, .int .i64 0, .int .i64 0]) ?_ 2 _ rfl; (with_reducible repeat (first | refine blk_drewN ?_ _ | refine blk_drew ?_ | refine blk_alloc ?_ _)); refine blk_put (cs := #[.int .i64 0, .int .i64 0, .int .i64 0, .int .i64 0]) ?_ 1 _ rfl; (with_reducible repeat (first | refine blk_drewN ?_ _ | refine blk_drew ?_ | refine blk_alloc ?_ _)); refine blk_put (cs := #[.int .i64 0, .int .i64 0, .int .i64 0, .int .i64 0]) ?_ 0 _ rfl; (with_reducible repeat (first | refine blk_drewN ?_ _ | refine blk_drew ?_ | refine blk_alloc ?_ _)); exact BK191.out) hb); have n2_ := Aside0.mk (below_step (by repeat (first | (with_reducible first | exact HB.out | apply below_alloc | apply pw_below_drewN | apply below_drew1 | refine below_set ?_ GE185.out | refine below_set ?_ GE191.out) | exact HB.out)) hb); clear BK185; clear BK191; clear HB; have BK185 := n0_; have BK191 := n1_; have HB := n2_; clear n0_ n1_ n2_; (try clear hb); (try clear hb2); (try clear hk); (try clear hi); have p194 : 0 ≤ (1 : Int) := (by omega); have q194 : 1 < (l0.length : Int) := of_decide_eq_true (by first | (with_reducible assumption) | assumption); obtain ⟨ad194, e194, hx194_0⟩ := Kd.at_string HR0.out 1 p194 q194; obtain rfl : ad186 = ad194 := (by injection e194); (try simp only [show (1 : Int).toNat = 1 from rfl, Nat.reduceMul, Nat.reduceEqDiff, Go.Addr.add, ↓reduceIte] at hx194_0); have qi194 : (1 < l0.length) = True := eq_true (by omega); (try rw [show ((1 : Int)).toNat = 1 from rfl] at hx194_0); replace hx194_0 := (HB.out.cell (World.block_lt_of_cell? w _ hx194_0)).trans hx194_0; replace p194 := eq_true p194; replace q194 := eq_true q194; have hcz55_0 : w54.cell? ⟨gb191, 0, none⟩ = some (.int .i64 0) := (blk_cell BK191.out 0).trans rfl; have hcz55_1 : w54.cell? ⟨gb191, 1, none⟩ = some (.int .i64 t190) := (blk_cell BK191.out 1).trans rfl; have hcz55_2 : w54.cell? ⟨gb191, 2, none⟩ = some (.int .i64 0) := (blk_cell BK191.out 2).trans rfl; have hcz55_3 : w54.cell? ⟨gb191, 3, none⟩ = some (.int .i64 0) := (blk_cell BK191.out 3).trans rfl; have hfz55_0 := blk_frozen BK191.out 0; have hfz55_1 := blk_frozen BK191.out 1; have hfz55_2 := blk_frozen BK191.out 2; have hfz55_3 := blk_frozen BK191.out 3; have p198 : 0 ≤ ((ji45) : Int) := of_decide_eq_true (by first | (with_reducible assumption) | assumption); have q198 : (ji45) < (l0.length : Int) := of_decide_eq_true (by first | (with_reducible assumption) | assumption); obtain ⟨ad198, e198, hx198_0⟩ := Kd.at_string HR0.out (ji45) p198 q198; obtain rfl : ad186 = ad198 := (by injection e198); have hn198_0 : ad186.block ≠ gb191 := Nat.ne_of_lt (Nat.lt_of_lt_of_le (by have := World.block_lt_of_cell? _ _ hx198_0; first | rwa [add_block] at this | exact this) GW191.out); replace hx198_0 := (HB.out.cell (World.block_lt_of_cell? w _ hx198_0)).trans hx198_0; replace hx198_0 := (cell_far (p := ⟨gb191, 0, none⟩) (by first | (rw [add_block]; exact hn198_0) | (show (Addr.add _ _).block ≠ _; rw [add_block]; exact hn198_0) | exact hn198_0) (.int .i64 3)).trans hx198_0; clear hn198_0; replace p198 := eq_true p198; replace q198 := eq_true q198) | ((with_reducible refine gate_callee (f := 134) rfl ?_); refine goesL_ (some 64) rfl rfl Tryd.func134 (by kernel_rfl) rfl #[.string (rdOf ByteArray.empty l0 (ji45))] rfl (by (try simp only [List.map_toArray, List.map_cons, List.map_nil]); first | done | (simp only [hji45]; rfl) | rfl | (simp only [List.length_drop, List.length_take]; rfl)) ?_; (with_reducible refine (op_Of.calls k (rdOf ByteArray.empty l0 (ji45)) t199 t200 _ A48.out ?side1).mono ?_); (case side1 => exact Gl.below HG.out (by repeat (first | (with_reducible first | exact HB.out | apply below_alloc | apply pw_below_drewN | apply below_drew1 | refine below_set ?_ GE185.out | refine below_set ?_ GE191.out) | exact HB.out))); rintro e w56 ⟨rfl, hb⟩; refine ⟨_, rfl, ?_⟩; have n0_ := Aside0.mk (blk_below (g := gb185) (o := .cells #[.int .i64 0, .int .i64 0, .int .i64 0, .int .i64 0] 72 (0, 0)) (by (with_reducible repeat (first | refine blk_drewN ?_ _ | refine blk_drew ?_ | refine blk_alloc ?_ _)); refine blk_far ?_ NB185_191.out _; (with_reducible repeat (first | refine blk_drewN ?_ _ | refine blk_drew ?_ | refine blk_alloc ?_ _)); exact BK185.out) hb); have n1_ := Aside0.mk (blk_below (g := gb191) (o := .cells #[.int .i64 3, .int .i64 t190, .int .i64 0, .int .i64 0] 72 (0, 0)) (by (with_reducible repeat (first | refine blk_drewN ?_ _ | refine blk_drew ?_ | refine blk_alloc ?_ _)); refine blk_put (cs := #[.int .i64 0, .int .i64 t190, .int .i64 0, .int .i64 0]) ?_ 0 _ rfl; (with_reducible repeat (first | refine blk_drewN ?_ _ | refine blk_drew ?_ | refine blk_alloc ?_ _)); exact BK191.out) hb); have n2_ := Aside0.mk (below_step (by repeat (first | (with_reducible first | exact HB.out | apply below_alloc | apply pw_below_drewN | apply below_drew1 | refine below_set ?_ GE185.out | refine below_set ?_ GE191.out) | exact HB.out)) hb); clear BK185; clear BK191; clear HB; have BK185 := n0_; have BK191 := n1_; have HB := n2_; clear n0_ n1_ n2_; (try clear hb); (try clear hb2); (try clear hk); (try clear hi); have hcz57_0 : w56.cell? ⟨gb191, 0, none⟩ = some (.int .i64 3) := (blk_cell BK191.out 0).trans rfl; have hcz57_1 : w56.cell? ⟨gb191, 1, none⟩ = some (.int .i64 t190) := (blk_cell BK191.out 1).trans rfl; have hcz57_2 : w56.cell? ⟨gb191, 2, none⟩ = some (.int .i64 0) := (blk_cell BK191.out 2).trans rfl; have hcz57_3 : w56.cell? ⟨gb191, 3, none⟩ = some (.int .i64 0) := (blk_cell BK191.out 3).trans rfl; have hfz57_0 := blk_frozen BK191.out 0; have hfz57_1 := blk_frozen BK191.out 1; have hfz57_2 := blk_frozen BK191.out 2; have hfz57_3 := blk_frozen BK191.out 3; have hcz58_0 : w56.cell? ⟨gb185, 0, none⟩ = some (.int .i64 0) := (blk_cell BK185.out 0).trans rfl; have hcz58_1 : w56.cell? ⟨gb185, 1, none⟩ = some (.int .i64 0) := (blk_cell BK185.out 1).trans rfl; have hcz58_2 : w56.cell? ⟨gb185, 2, none⟩ = some (.int .i64 0) := (blk_cell BK185.out 2).trans rfl; have hcz58_3 : w56.cell? ⟨gb185, 3, none⟩ = some (.int .i64 0) := (blk_cell BK185.out 3).trans rfl; have hfz58_0 := blk_frozen BK185.out 0; have hfz58_1 := blk_frozen BK185.out 1; have hfz58_2 := blk_frozen BK185.out 2; have hfz58_3 := blk_frozen BK185.out 3))
             refine bodyPost_ret (results_cell_row rfl _ _ gb185 72 #[.int .i64 3, .int .i64 t190, .int .i64 t199, .int .i64 0] (0, 0) _ rfl (by (with_reducible repeat (first | refine blk_drewN ?_ _ | refine blk_drew ?_ | refine blk_alloc ?_ _)); refine blk_put (cs := #[.int .i64 3, .int .i64 t190, .int .i64 t199, .int .i64 0]) ?_ 3 _ rfl; (with_reducible repeat (first | refine blk_drewN ?_ _ | refine blk_drew ?_ | refine blk_alloc ?_ _)); refine blk_put (cs := #[.int .i64 3, .int .i64 t190, .int .i64 0, .int .i64 0]) ?_ 2 _ rfl; (with_reducible repeat (first | refine blk_drewN ?_ _ | refine blk_drew ?_ | refine blk_alloc ?_ _)); refine blk_put (cs := #[.int .i64 3, .int .i64 0, .int .i64 0, .int .i64 0]) ?_ 1 _ rfl; (with_reducible repeat (first | refine blk_drewN ?_ _ | refine blk_drew ?_ | refine blk_alloc ?_ _)); refine blk_put (cs := #[.int .i64 0, .int .i64 0, .int .i64 0, .int .i64 0]) ?_ 0 _ rfl; (with_reducible repeat (first | refine blk_drewN ?_ _ | refine blk_drew ?_ | refine blk_alloc ?_ _)); refine blk_far ?_ NB185_191.out _; (with_reducible repeat (first | refine blk_drewN ?_ _ | refine blk_drew ?_ | refine blk_alloc ?_ _)); exact BK185.out) Tryd.underlying72 rfl (by kernel_rfl)) rfl ?_
             exact ⟨by first | rfl | (simp [errW_none, errW_some] <;> rfl) | (simp only [← hji13, ← hji45]; first | rfl | (simp [errW_none, errW_some] <;> rfl)) | (simp [*, errW_none, errW_some] <;> rfl), by repeat (first | (with_reducible first | exact HB.out | apply below_alloc | apply pw_below_drewN | apply below_drew1 | refine below_set ?_ GE185.out | refine below_set ?_ GE191.out) | exact HB.out)⟩
            ·rw [if_neg c47] at H
             exact absurd H (by simp)
           ·rw [if_neg c46] at H
            exact absurd H (by simp)
         ·rw [if_neg c43] at H
          have c43b0 : ((rdOf ByteArray.empty l0 1).toList == ([98, 108, 111, 99, 107] : List UInt8)) = false := beq_eq_false_iff_ne.mpr c43
          have c43b1 : ((rdOf ByteArray.empty l0 1).toList != ([98, 108, 111, 99, 107] : List UInt8)) = true := bne_iff_ne.mpr c43
          by_cases c59 : (rdOf ByteArray.empty l0 1).toList = ([119, 97, 107, 101] : List UInt8)
          ·rw [if_pos c59] at H
           have c59b0 : ((rdOf ByteArray.empty l0 1).toList == ([119, 97, 107, 101] : List UInt8)) = true := beq_iff_eq.mpr c59
           have c59b1 : ((rdOf ByteArray.empty l0 1).toList != ([119, 97, 107, 101] : List UInt8)) = false := bne_eq_false_iff_eq.mpr c59
           clear c59
           simp only [Option.some.injEq, Prod.mk.injEq] at H
           obtain ⟨rfl, rfl, rfl, rfl⟩ := H
           go_enter Tryd.func97, Tryd.ntmps97
           go_wp2_with (first | ((with_reducible refine gate_dst (N := 2) rfl ?_); refine box_event ?hg (N := 2) ?hd (cs := #[.int .i64 0, .int .i64 0, .int .i64 0, .int .i64 0]) (t := 72) ?hr ?_; (case hd => rfl); (case hg => rfl); (case hr => first | (go_simp; done) | (go_simp; rfl)); intro gb185 hg w60 hbox hb; have n0_ := Aside0.mk (below_step (by repeat (first | (with_reducible first | exact HB.out | apply below_alloc | apply pw_below_drewN | apply below_drew1) | exact HB.out)) hb); have n1_ := Aside0.mk (hbox); have n2_ := Aside0.mk ((by rw [hg]; exact (below_size (by repeat (first | (with_reducible first | exact HB.out | apply below_alloc | apply pw_below_drewN | apply below_drew1) | exact HB.out))) : w.heap.size ≤ gb185)); have n3_ := Aside0.mk ((by rw [hg]; exact (below_size (by repeat (first | (with_reducible first | exact HB.out | apply below_alloc | apply pw_below_drewN | apply below_drew1) | exact HB.out))) : w.heap.size ≤ gb185)); clear HB; have HB := n0_; have BK185 := n1_; have GW185 := n2_; have GE185 := n3_; clear n0_ n1_ n2_ n3_; clear hb hbox hg; have p186 : 0 ≤ (0 : Int) := (by omega); have q186 : 0 < (l0.length : Int) := of_decide_eq_true (by first | (with_reducible assumption) | assumption); obtain ⟨ad186, e186, hx186_0⟩ := Kd.at_string HR0.out 0 p186 q186; cases e186; have qi186 : (0 < l0.length) = True := eq_true (by omega); (try rw [show ((0 : Int)).toNat = 0 from rfl] at hx186_0); (try rw [Addr.add_zero'] at hx186_0); replace hx186_0 := (HB.out.cell (World.block_lt_of_cell? w _ hx186_0)).trans hx186_0; replace p186 := eq_true p186; replace q186 := eq_true q186; have p189 : 0 ≤ (0 : Int) := (by omega); have q189 : 0 < (l0.length : Int) := of_decide_eq_true (by first | (with_reducible assumption) | assumption); obtain ⟨ad189, e189, hx189_0⟩ := Kd.at_string HR0.out 0 p189 q189; obtain rfl : ad186 = ad189 := (by injection e189); have qi189 : (0 < l0.length) = True := eq_true (by omega); (try rw [show ((0 : Int)).toNat = 0 from rfl] at hx189_0); (try rw [Addr.add_zero'] at hx189_0); replace hx189_0 := (HB.out.cell (World.block_lt_of_cell? w _ hx189_0)).trans hx189_0; replace p189 := eq_true p189; replace q189 := eq_true q189) | ((with_reducible refine gate_callee (f := 133) rfl ?_); refine goesL_ (some 21) rfl rfl Tryd.func133 (by kernel_rfl) rfl #[.string (rdOf ByteArray.empty l0 0)] rfl (by (try simp only [List.map_toArray, List.map_cons, List.map_nil]); first | done | rfl | (simp only [List.length_drop, List.length_take]; rfl)) ?_; (with_reducible refine (o_number.calls (rdOf ByteArray.empty l0 0) t190 _ A12.out ?side1).mono ?_); (case side1 => exact Gl.below HG.out (by repeat (first | (with_reducible first | exact HB.out | apply below_alloc | apply pw_below_drewN | apply below_drew1 | refine below_set ?_ GE185.out) | exact HB.out))); rintro e w61 ⟨rfl, hb⟩; refine ⟨_, rfl, ?_⟩; have n0_ := Aside0.mk (blk_below (g := gb185) (o := .cells #[.int .i64 0, .int .i64 0, .int .i64 0, .int .i64 0] 72 (0, 0)) (by (with_reducible repeat (first | refine blk_drewN ?_ _ | refine blk_drew ?_ | refine blk_alloc ?_ _)); exact BK185.out) hb); have n1_ := Aside0.mk (below_step (by repeat (first | (with_reducible first | exact HB.out | apply below_alloc | apply pw_below_drewN | apply below_drew1 | refine below_set ?_ GE185.out) | exact HB.out)) hb); clear BK185; clear HB; have BK185 := n0_; have HB := n1_; clear n0_ n1_; (try clear hb); (try clear hb2); (try clear hk); (try clear hi)) | ((with_reducible refine gate_dst (N := 3) rfl ?_); refine box_event ?hg (N := 3) ?hd (cs := #[.int .i64 0, .int .i64 0, .int .i64 0, .int .i64 0]) (t := 72) ?hr ?_; (case hd => rfl); (case hg => rfl); (case hr => first | (go_simp; done) | (go_simp; rfl)); intro gb191 hg w62 hbox hb; have n0_ := Aside0.mk (blk_below (g := gb185) (o := .cells #[.int .i64 0, .int .i64 0, .int .i64 0, .int .i64 0] 72 (0, 0)) (by (with_reducible repeat (first | refine blk_drewN ?_ _ | refine blk_drew ?_ | refine blk_alloc ?_ _)); exact BK185.out) hb); have n1_ := Aside0.mk (below_step (by repeat (first | (with_reducible first | exact HB.out | apply below_alloc | apply pw_below_drewN | apply below_drew1 | refine below_set ?_ GE185.out) | exact HB.out)) hb); have n2_ := Aside0.mk (hbox); have n3_ := Aside0.mk ((by rw [hg]; exact (below_size (by repeat (first | (with_reducible first | exact HB.out | apply below_alloc | apply pw_below_drewN | apply below_drew1 | refine below_set ?_ GE185.out) | exact HB.out))) : w.heap.size ≤ gb191)); have n4_ := Aside0.mk ((by rw [hg]; exact (below_size (by repeat (first | (with_reducible first | exact HB.out | apply below_alloc | apply pw_below_drewN | apply below_drew1 | refine below_set ?_ GE185.out) | exact HB.out))) : w.heap.size ≤ gb191)); have n5_ := Aside0.mk ((by rw [hg]; exact Nat.ne_of_lt (blk_lt (g := gb185) (o := .cells #[.int .i64 0, .int .i64 0, .int .i64 0, .int .i64 0] 72 (0, 0)) (by (with_reducible repeat (first | refine blk_drewN ?_ _ | refine blk_drew ?_ | refine blk_alloc ?_ _)); exact BK185.out)) : gb185 ≠ gb191)); have n6_ := Aside0.mk ((by rw [hg]; exact Nat.ne_of_gt (blk_lt (g := gb185) (o := .cells #[.int .i64 0, .int .i64 0, .int .i64 0, .int .i64 0] 72 (0, 0)) (by (with_reducible repeat (first | refine blk_drewN ?_ _ | refine blk_drew ?_ | refine blk_alloc ?_ _)); exact BK185.out)) : gb191 ≠ gb185)); clear BK185; clear HB; have BK185 := n0_; have HB := n1_; have BK191 := n2_; have GW191 := n3_; have GE191 := n4_; have NB185_191 := n5_; have NB191_185 := n6_; clear n0_ n1_ n2_ n3_ n4_ n5_ n6_; clear hb hbox hg; have hnb63 := NB191_185.out; have hnc63 := NB185_191.out; have hcz64_0 : w62.cell? ⟨gb191, 0, none⟩ = some (.int .i64 0) := (blk_cell BK191.out 0).trans rfl; have hcz64_1 : w62.cell? ⟨gb191, 1, none⟩ = some (.int .i64 0) := (blk_cell BK191.out 1).trans rfl; have hcz64_2 : w62.cell? ⟨gb191, 2, none⟩ = some (.int .i64 0) := (blk_cell BK191.out 2).trans rfl; have hcz64_3 : w62.cell? ⟨gb191, 3, none⟩ = some (.int .i64 0) := (blk_cell BK191.out 3).trans rfl; have hfz64_0 := blk_frozen BK191.out 0; have hfz64_1 := blk_frozen BK191.out 1; have hfz64_2 := blk_frozen BK191.out 2; have hfz64_3 := blk_frozen BK191.out 3; have p192 : 0 ≤ ((ji13) : Int) := of_decide_eq_true (by first | (with_reducible assumption) | assumption); have q192 : (ji13) < (l0.length : Int) := of_decide_eq_true (by first | (with_reducible assumption) | assumption); obtain ⟨ad192, e192, hx192_0⟩ := Kd.at_string HR0.out (ji13) p192 q192; obtain rfl : ad186 = ad192 := (by injection e192); have hn192_0 : ad186.block ≠ gb191 := Nat.ne_of_lt (Nat.lt_of_lt_of_le (by have := World.block_lt_of_cell? _ _ hx192_0; first | rwa [add_block] at this | exact this) GW191.out); have hn192_1 : ad186.block ≠ gb191 := Nat.ne_of_lt (Nat.lt_of_lt_of_le (by have := World.block_lt_of_cell? _ _ hx192_0; first | rwa [add_block] at this | exact this) GW191.out); have hn192_2 : ad186.block ≠ gb191 := Nat.ne_of_lt (Nat.lt_of_lt_of_le (by have := World.block_lt_of_cell? _ _ hx192_0; first | rwa [add_block] at this | exact this) GW191.out); have hn192_3 : ad186.block ≠ gb191 := Nat.ne_of_lt (Nat.lt_of_lt_of_le (by have := World.block_lt_of_cell? _ _ hx192_0; first | rwa [add_block] at this | exact this) GW191.out); replace hx192_0 := (HB.out.cell (World.block_lt_of_cell? w _ hx192_0)).trans hx192_0; replace hx192_0 := (cell_far (p := ⟨gb191, 0, none⟩) (by first | (rw [add_block]; exact hn192_0) | (show (Addr.add _ _).block ≠ _; rw [add_block]; exact hn192_0) | exact hn192_0) (.int .i64 0)).trans hx192_0; replace hx192_0 := (cell_far (p := ⟨gb191, 1, none⟩) (by first | (rw [add_block]; exact hn192_1) | (show (Addr.add _ _).block ≠ _; rw [add_block]; exact hn192_1) | exact hn192_1) (.int .i64 t190)).trans hx192_0; replace hx192_0 := (cell_far (p := ⟨gb191, 2, none⟩) (by first | (rw [add_block]; exact hn192_2) | (show (Addr.add _ _).block ≠ _; rw [add_block]; exact hn192_2) | exact hn192_2) (.int .i64 0)).trans hx192_0; replace hx192_0 := (cell_far (p := ⟨gb191, 3, none⟩) (by first | (rw [add_block]; exact hn192_3) | (show (Addr.add _ _).block ≠ _; rw [add_block]; exact hn192_3) | exact hn192_3) (.int .i64 0)).trans hx192_0; clear hn192_0; clear hn192_1; clear hn192_2; clear hn192_3; replace p192 := eq_true p192; replace q192 := eq_true q192) | ((with_reducible refine gate_callee (f := 133) rfl ?_); refine goesL_ (some 29) rfl rfl Tryd.func133 (by kernel_rfl) rfl #[.string (rdOf ByteArray.empty l0 (ji13))] rfl (by (try simp only [List.map_toArray, List.map_cons, List.map_nil]); first | done | (simp only [hji13]; rfl) | rfl | (simp only [List.length_drop, List.length_take]; rfl)) ?_; (with_reducible refine (o_number.calls (rdOf ByteArray.empty l0 (ji13)) t193 _ A16.out ?side1).mono ?_); (case side1 => exact Gl.below HG.out (by repeat (first | (with_reducible first | exact HB.out | apply below_alloc | apply pw_below_drewN | apply below_drew1 | refine below_set ?_ GE185.out | refine below_set ?_ GE191.out) | exact HB.out))); rintro e w65 ⟨rfl, hb⟩; refine ⟨_, rfl, ?_⟩; have n0_ := Aside0.mk (blk_below (g := gb185) (o := .cells #[.int .i64 0, .int .i64 0, .int .i64 0, .int .i64 0] 72 (0, 0)) (by (with_reducible repeat (first | refine blk_drewN ?_ _ | refine blk_drew ?_ | refine blk_alloc ?_ _)); refine blk_far ?_ NB185_191.out _; (with_reducible repeat (first | refine blk_drewN ?_ _ | refine blk_drew ?_ | refine blk_alloc ?_ _)); refine blk_far ?_ NB185_191.out _; (with_reducible repeat (first | refine blk_drewN ?_ _ | refine blk_drew ?_ | refine blk_alloc ?_ _)); refine blk_far ?_ NB185_191.out _; (with_reducible repeat (first | refine blk_drewN ?_ _ | refine blk_drew ?_ | refine blk_alloc ?_ _)); refine blk_far ?_ NB185_191.out _; (with_reducible repeat (first | refine blk_drewN ?_ _ | refine blk_drew ?_ | refine blk_alloc ?_ _)); exact BK185.out) hb); have n1_ := Aside0.mk (blk_below (g := gb191) (o := .cells #[.int .i64 0, .int .i64 t190, .int .i64 0, .int .i64 0] 72 (0, 0)) (by (with_reducible repeat (first | refine blk_drewN ?_ _ | refine blk_drew ?_ | refine blk_alloc ?_ _)); refine blk_put (cs := #[.int .i64 0, .int .i64 t190, .int .i64 0, .int .i64 0]) ?_ 3 _ rfl; (with_reducible repeat (first | refine blk_drewN ?_ _ | refine blk_drew ?_ | refine blk_alloc ?_ _)); refine blk_put (cs := #[.int .i64 0, .int .i64 t190, .int .i64 0, .int .i64 0]) ?_ 2 _ rfl; (with_reducible repeat (first | refine blk_drewN ?_ _ | refine blk_drew ?_ | refine blk_alloc ?_ _)); refine blk_put (cs := #[.int .i64 0, .int .i64 0, .int .i64 0, .int .i64 0]) ?_ 1 _ rfl; (with_reducible repeat (first | refine blk_drewN ?_ _ | refine blk_drew ?_ | refine blk_alloc ?_ _)); refine blk_put (cs := #[.int .i64 0, .int .i64 0, .int .i64 0, .int .i64 0]) ?_ 0 _ rfl; (with_reducible repeat (first | refine blk_drewN ?_ _ | refine blk_drew ?_ | refine blk_alloc ?_ _)); exact BK191.out) hb); have n2_ := Aside0.mk (below_step (by repeat (first | (with_reducible first | exact HB.out | apply below_alloc | apply pw_below_drewN | apply below_drew1 | refine below_set ?_ GE185.out | refine below_set ?_ GE191.out) | exact HB.out)) hb); clear BK185; clear BK191; clear HB; have BK185 := n0_; have BK191 := n1_; have HB := n2_; clear n0_ n1_ n2_; (try clear hb); (try clear hb2); (try clear hk); (try clear hi); have p194 : 0 ≤ (1 : Int) := (by omega); have q194 : 1 < (l0.length : Int) := of_decide_eq_true (by first | (with_reducible assumption) | assumption); obtain ⟨ad194, e194, hx194_0⟩ := Kd.at_string HR0.out 1 p194 q194; obtain rfl : ad186 = ad194 := (by injection e194); (try simp only [show (1 : Int).toNat = 1 from rfl, Nat.reduceMul, Nat.reduceEqDiff, Go.Addr.add, ↓reduceIte] at hx194_0); have qi194 : (1 < l0.length) = True := eq_true (by omega); (try rw [show ((1 : Int)).toNat = 1 from rfl] at hx194_0); replace hx194_0 := (HB.out.cell (World.block_lt_of_cell? w _ hx194_0)).trans hx194_0; replace p194 := eq_true p194; replace q194 := eq_true q194; have hcz66_0 : w65.cell? ⟨gb191, 0, none⟩ = some (.int .i64 0) := (blk_cell BK191.out 0).trans rfl; have hcz66_1 : w65.cell? ⟨gb191, 1, none⟩ = some (.int .i64 t190) := (blk_cell BK191.out 1).trans rfl; have hcz66_2 : w65.cell? ⟨gb191, 2, none⟩ = some (.int .i64 0) := (blk_cell BK191.out 2).trans rfl; have hcz66_3 : w65.cell? ⟨gb191, 3, none⟩ = some (.int .i64 0) := (blk_cell BK191.out 3).trans rfl; have hfz66_0 := blk_frozen BK191.out 0; have hfz66_1 := blk_frozen BK191.out 1; have hfz66_2 := blk_frozen BK191.out 2; have hfz66_3 := blk_frozen BK191.out 3; have hcz67_0 : w65.cell? ⟨gb185, 0, none⟩ = some (.int .i64 0) := (blk_cell BK185.out 0).trans rfl; have hcz67_1 : w65.cell? ⟨gb185, 1, none⟩ = some (.int .i64 0) := (blk_cell BK185.out 1).trans rfl; have hcz67_2 : w65.cell? ⟨gb185, 2, none⟩ = some (.int .i64 0) := (blk_cell BK185.out 2).trans rfl; have hcz67_3 : w65.cell? ⟨gb185, 3, none⟩ = some (.int .i64 0) := (blk_cell BK185.out 3).trans rfl; have hfz67_0 := blk_frozen BK185.out 0; have hfz67_1 := blk_frozen BK185.out 1; have hfz67_2 := blk_frozen BK185.out 2; have hfz67_3 := blk_frozen BK185.out 3))
           refine bodyPost_ret (results_cell_row rfl _ _ gb185 72 #[.int .i64 4, .int .i64 t190, .int .i64 t193, .int .i64 0] (0, 0) _ rfl (by (with_reducible repeat (first | refine blk_drewN ?_ _ | refine blk_drew ?_ | refine blk_alloc ?_ _)); refine blk_put (cs := #[.int .i64 4, .int .i64 t190, .int .i64 t193, .int .i64 0]) ?_ 3 _ rfl; (with_reducible repeat (first | refine blk_drewN ?_ _ | refine blk_drew ?_ | refine blk_alloc ?_ _)); refine blk_put (cs := #[.int .i64 4, .int .i64 t190, .int .i64 0, .int .i64 0]) ?_ 2 _ rfl; (with_reducible repeat (first | refine blk_drewN ?_ _ | refine blk_drew ?_ | refine blk_alloc ?_ _)); refine blk_put (cs := #[.int .i64 4, .int .i64 0, .int .i64 0, .int .i64 0]) ?_ 1 _ rfl; (with_reducible repeat (first | refine blk_drewN ?_ _ | refine blk_drew ?_ | refine blk_alloc ?_ _)); refine blk_put (cs := #[.int .i64 0, .int .i64 0, .int .i64 0, .int .i64 0]) ?_ 0 _ rfl; (with_reducible repeat (first | refine blk_drewN ?_ _ | refine blk_drew ?_ | refine blk_alloc ?_ _)); refine blk_far ?_ NB185_191.out _; (with_reducible repeat (first | refine blk_drewN ?_ _ | refine blk_drew ?_ | refine blk_alloc ?_ _)); refine blk_far ?_ NB185_191.out _; (with_reducible repeat (first | refine blk_drewN ?_ _ | refine blk_drew ?_ | refine blk_alloc ?_ _)); exact BK185.out) Tryd.underlying72 rfl (by kernel_rfl)) rfl ?_
           exact ⟨by first | rfl | (simp [errW_none, errW_some] <;> rfl) | (simp only [← hji13]; first | rfl | (simp [errW_none, errW_some] <;> rfl)) | (simp [*, errW_none, errW_some] <;> rfl), by repeat (first | (with_reducible first | exact HB.out | apply below_alloc | apply pw_below_drewN | apply below_drew1 | refine below_set ?_ GE185.out | refine below_set ?_ GE191.out) | exact HB.out)⟩
          ·rw [if_neg c59] at H
           have c59b0 : ((rdOf ByteArray.empty l0 1).toList == ([119, 97, 107, 101] : List UInt8)) = false := beq_eq_false_iff_ne.mpr c59
           have c59b1 : ((rdOf ByteArray.empty l0 1).toList != ([119, 97, 107, 101] : List UInt8)) = true := bne_iff_ne.mpr c59
           by_cases c68 : (rdOf ByteArray.empty l0 1).toList = ([101, 110, 100] : List UInt8)
           ·rw [if_pos c68] at H
            have c68b0 : ((rdOf ByteArray.empty l0 1).toList == ([101, 110, 100] : List UInt8)) = true := beq_iff_eq.mpr c68
            have c68b1 : ((rdOf ByteArray.empty l0 1).toList != ([101, 110, 100] : List UInt8)) = false := bne_eq_false_iff_eq.mpr c68
            clear c68
            replace H := Option.bind_eq_some_iff.mp H
            obtain ⟨t201, A690, H⟩ := H
            replace H : (if (l0.length : Int) = 0 then (none) else (if 0 ≤ ((2 : Int) % (l0.length : Int)) then (if ((2 : Int) % (l0.length : Int)) < (l0.length : Int) then ((slices_Index_string_string.f k t201 (rdOf ByteArray.empty l0 ((2 : Int) % (l0.length : Int)))).bind fun t205 => (some (5, t190, t205, t193))) else (none)) else (none))) = some (r1, r2, r3, r4) := H
            have A69 := Aside0.mk A690
            clear A690
            by_cases c70 : (l0.length : Int) = 0
            ·rw [if_pos c70] at H
             exact absurd H (by simp)
            ·rw [if_neg c70] at H
             have c70b0 : ((l0.length : Int) == 0) = false := beq_eq_false_iff_ne.mpr c70
             have c70b1 : ((l0.length : Int) != 0) = true := bne_iff_ne.mpr c70
             have c70b2 : ¬ (l0 = []) := fun h_ => c70 (by rw [h_]; rfl)
             obtain ⟨ji71, hji71⟩ : ∃ j_ : Int, ((2 : Int) % (l0.length : Int)) = j_ := ⟨_, rfl⟩
             have htmji71 : Int.tmod (2 : Int) (l0.length : Int) = ji71 := (Int.tmod_eq_emod_of_nonneg (by omega)).trans hji71
             replace H : (if 0 ≤ (ji71) then (if (ji71) < (l0.length : Int) then ((slices_Index_string_string.f k t201 (rdOf ByteArray.empty l0 (ji71))).bind fun t205 => (some (5, t190, t205, t193))) else (none)) else (none)) = some (r1, r2, r3, r4) := by first | (rw [hji71] at H; exact H) | (simp only [hji71] at H ⊢; exact H)
             (try rw [hji71] at A12)
             (try rw [hji71] at A16)
             (try rw [hji71] at A69)
             by_cases c72 : 0 ≤ (ji71)
             ·rw [if_pos c72] at H
              have c72b0 : decide (0 ≤ (ji71)) = true := decide_eq_true c72
              clear c72
              by_cases c73 : (ji71) < (l0.length : Int)
              ·rw [if_pos c73] at H
               have c73b0 : decide ((ji71) < (l0.length : Int)) = true := decide_eq_true c73
               clear c73
               replace H := Option.bind_eq_some_iff.mp H
               obtain ⟨t205, A740, H⟩ := H
               replace H : (some (5, t190, t205, t193)) = some (r1, r2, r3, r4) := H
               have A74 := Aside0.mk A740
               clear A740
               simp only [Option.some.injEq, Prod.mk.injEq] at H
               obtain ⟨rfl, rfl, rfl, rfl⟩ := H
               go_enter Tryd.func97, Tryd.ntmps97
               try go_wp2_with (first | ((with_reducible refine gate_dst (N := 2) rfl ?_); refine box_event ?hg (N := 2) ?hd (cs := #[.int .i64 0, .int .i64 0, .int .i64 0, .int .i64 0]) (t := 72) ?hr ?_; (case hd => rfl); (case hg => rfl); (case hr => first | (go_simp; done) | (go_simp; rfl)); intro gb185 hg w75 hbox hb; have n0_ := Aside0.mk (below_step (by repeat (first | (with_reducible first | exact HB.out | apply below_alloc | apply pw_below_drewN | apply below_drew1) | exact HB.out)) hb); have n1_ := Aside0.mk (hbox); have n2_ := Aside0.mk ((by rw [hg]; exact (below_size (by repeat (first | (with_reducible first | exact HB.out | apply below_alloc | apply pw_below_drewN | apply below_drew1) | exact HB.out))) : w.heap.size ≤ gb185)); have n3_ := Aside0.mk ((by rw [hg]; exact (below_size (by repeat (first | (with_reducible first | exact HB.out | apply below_alloc | apply pw_below_drewN | apply below_drew1) | exact HB.out))) : w.heap.size ≤ gb185)); clear HB; have HB := n0_; have BK185 := n1_; have GW185 := n2_; have GE185 := n3_; clear n0_ n1_ n2_ n3_; clear hb hbox hg; have p186 : 0 ≤ (0 : Int) := (by omega); have q186 : 0 < (l0.length : Int) := of_decide_eq_true (by first | (with_reducible assumption) | assumption); obtain ⟨ad186, e186, hx186_0⟩ := Kd.at_string HR0.out 0 p186 q186; cases e186; have qi186 : (0 < l0.length) = True := eq_true (by omega); (try rw [show ((0 : Int)).toNat = 0 from rfl] at hx186_0); (try rw [Addr.add_zero'] at hx186_0); replace hx186_0 := (HB.out.cell (World.block_lt_of_cell? w _ hx186_0)).trans hx186_0; replace p186 := eq_true p186; replace q186 := eq_true q186; have p189 : 0 ≤ (0 : Int) := (by omega); have q189 : 0 < (l0.length : Int) := of_decide_eq_true (by first | (with_reducible assumption) | assumption); obtain ⟨ad189, e189, hx189_0⟩ := Kd.at_string HR0.out 0 p189 q189; obtain rfl : ad186 = ad189 := (by injection e189); have qi189 : (0 < l0.length) = True := eq_true (by omega); (try rw [show ((0 : Int)).toNat = 0 from rfl] at hx189_0); (try rw [Addr.add_zero'] at hx189_0); replace hx189_0 := (HB.out.cell (World.block_lt_of_cell? w _ hx189_0)).trans hx189_0; replace p189 := eq_true p189; replace q189 := eq_true q189) | ((with_reducible refine gate_callee (f := 133) rfl ?_); refine goesL_ (some 21) rfl rfl Tryd.func133 (by kernel_rfl) rfl #[.string (rdOf ByteArray.empty l0 0)] rfl (by (try simp only [List.map_toArray, List.map_cons, List.map_nil]); first | done | rfl | (simp only [List.length_drop, List.length_take]; rfl)) ?_; (with_reducible refine (o_number.calls (rdOf ByteArray.empty l0 0) t190 _ A12.out ?side1).mono ?_); (case side1 => exact Gl.below HG.out (by repeat (first | (with_reducible first | exact HB.out | apply below_alloc | apply pw_below_drewN | apply below_drew1 | refine below_set ?_ GE185.out) | exact HB.out))); rintro e w76 ⟨rfl, hb⟩; refine ⟨_, rfl, ?_⟩; have n0_ := Aside0.mk (blk_below (g := gb185) (o := .cells #[.int .i64 0, .int .i64 0, .int .i64 0, .int .i64 0] 72 (0, 0)) (by (with_reducible repeat (first | refine blk_drewN ?_ _ | refine blk_drew ?_ | refine blk_alloc ?_ _)); exact BK185.out) hb); have n1_ := Aside0.mk (below_step (by repeat (first | (with_reducible first | exact HB.out | apply below_alloc | apply pw_below_drewN | apply below_drew1 | refine below_set ?_ GE185.out) | exact HB.out)) hb); clear BK185; clear HB; have BK185 := n0_; have HB := n1_; clear n0_ n1_; (try clear hb); (try clear hb2); (try clear hk); (try clear hi)) | ((with_reducible refine gate_dst (N := 3) rfl ?_); refine box_event ?hg (N := 3) ?hd (cs := #[.int .i64 0, .int .i64 0, .int .i64 0, .int .i64 0]) (t := 72) ?hr ?_; (case hd => rfl); (case hg => rfl); (case hr => first | (go_simp; done) | (go_simp; rfl)); intro gb191 hg w77 hbox hb; have n0_ := Aside0.mk (blk_below (g := gb185) (o := .cells #[.int .i64 0, .int .i64 0, .int .i64 0, .int .i64 0] 72 (0, 0)) (by (with_reducible repeat (first | refine blk_drewN ?_ _ | refine blk_drew ?_ | refine blk_alloc ?_ _)); exact BK185.out) hb); have n1_ := Aside0.mk (below_step (by repeat (first | (with_reducible first | exact HB.out | apply below_alloc | apply pw_below_drewN | apply below_drew1 | refine below_set ?_ GE185.out) | exact HB.out)) hb); have n2_ := Aside0.mk (hbox); have n3_ := Aside0.mk ((by rw [hg]; exact (below_size (by repeat (first | (with_reducible first | exact HB.out | apply below_alloc | apply pw_below_drewN | apply below_drew1 | refine below_set ?_ GE185.out) | exact HB.out))) : w.heap.size ≤ gb191)); have n4_ := Aside0.mk ((by rw [hg]; exact (below_size (by repeat (first | (with_reducible first | exact HB.out | apply below_alloc | apply pw_below_drewN | apply below_drew1 | refine below_set ?_ GE185.out) | exact HB.out))) : w.heap.size ≤ gb191)); have n5_ := Aside0.mk ((by rw [hg]; exact Nat.ne_of_lt (blk_lt (g := gb185) (o := .cells #[.int .i64 0, .int .i64 0, .int .i64 0, .int .i64 0] 72 (0, 0)) (by (with_reducible repeat (first | refine blk_drewN ?_ _ | refine blk_drew ?_ | refine blk_alloc ?_ _)); exact BK185.out)) : gb185 ≠ gb191)); have n6_ := Aside0.mk ((by rw [hg]; exact Nat.ne_of_gt (blk_lt (g := gb185) (o := .cells #[.int .i64 0, .int .i64 0, .int .i64 0, .int .i64 0] 72 (0, 0)) (by (with_reducible repeat (first | refine blk_drewN ?_ _ | refine blk_drew ?_ | refine blk_alloc ?_ _)); exact BK185.out)) : gb191 ≠ gb185)); clear BK185; clear HB; have BK185 := n0_; have HB := n1_; have BK191 := n2_; have GW191 := n3_; have GE191 := n4_; have NB185_191 := n5_; have NB191_185 := n6_; clear n0_ n1_ n2_ n3_ n4_ n5_ n6_; clear hb hbox hg; have hnb78 := NB191_185.out; have hnc78 := NB185_191.out; have hcz79_0 : w77.cell? ⟨gb191, 0, none⟩ = some (.int .i64 0) := (blk_cell BK191.out 0).trans rfl; have hcz79_1 : w77.cell? ⟨gb191, 1, none⟩ = some (.int .i64 0) := (blk_cell BK191.out 1).trans rfl; have hcz79_2 : w77.cell? ⟨gb191, 2, none⟩ = some (.int .i64 0) := (blk_cell BK191.out 2).trans rfl; have hcz79_3 : w77.cell? ⟨gb191, 3, none⟩ = some (.int .i64 0) := (blk_cell BK191.out 3).trans rfl; have hfz79_0 := blk_frozen BK191.out 0; have hfz79_1 := blk_frozen BK191.out 1; have hfz79_2 := blk_frozen BK191.out 2; have hfz79_3 := blk_frozen BK191.out 3; have p192 : 0 ≤ ((ji13) : Int) := of_decide_eq_true (by first | (with_reducible assumption) | assumption); have q192 : (ji13) < (l0.length : Int) := of_decide_eq_true (by first | (with_reducible assumption) | assumption); obtain ⟨ad192, e192, hx192_0⟩ := Kd.at_string HR0.out (ji13) p192 q192; obtain rfl : ad186 = ad192 := (by injection e192); have hn192_0 : ad186.block ≠ gb191 := Nat.ne_of_lt (Nat.lt_of_lt_of_le (by have := World.block_lt_of_cell? _ _ hx192_0; first | rwa [add_block] at this | exact this) GW191.out); have hn192_1 : ad186.block ≠ gb191 := Nat.ne_of_lt (Nat.lt_of_lt_of_le (by have := World.block_lt_of_cell? _ _ hx192_0; first | rwa [add_block] at this | exact this) GW191.out); have hn192_2 : ad186.block ≠ gb191 := Nat.ne_of_lt (Nat.lt_of_lt_of_le (by have := World.block_lt_of_cell? _ _ hx192_0; first | rwa [add_block] at this | exact this) GW191.out); have hn192_3 : ad186.block ≠ gb191 := Nat.ne_of_lt (Nat.lt_of_lt_of_le (by have := World.block_lt_of_cell? _ _ hx192_0; first | rwa [add_block] at this | exact this) GW191.out); replace hx192_0 := (HB.out.cell (World.block_lt_of_cell? w _ hx192_0)).trans hx192_0; replace hx192_0 := (cell_far (p := ⟨gb191, 0, none⟩) (by first | (rw [add_block]; exact hn192_0) | (show (Addr.add _ _).block ≠ _; rw [add_block]; exact hn192_0) | exact hn192_0) (.int .i64 0)).trans hx192_0; replace hx192_0 := (cell_far (p := ⟨gb191, 1, none⟩) (by first | (rw [add_block]; exact hn192_1) | (show (Addr.add _ _).block ≠ _; rw [add_block]; exact hn192_1) | exact hn192_1) (.int .i64 t190)).trans hx192_0; replace hx192_0 := (cell_far (p := ⟨gb191, 2, none⟩) (by first | (rw [add_block]; exact hn192_2) | (show (Addr.add _ _).block ≠ _; rw [add_block]; exact hn192_2) | exact hn192_2) (.int .i64 0)).trans hx192_0; replace hx192_0 := (cell_far (p := ⟨gb191, 3, none⟩) (by first | (rw [add_block]; exact hn192_3) | (show (Addr.add _ _).block ≠ _; rw [add_block]; exact hn192_3) | exact hn192_3) (.int .i64 0)).trans hx192_0; clear hn192_0; clear hn192_1; clear hn192_2; clear hn192_3; replace p192 := eq_true p192; replace q192 := eq_true q192) | ((with_reducible refine gate_callee (f := 133) rfl ?_); refine goesL_ (some 29) rfl rfl Tryd.func133 (by kernel_rfl) rfl #[.string (rdOf ByteArray.empty l0 (ji13))] rfl (by (try simp only [List.map_toArray, List.map_cons, List.map_nil]); first | done | (simp only [hji13]; rfl) | rfl | (simp only [List.length_drop, List.length_take]; rfl)) ?_; (with_reducible refine (o_number.calls (rdOf ByteArray.empty l0 (ji13)) t193 _ A16.out ?side1).mono ?_); (case side1 => exact Gl.below HG.out (by repeat (first | (with_reducible first | exact HB.out | apply below_alloc | apply pw_below_drewN | apply below_drew1 | refine below_set ?_ GE185.out | refine below_set ?_ GE191.out) | exact HB.out))); rintro e w80 ⟨rfl, hb⟩; refine ⟨_, rfl, ?_⟩; have n0_ := Aside0.mk (blk_below (g := gb185) (o := .cells #[.int .i64 0, .int .i64 0, .int .i64 0, .int .i64 0] 72 (0, 0)) (by (with_reducible repeat (first | refine blk_drewN ?_ _ | refine blk_drew ?_ | refine blk_alloc ?_ _)); refine blk_far ?_ NB185_191.out _; (with_reducible repeat (first | refine blk_drewN ?_ _ | refine blk_drew ?_ | refine blk_alloc ?_ _)); refine blk_far ?_ NB185_191.out _; (with_reducible repeat (first | refine blk_drewN ?_ _ | refine blk_drew ?_ | refine blk_alloc ?_ _)); refine blk_far ?_ NB185_191.out _; (with_reducible repeat (first | refine blk_drewN ?_ _ | refine blk_drew ?_ | refine blk_alloc ?_ _)); refine blk_far ?_ NB185_191.out _; (with_reducible repeat (first | refine blk_drewN ?_ _ | refine blk_drew ?_ | refine blk_alloc ?_ _)); exact BK185.out) hb); have n1_ := Aside0.mk (blk_below (g := gb191) (o := .cells #[.int .i64 0, .int .i64 t190, .int .i64 0, .int .i64 0] 72 (0, 0)) (by (with_reducible repeat (first | refine blk_drewN ?_ _ | refine blk_drew ?_ | refine blk_alloc ?_ _)); refine blk_put (cs := #[.int .i64 0, .int .i64 t190, .int .i64 0, .int .i64 0]) ?_ 3 _ rfl; (with_reducible repeat (first | refine blk_drewN ?_ _ | refine blk_drew ?_ | refine blk_alloc ?_ _)); refine blk_put (cs := #[.int .i64 0, .int .i64 t190, .int .i64 0, .int .i64 0]) ?_ 2 _ rfl; (with_reducible repeat (first | refine blk_drewN ?_ _ | refine blk_drew ?_ | refine blk_alloc ?_ _)); refine blk_put (cs := #[.int .i64 0, .int .i64 0, .int .i64 0, .int .i64 0]) ?_ 1 _ rfl; (with_reducible repeat (first | refine blk_drewN ?_ _ | refine blk_drew ?_ | refine blk_alloc ?_ _)); refine blk_put (cs := #[.int .i64 0, .int .i64 0, .int .i64 0, .int .i64 0]) ?_ 0 _ rfl; (with_reducible repeat (first | refine blk_drewN ?_ _ | refine blk_drew ?_ | refine blk_alloc ?_ _)); exact BK191.out) hb); have n2_ := Aside0.mk (below_step (by repeat (first | (with_reducible first | exact HB.out | apply below_alloc | apply pw_below_drewN | apply below_drew1 | refine below_set ?_ GE185.out | refine below_set ?_ GE191.out) | exact HB.out)) hb); clear BK185; clear BK191; clear HB; have BK185 := n0_; have BK191 := n1_; have HB := n2_; clear n0_ n1_ n2_; (try clear hb); (try clear hb2); (try clear hk); (try clear hi); have p194 : 0 ≤ (1 : Int) := (by omega); have q194 : 1 < (l0.length : Int) := of_decide_eq_true (by first | (with_reducible assumption) | assumption); obtain ⟨ad194, e194, hx194_0⟩ := Kd.at_string HR0.out 1 p194 q194; obtain rfl : ad186 = ad194 := (by injection e194); (try simp only [show (1 : Int).toNat = 1 from rfl, Nat.reduceMul, Nat.reduceEqDiff, Go.Addr.add, ↓reduceIte] at hx194_0); have qi194 : (1 < l0.length) = True := eq_true (by omega); (try rw [show ((1 : Int)).toNat = 1 from rfl] at hx194_0); replace hx194_0 := (HB.out.cell (World.block_lt_of_cell? w _ hx194_0)).trans hx194_0; replace p194 := eq_true p194; replace q194 := eq_true q194))
               have n0_ := Aside0.mk (blk_drew BK185.out)
               have n1_ := Aside0.mk (blk_drew BK191.out)
               have n2_ := Aside0.mk (below_drew1 HB.out)
               clear BK185
               clear BK191
               clear HB
               have BK185 := n0_
               have BK191 := n1_
               have HB := n2_
               clear n0_ n1_ n2_
               have p204 : 0 ≤ ((ji71) : Int) := of_decide_eq_true (by first | (with_reducible assumption) | assumption)
               have q204 : (ji71) < (l0.length : Int) := of_decide_eq_true (by first | (with_reducible assumption) | assumption)
               obtain ⟨ad204, e204, hx204_0⟩ := Kd.at_string HR0.out (ji71) p204 q204
               have hw204_0 := hx204_0
               obtain rfl : ad186 = ad204 := (by injection e204)
               replace hx204_0 := (HB.out.cell (World.block_lt_of_cell? w _ hx204_0)).trans hx204_0
               replace p204 := eq_true p204
               replace q204 := eq_true q204
               refine start_ (n := 15) (S := fun w' => w'.cell? (ad186.add ((ji71)).toNat) = some (.string (rdOf ByteArray.empty l0 (ji71)))) (ds := []) #[false, false, false, false, false, false, false, false, false, false, false, false, false, false, false] (by kernel_rfl) rfl rfl (((HB.out.cell (World.block_lt_of_cell? w _ hw204_0)).trans hw204_0)) (fun hHeld => ?_); refine with_tabW trace_guess.tab19 trace_guess.bits19 (fun HT_ HW_ => ?_)
               generalize w80.drew = w81 at BK185 BK191 HB hx204_0 hHeld ⊢
               refine pure_ (i := 1) (N := some 76) (v := ?_) (a' := ?_) #[false, true, false, false, false, false, false, false, false, false, false, false, false, false, false] rfl rfl (any_of HT_.out (by kernel_rfl)) (fun _ _ _ h => h) (Or.inl ⟨by rfl, ?_⟩) ?_ ?_
               rotate_left
               ·intro w'
                go_simp
                with_reducible rfl
               rotate_left
               ·simp only [Act.put, List.setIfInBounds_toArray, List.set_cons_zero, List.set_cons_succ, i64_w, i32_w]
                rfl
               refine pure_ (i := 2) (N := some 77) (v := ?_) (a' := ?_) #[false, true, true, false, false, false, false, false, false, false, false, false, false, false, false] rfl rfl (any_of HT_.out (by kernel_rfl)) (fun _ _ _ h => h) (Or.inl ⟨by rfl, ?_⟩) ?_ ?_
               rotate_left
               ·intro w'
                go_simp
                with_reducible rfl
               rotate_left
               ·simp only [Act.put, List.setIfInBounds_toArray, List.set_cons_zero, List.set_cons_succ, i64_w, i32_w]
                rfl
               refine pure_ (i := 3) (N := some 78) (v := ?_) (a' := ?_) #[false, true, true, true, false, false, false, false, false, false, false, false, false, false, false] rfl rfl (any_of HT_.out (by kernel_rfl)) (fun _ _ _ h => h) (Or.inl ⟨by rfl, ?_⟩) ?_ ?_
               rotate_left
               ·intro w'
                go_simp
                with_reducible rfl
               rotate_left
               ·simp only [Act.put, List.setIfInBounds_toArray, List.set_cons_zero, List.set_cons_succ, i64_w, i32_w]
                rfl
               refine pure_ (i := 4) (N := some 79) (v := ?_) (a' := ?_) #[false, true, true, true, true, false, false, false, false, false, false, false, false, false, false] rfl rfl (any_of HT_.out (by kernel_rfl)) (fun _ _ _ h => h) (Or.inl ⟨by rfl, ?_⟩) ?_ ?_
               rotate_left
               ·intro w'
                go_simp
                with_reducible rfl
               rotate_left
               ·simp only [Act.put, List.setIfInBounds_toArray, List.set_cons_zero, List.set_cons_succ, i64_w, i32_w]
                rfl
               refine pure_ (i := 5) (N := some 80) (v := ?_) (a' := ?_) #[false, true, true, true, true, true, false, false, false, false, false, false, false, false, false] rfl rfl (any_of HT_.out (by kernel_rfl)) (fun _ _ _ h => h) (Or.inl ⟨by rfl, ?_⟩) ?_ ?_
               rotate_left
               ·intro w'
                go_simp
                with_reducible rfl
               rotate_left
               ·simp only [Act.put, List.setIfInBounds_toArray, List.set_cons_zero, List.set_cons_succ, i64_w, i32_w]
                rfl
               refine pure_ (i := 8) (N := some 83) (v := ?_) (a' := ?_) #[false, true, true, true, true, true, false, false, true, false, false, false, false, false, false] rfl rfl (any_of HT_.out (by kernel_rfl)) (fun _ _ _ h => h) (Or.inl ⟨by rfl, ?_⟩) ?_ ?_
               rotate_left
               ·intro w'
                go_simp
                with_reducible rfl
               rotate_left
               ·simp only [Act.put, List.setIfInBounds_toArray, List.set_cons_zero, List.set_cons_succ, i64_w, i32_w]
                rfl
               refine pure_ (i := 9) (N := some 84) (v := ?_) (a' := ?_) #[false, true, true, true, true, true, false, false, true, true, false, false, false, false, false] rfl rfl (any_of HT_.out (by kernel_rfl)) (fun _ _ _ h => h) (Or.inl ⟨by rfl, ?_⟩) ?_ ?_
               rotate_left
               ·intro w'
                go_simp
                with_reducible rfl
               rotate_left
               ·simp only [Act.put, List.setIfInBounds_toArray, List.set_cons_zero, List.set_cons_succ, i64_w, i32_w]
                rfl
               refine take_ (i := 6) (N := some 81) (v := ?_) (a' := ?_) #[false, true, true, true, true, true, true, false, true, true, false, false, false, false, false] rfl rfl (take_ofW HT_.out HW_.out (by kernel_rfl)) (fun _ _ _ h => h) (Or.inl ⟨by rfl, ?_⟩) hHeld ?_ ?_
               rotate_left
               ·intro w' s0
                go_simp
                with_reducible rfl
               rotate_left
               ·simp only [Act.put, List.setIfInBounds_toArray, List.set_cons_zero, List.set_cons_succ, i64_w, i32_w]
                rfl
               refine one_ (i := 0) (N := some 75) #[true, true, true, true, true, true, true, false, true, true, false, false, false, false, false] rfl rfl (one_of HT_.out (by kernel_rfl)) (by decide) (fun K hK => ?_)
               refine goes_ Tryd.func94 (by kernel_rfl) rfl #[] (by rfl) rfl rfl (by (try simp only [List.map_toArray, List.map_cons, List.map_nil]); first | done | rfl | (simp only [List.length_drop, List.length_take]; rfl)) ?_
               with_reducible refine (trace_ends.calls  t201 _ A69.out).mono ?_
               rintro e w82 ⟨v202, rfl, ho0, hb⟩
               refine ⟨_, rfl, ?_⟩
               have n0_ := Aside0.mk (Kd.R_lower ho0 (below_size (by repeat (first | (with_reducible first | exact HB.out | apply below_alloc | apply pw_below_drewN | apply below_drew1 | refine below_set ?_ GE185.out | refine below_set ?_ GE191.out) | exact HB.out))))
               have n1_ := Aside0.mk (blk_below (g := gb185) (o := .cells #[.int .i64 0, .int .i64 0, .int .i64 0, .int .i64 0] 72 (0, 0)) (by (with_reducible repeat (first | refine blk_drewN ?_ _ | refine blk_drew ?_ | refine blk_alloc ?_ _)); exact BK185.out) hb)
               have n2_ := Aside0.mk (blk_below (g := gb191) (o := .cells #[.int .i64 0, .int .i64 t190, .int .i64 0, .int .i64 0] 72 (0, 0)) (by (with_reducible repeat (first | refine blk_drewN ?_ _ | refine blk_drew ?_ | refine blk_alloc ?_ _)); exact BK191.out) hb)
               have n3_ := Aside0.mk (below_step (by repeat (first | (with_reducible first | exact HB.out | apply below_alloc | apply pw_below_drewN | apply below_drew1 | refine below_set ?_ GE185.out | refine below_set ?_ GE191.out) | exact HB.out)) hb)
               clear BK185
               clear BK191
               clear HB
               have HO203 := n0_
               have BK185 := n1_
               have BK191 := n2_
               have HB := n3_
               clear n0_ n1_ n2_ n3_
               (try clear hb)
               (try clear hb2)
               (try clear hk)
               (try clear hi)
               (try clear ho0)
               obtain ⟨Ao83, co83, eo83⟩ := Kd.R_slice HO203.out
               (first | subst eo83 | (injection eo83 with f1_ f2_ f3_; have f4_ := f1_.symm; have f5_ := f3_.symm; clear f1_ f2_ f3_; subst f4_; subst f5_))
               refine hK.out _ _ (((HB.out.cell (World.block_lt_of_cell? w _ hw204_0)).trans hw204_0)) (fun hHeld => ?_)
               clear hK K
               refine norm_ (a' := ?_) ?_ ?_
               rotate_left
               ·show Act.put _ (some 75) _ = _
                simp only [Act.put, List.setIfInBounds_toArray, List.set_cons_zero, List.set_cons_succ, i64_w, i32_w]
                rfl
               refine one_ (i := 7) (N := some 82) #[true, true, true, true, true, true, true, true, true, true, false, false, false, false, false] rfl rfl (one_of HT_.out (by kernel_rfl)) (by decide) (fun K hK => ?_)
               refine goes_ Tryd.func135 (by kernel_rfl) rfl #[.slice Ao83 t201.length co83, .string (rdOf ByteArray.empty l0 (ji71))] (by rfl) rfl rfl (by (try simp only [List.map_toArray, List.map_cons, List.map_nil]); first | done | (simp only [hji71]; rfl) | rfl | (simp only [List.length_drop, List.length_take]; rfl)) ?_
               with_reducible refine (slices_Index_string_string.calls k _ _ t201 (rdOf ByteArray.empty l0 (ji71)) t205 _ ?side1 ?side2 A74.out).mono ?_
               (case side1 => repeat (first | exact (Kd.R_reads' HO203.out).2.2 | (with_reducible refine Kd.C_alloc ?_ _) | (with_reducible refine Kd.C_drewN ?_ _) | (with_reducible refine Kd.C_drew ?_)))
               (case side2 => exact (Kd.R_reads' HO203.out).2.1)
               rintro e w' ⟨rfl, ⟨nd, rfl⟩⟩
               refine ⟨_, rfl, ?_⟩
               refine hK.out _ _ (((HB.out.cell (World.block_lt_of_cell? w _ hw204_0)).trans hw204_0)) (fun hHeld => ?_)
               clear hK K
               refine norm_ (a' := ?_) ?_ ?_
               rotate_left
               ·show Act.put _ (some 82) _ = _
                simp only [Act.put, List.setIfInBounds_toArray, List.set_cons_zero, List.set_cons_succ, i64_w, i32_w]
                rfl
               refine one_ (i := 10) (N := none) #[true, true, true, true, true, true, true, true, true, true, true, false, false, false, false] rfl rfl (one_of HT_.out (by kernel_rfl)) (by decide) (fun K hK => ?_)
               have hs84 : w82.cell? ⟨gb191, 0, none⟩ = some (.int .i64 0) := (blk_cell BK191.out 0).trans rfl
               have hfs84 := blk_frozen BK191.out 0
               have hns84_0 := NB185_191.out
               have hms84_0 := NB191_185.out
               refine skip_ (w1 := ?_) (by rfl) rfl ?_ ?_
               rotate_left
               ·go_simp
                rfl
               refine hK.out _ _ (((cell_far (p := ⟨gb191, _, none⟩) (by first | exact Nat.ne_of_lt (Nat.lt_of_lt_of_le (by have := World.block_lt_of_cell? _ _ hw204_0; first | rwa [add_block] at this | exact this) GW191.out) | (rw [add_block]; exact Nat.ne_of_lt (Nat.lt_of_lt_of_le (by have := World.block_lt_of_cell? _ _ hw204_0; first | rwa [add_block] at this | exact this) GW191.out)) | (show (Addr.add _ _).block ≠ _; rw [add_block]; exact Nat.ne_of_lt (Nat.lt_of_lt_of_le (by have := World.block_lt_of_cell? _ _ hw204_0; first | rwa [add_block] at this | exact this) GW191.out)) | (dsimp only; exact Nat.ne_of_lt (Nat.lt_of_lt_of_le (by have := World.block_lt_of_cell? _ _ hw204_0; first | rwa [add_block] at this | exact this) GW191.out))) _).trans (hHeld))) (fun hHeld => ?_)
               clear hK K
               refine pure_ (i := 11) (N := some 85) (v := ?_) (a' := ?_) #[true, true, true, true, true, true, true, true, true, true, true, true, false, false, false] rfl rfl (any_of HT_.out (by kernel_rfl)) (fun _ _ _ h => h) (Or.inl ⟨by rfl, ?_⟩) ?_ ?_
               rotate_left
               ·intro w'
                go_simp
                with_reducible rfl
               rotate_left
               ·simp only [Act.put, List.setIfInBounds_toArray, List.set_cons_zero, List.set_cons_succ, i64_w, i32_w]
                rfl
               refine one_ (i := 12) (N := none) #[true, true, true, true, true, true, true, true, true, true, true, true, true, false, false] rfl rfl (one_of HT_.out (by kernel_rfl)) (by decide) (fun K hK => ?_)
               have hs85 : w82.cell? ⟨gb191, 2, none⟩ = some (.int .i64 0) := (blk_cell BK191.out 2).trans rfl
               have hfs85 := blk_frozen BK191.out 2
               have hns85_0 := NB185_191.out
               have hms85_0 := NB191_185.out
               refine skip_ (w1 := ?_) (by rfl) rfl ?_ ?_
               rotate_left
               ·go_simp
                rfl
               refine hK.out _ _ (((cell_far (p := ⟨gb191, _, none⟩) (by first | exact Nat.ne_of_lt (Nat.lt_of_lt_of_le (by have := World.block_lt_of_cell? _ _ hw204_0; first | rwa [add_block] at this | exact this) GW191.out) | (rw [add_block]; exact Nat.ne_of_lt (Nat.lt_of_lt_of_le (by have := World.block_lt_of_cell? _ _ hw204_0; first | rwa [add_block] at this | exact this) GW191.out)) | (show (Addr.add _ _).block ≠ _; rw [add_block]; exact Nat.ne_of_lt (Nat.lt_of_lt_of_le (by have := World.block_lt_of_cell? _ _ hw204_0; first | rwa [add_block] at this | exact this) GW191.out)) | (dsimp only; exact Nat.ne_of_lt (Nat.lt_of_lt_of_le (by have := World.block_lt_of_cell? _ _ hw204_0; first | rwa [add_block] at this | exact this) GW191.out))) _).trans (hHeld))) (fun hHeld => ?_)
               clear hK K
               refine pure_ (i := 13) (N := some 86) (v := ?_) (a' := ?_) #[true, true, true, true, true, true, true, true, true, true, true, true, true, true, false] rfl rfl (any_of HT_.out (by kernel_rfl)) (fun _ _ _ h => h) (Or.inl ⟨by rfl, ?_⟩) ?_ ?_
               rotate_left
               ·intro w'
                go_simp
                with_reducible rfl
               rotate_left
               ·simp only [Act.put, List.setIfInBounds_toArray, List.set_cons_zero, List.set_cons_succ, i64_w, i32_w]
                rfl
               refine one_ (i := 14) (N := none) #[true, true, true, true, true, true, true, true, true, true, true, true, true, true, true] rfl rfl (one_of HT_.out (by kernel_rfl)) (by decide) (fun K hK => ?_)
               have hs86 : w82.cell? ⟨gb191, 3, none⟩ = some (.int .i64 0) := (blk_cell BK191.out 3).trans rfl
               have hfs86 := blk_frozen BK191.out 3
               have hns86_0 := NB185_191.out
               have hms86_0 := NB191_185.out
               refine skip_ (w1 := ?_) (by rfl) rfl ?_ ?_
               rotate_left
               ·go_simp
                rfl
               refine hK.out _ _ (((cell_far (p := ⟨gb191, _, none⟩) (by first | exact Nat.ne_of_lt (Nat.lt_of_lt_of_le (by have := World.block_lt_of_cell? _ _ hw204_0; first | rwa [add_block] at this | exact this) GW191.out) | (rw [add_block]; exact Nat.ne_of_lt (Nat.lt_of_lt_of_le (by have := World.block_lt_of_cell? _ _ hw204_0; first | rwa [add_block] at this | exact this) GW191.out)) | (show (Addr.add _ _).block ≠ _; rw [add_block]; exact Nat.ne_of_lt (Nat.lt_of_lt_of_le (by have := World.block_lt_of_cell? _ _ hw204_0; first | rwa [add_block] at this | exact this) GW191.out)) | (dsimp only; exact Nat.ne_of_lt (Nat.lt_of_lt_of_le (by have := World.block_lt_of_cell? _ _ hw204_0; first | rwa [add_block] at this | exact this) GW191.out))) _).trans (hHeld))) (fun hHeld => ?_)
               clear hK K
               refine done_ (done_of HT_.out (by kernel_rfl)) ?_
               have hcz87_0 : w82.cell? ⟨gb191, 0, none⟩ = some (.int .i64 0) := (blk_cell BK191.out 0).trans rfl
               have hcz87_1 : w82.cell? ⟨gb191, 1, none⟩ = some (.int .i64 t190) := (blk_cell BK191.out 1).trans rfl
               have hcz87_2 : w82.cell? ⟨gb191, 2, none⟩ = some (.int .i64 0) := (blk_cell BK191.out 2).trans rfl
               have hcz87_3 : w82.cell? ⟨gb191, 3, none⟩ = some (.int .i64 0) := (blk_cell BK191.out 3).trans rfl
               have hfz87_0 := blk_frozen BK191.out 0
               have hfz87_1 := blk_frozen BK191.out 1
               have hfz87_2 := blk_frozen BK191.out 2
               have hfz87_3 := blk_frozen BK191.out 3
               have hcz88_0 : w82.cell? ⟨gb185, 0, none⟩ = some (.int .i64 0) := (blk_cell BK185.out 0).trans rfl
               have hcz88_1 : w82.cell? ⟨gb185, 1, none⟩ = some (.int .i64 0) := (blk_cell BK185.out 1).trans rfl
               have hcz88_2 : w82.cell? ⟨gb185, 2, none⟩ = some (.int .i64 0) := (blk_cell BK185.out 2).trans rfl
               have hcz88_3 : w82.cell? ⟨gb185, 3, none⟩ = some (.int .i64 0) := (blk_cell BK185.out 3).trans rfl
               have hfz88_0 := blk_frozen BK185.out 0
               have hfz88_1 := blk_frozen BK185.out 1
               have hfz88_2 := blk_frozen BK185.out 2
               have hfz88_3 := blk_frozen BK185.out 3
               try go_wp2
               refine bodyPost_ret (results_cell_row rfl _ _ gb185 72 #[.int .i64 5, .int .i64 t190, .int .i64 t205, .int .i64 t193] (0, 0) _ rfl (by (with_reducible repeat (first | refine blk_drewN ?_ _ | refine blk_drew ?_ | refine blk_alloc ?_ _)); refine blk_put (cs := #[.int .i64 5, .int .i64 t190, .int .i64 t205, .int .i64 0]) ?_ 3 _ rfl; (with_reducible repeat (first | refine blk_drewN ?_ _ | refine blk_drew ?_ | refine blk_alloc ?_ _)); refine blk_put (cs := #[.int .i64 5, .int .i64 t190, .int .i64 0, .int .i64 0]) ?_ 2 _ rfl; (with_reducible repeat (first | refine blk_drewN ?_ _ | refine blk_drew ?_ | refine blk_alloc ?_ _)); refine blk_put (cs := #[.int .i64 5, .int .i64 0, .int .i64 0, .int .i64 0]) ?_ 1 _ rfl; (with_reducible repeat (first | refine blk_drewN ?_ _ | refine blk_drew ?_ | refine blk_alloc ?_ _)); refine blk_put (cs := #[.int .i64 0, .int .i64 0, .int .i64 0, .int .i64 0]) ?_ 0 _ rfl; (with_reducible repeat (first | refine blk_drewN ?_ _ | refine blk_drew ?_ | refine blk_alloc ?_ _)); refine blk_far ?_ NB185_191.out _; (with_reducible repeat (first | refine blk_drewN ?_ _ | refine blk_drew ?_ | refine blk_alloc ?_ _)); refine blk_far ?_ NB185_191.out _; (with_reducible repeat (first | refine blk_drewN ?_ _ | refine blk_drew ?_ | refine blk_alloc ?_ _)); refine blk_far ?_ NB185_191.out _; (with_reducible repeat (first | refine blk_drewN ?_ _ | refine blk_drew ?_ | refine blk_alloc ?_ _)); exact BK185.out) Tryd.underlying72 rfl (by kernel_rfl)) rfl ?_
               exact ⟨by first | rfl | (simp [errW_none, errW_some] <;> rfl) | (simp only [← hji13, ← hji71]; first | rfl | (simp [errW_none, errW_some] <;> rfl)) | (simp [*, errW_none, errW_some] <;> rfl), by repeat (first | (with_reducible first | exact HB.out | apply below_alloc | apply pw_below_drewN | apply below_drew1 | refine below_set ?_ GE185.out | refine below_set ?_ GE191.out) | exact HB.out)⟩
              ·rw [if_neg c73] at H
               exact absurd H (by simp)
             ·rw [if_neg c72] at H
              exact absurd H (by simp)
           ·rw [if_neg c68] at H
            have c68b0 : ((rdOf ByteArray.empty l0 1).toList == ([101, 110, 100] : List UInt8)) = false := beq_eq_false_iff_ne.mpr c68
            have c68b1 : ((rdOf ByteArray.empty l0 1).toList != ([101, 110, 100] : List UInt8)) = true := bne_iff_ne.mpr c68
            by_cases c89 : (rdOf ByteArray.empty l0 1).toList = ([97, 98, 111, 114, 116] : List UInt8)
            ·rw [if_pos c89] at H
             have c89b0 : ((rdOf ByteArray.empty l0 1).toList == ([97, 98, 111, 114, 116] : List UInt8)) = true := beq_iff_eq.mpr c89
             have c89b1 : ((rdOf ByteArray.empty l0 1).toList != ([97, 98, 111, 114, 116] : List UInt8)) = false := bne_eq_false_iff_eq.mpr c89
             clear c89
             simp only [Option.some.injEq, Prod.mk.injEq] at H
             obtain ⟨rfl, rfl, rfl, rfl⟩ := H
             go_enter Tryd.func97, Tryd.ntmps97
             go_wp2_with (first | ((with_reducible refine gate_dst (N := 2) rfl ?_); refine box_event ?hg (N := 2) ?hd (cs := #[.int .i64 0, .int .i64 0, .int .i64 0, .int .i64 0]) (t := 72) ?hr ?_; (case hd => rfl); (case hg => rfl); (case hr => first | (go_simp; done) | (go_simp; rfl)); intro gb185 hg w90 hbox hb; have n0_ := Aside0.mk (below_step (by repeat (first | (with_reducible first | exact HB.out | apply below_alloc | apply pw_below_drewN | apply below_drew1) | exact HB.out)) hb); have n1_ := Aside0.mk (hbox); have n2_ := Aside0.mk ((by rw [hg]; exact (below_size (by repeat (first | (with_reducible first | exact HB.out | apply below_alloc | apply pw_below_drewN | apply below_drew1) | exact HB.out))) : w.heap.size ≤ gb185)); have n3_ := Aside0.mk ((by rw [hg]; exact (below_size (by repeat (first | (with_reducible first | exact HB.out | apply below_alloc | apply pw_below_drewN | apply below_drew1) | exact HB.out))) : w.heap.size ≤ gb185)); clear HB; have HB := n0_; have BK185 := n1_; have GW185 := n2_; have GE185 := n3_; clear n0_ n1_ n2_ n3_; clear hb hbox hg; have p186 : 0 ≤ (0 : Int) := (by omega); have q186 : 0 < (l0.length : Int) := of_decide_eq_true (by first | (with_reducible assumption) | assumption); obtain ⟨ad186, e186, hx186_0⟩ := Kd.at_string HR0.out 0 p186 q186; cases e186; have qi186 : (0 < l0.length) = True := eq_true (by omega); (try rw [show ((0 : Int)).toNat = 0 from rfl] at hx186_0); (try rw [Addr.add_zero'] at hx186_0); replace hx186_0 := (HB.out.cell (World.block_lt_of_cell? w _ hx186_0)).trans hx186_0; replace p186 := eq_true p186; replace q186 := eq_true q186; have p189 : 0 ≤ (0 : Int) := (by omega); have q189 : 0 < (l0.length : Int) := of_decide_eq_true (by first | (with_reducible assumption) | assumption); obtain ⟨ad189, e189, hx189_0⟩ := Kd.at_string HR0.out 0 p189 q189; obtain rfl : ad186 = ad189 := (by injection e189); have qi189 : (0 < l0.length) = True := eq_true (by omega); (try rw [show ((0 : Int)).toNat = 0 from rfl] at hx189_0); (try rw [Addr.add_zero'] at hx189_0); replace hx189_0 := (HB.out.cell (World.block_lt_of_cell? w _ hx189_0)).trans hx189_0; replace p189 := eq_true p189; replace q189 := eq_true q189) | ((with_reducible refine gate_callee (f := 133) rfl ?_); refine goesL_ (some 21) rfl rfl Tryd.func133 (by kernel_rfl) rfl #[.string (rdOf ByteArray.empty l0 0)] rfl (by (try simp only [List.map_toArray, List.map_cons, List.map_nil]); first | done | rfl | (simp only [List.length_drop, List.length_take]; rfl)) ?_; (with_reducible refine (o_number.calls (rdOf ByteArray.empty l0 0) t190 _ A12.out ?side1).mono ?_); (case side1 => exact Gl.below HG.out (by repeat (first | (with_reducible first | exact HB.out | apply below_alloc | apply pw_below_drewN | apply below_drew1 | refine below_set ?_ GE185.out) | exact HB.out))); rintro e w91 ⟨rfl, hb⟩; refine ⟨_, rfl, ?_⟩; have n0_ := Aside0.mk (blk_below (g := gb185) (o := .cells #[.int .i64 0, .int .i64 0, .int .i64 0, .int .i64 0] 72 (0, 0)) (by (with_reducible repeat (first | refine blk_drewN ?_ _ | refine blk_drew ?_ | refine blk_alloc ?_ _)); exact BK185.out) hb); have n1_ := Aside0.mk (below_step (by repeat (first | (with_reducible first | exact HB.out | apply below_alloc | apply pw_below_drewN | apply below_drew1 | refine below_set ?_ GE185.out) | exact HB.out)) hb); clear BK185; clear HB; have BK185 := n0_; have HB := n1_; clear n0_ n1_; (try clear hb); (try clear hb2); (try clear hk); (try clear hi)) | ((with_reducible refine gate_dst (N := 3) rfl ?_); refine box_event ?hg (N := 3) ?hd (cs := #[.int .i64 0, .int .i64 0, .int .i64 0, .int .i64 0]) (t := 72) ?hr ?_; (case hd => rfl); (case hg => rfl); (case hr => first | (go_simp; done) | (go_simp; rfl)); intro gb191 hg w92 hbox hb; have n0_ := Aside0.mk (blk_below (g := gb185) (o := .cells #[.int .i64 0, .int .i64 0, .int .i64 0, .int .i64 0] 72 (0, 0)) (by (with_reducible repeat (first | refine blk_drewN ?_ _ | refine blk_drew ?_ | refine blk_alloc ?_ _)); exact BK185.out) hb); have n1_ := Aside0.mk (below_step (by repeat (first | (with_reducible first | exact HB.out | apply below_alloc | apply pw_below_drewN | apply below_drew1 | refine below_set ?_ GE185.out) | exact HB.out)) hb); have n2_ := Aside0.mk (hbox); have n3_ := Aside0.mk ((by rw [hg]; exact (below_size (by repeat (first | (with_reducible first | exact HB.out | apply below_alloc | apply pw_below_drewN | apply below_drew1 | refine below_set ?_ GE185.out) | exact HB.out))) : w.heap.size ≤ gb191)); have n4_ := Aside0.mk ((by rw [hg]; exact (below_size (by repeat (first | (with_reducible first | exact HB.out | apply below_alloc | apply pw_below_drewN | apply below_drew1 | refine below_set ?_ GE185.out) | exact HB.out))) : w.heap.size ≤ gb191)); have n5_ := Aside0.mk ((by rw [hg]; exact Nat.ne_of_lt (blk_lt (g := gb185) (o := .cells #[.int .i64 0, .int .i64 0, .int .i64 0, .int .i64 0] 72 (0, 0)) (by (with_reducible repeat (first | refine blk_drewN ?_ _ | refine blk_drew ?_ | refine blk_alloc ?_ _)); exact BK185.out)) : gb185 ≠ gb191)); have n6_ := Aside0.mk ((by rw [hg]; exact Nat.ne_of_gt (blk_lt (g := gb185) (o := .cells #[.int .i64 0, .int .i64 0, .int .i64 0, .int .i64 0] 72 (0, 0)) (by (with_reducible repeat (first | refine blk_drewN ?_ _ | refine blk_drew ?_ | refine blk_alloc ?_ _)); exact BK185.out)) : gb191 ≠ gb185)); clear BK185; clear HB; have BK185 := n0_; have HB := n1_; have BK191 := n2_; have GW191 := n3_; have GE191 := n4_; have NB185_191 := n5_; have NB191_185 := n6_; clear n0_ n1_ n2_ n3_ n4_ n5_ n6_; clear hb hbox hg; have hnb93 := NB191_185.out; have hnc93 := NB185_191.out; have hcz94_0 : w92.cell? ⟨gb191, 0, none⟩ = some (.int .i64 0) := (blk_cell BK191.out 0).trans rfl; have hcz94_1 : w92.cell? ⟨gb191, 1, none⟩ = some (.int .i64 0) := (blk_cell BK191.out 1).trans rfl; have hcz94_2 : w92.cell? ⟨gb191, 2, none⟩ = some (.int .i64 0) := (blk_cell BK191.out 2).trans rfl; have hcz94_3 : w92.cell? ⟨gb191, 3, none⟩ = some (.int .i64 0) := (blk_cell BK191.out 3).trans rfl; have hfz94_0 := blk_frozen BK191.out 0; have hfz94_1 := blk_frozen BK191.out 1; have hfz94_2 := blk_frozen BK191.out 2; have hfz94_3 := blk_frozen BK191.out 3; have p192 : 0 ≤ ((ji13) : Int) := of_decide_eq_true (by first | (with_reducible assumption) | assumption); have q192 : (ji13) < (l0.length : Int) := of_decide_eq_true (by first | (with_reducible assumption) | assumption); obtain ⟨ad192, e192, hx192_0⟩ := Kd.at_string HR0.out (ji13) p192 q192; obtain rfl : ad186 = ad192 := (by injection e192); have hn192_0 : ad186.block ≠ gb191 := Nat.ne_of_lt (Nat.lt_of_lt_of_le (by have := World.block_lt_of_cell? _ _ hx192_0; first | rwa [add_block] at this | exact this) GW191.out); have hn192_1 : ad186.block ≠ gb191 := Nat.ne_of_lt (Nat.lt_of_lt_of_le (by have := World.block_lt_of_cell? _ _ hx192_0; first | rwa [add_block] at this | exact this) GW191.out); have hn192_2 : ad186.block ≠ gb191 := Nat.ne_of_lt (Nat.lt_of_lt_of_le (by have := World.block_lt_of_cell? _ _ hx192_0; first | rwa [add_block] at this | exact this) GW191.out); have hn192_3 : ad186.block ≠ gb191 := Nat.ne_of_lt (Nat.lt_of_lt_of_le (by have := World.block_lt_of_cell? _ _ hx192_0; first | rwa [add_block] at this | exact this) GW191.out); replace hx192_0 := (HB.out.cell (World.block_lt_of_cell? w _ hx192_0)).trans hx192_0; replace hx192_0 := (cell_far (p := ⟨gb191, 0, none⟩) (by first | (rw [add_block]; exact hn192_0) | (show (Addr.add _ _).block ≠ _; rw [add_block]; exact hn192_0) | exact hn192_0) (.int .i64 0)).trans hx192_0; replace hx192_0 := (cell_far (p := ⟨gb191, 1, none⟩) (by first | (rw [add_block]; exact hn192_1) | (show (Addr.add _ _).block ≠ _; rw [add_block]; exact hn192_1) | exact hn192_1) (.int .i64 t190)).trans hx192_0; replace hx192_0 := (cell_far (p := ⟨gb191, 2, none⟩) (by first | (rw [add_block]; exact hn192_2) | (show (Addr.add _ _).block ≠ _; rw [add_block]; exact hn192_2) | exact hn192_2) (.int .i64 0)).trans hx192_0; replace hx192_0 := (cell_far (p := ⟨gb191, 3, none⟩) (by first | (rw [add_block]; exact hn192_3) | (show (Addr.add _ _).block ≠ _; rw [add_block]; exact hn192_3) | exact hn192_3) (.int .i64 0)).trans hx192_0; clear hn192_0; clear hn192_1; clear hn192_2; clear hn192_3; replace p192 := eq_true p192; replace q192 := eq_true q192) | ((with_reducible refine gate_callee (f := 133) rfl ?_); refine goesL_ (some 29) rfl rfl Tryd.func133 (by kernel_rfl) rfl #[.string (rdOf ByteArray.empty l0 (ji13))] rfl (by (try simp only [List.map_toArray, List.map_cons, List.map_nil]); first | done | (simp only [hji13]; rfl) | rfl | (simp only [List.length_drop, List.length_take]; rfl)) ?_; (with_reducible refine (o_number.calls (rdOf ByteArray.empty l0 (ji13)) t193 _ A16.out ?side1).mono ?_); (case side1 => exact Gl.below HG.out (by repeat (first | (with_reducible first | exact HB.out | apply below_alloc | apply pw_below_drewN | apply below_drew1 | refine below_set ?_ GE185.out | refine below_set ?_ GE191.out) | exact HB.out))); rintro e w95 ⟨rfl, hb⟩; refine ⟨_, rfl, ?_⟩; have n0_ := Aside0.mk (blk_below (g := gb185) (o := .cells #[.int .i64 0, .int .i64 0, .int .i64 0, .int .i64 0] 72 (0, 0)) (by (with_reducible repeat (first | refine blk_drewN ?_ _ | refine blk_drew ?_ | refine blk_alloc ?_ _)); refine blk_far ?_ NB185_191.out _; (with_reducible repeat (first | refine blk_drewN ?_ _ | refine blk_drew ?_ | refine blk_alloc ?_ _)); refine blk_far ?_ NB185_191.out _; (with_reducible repeat (first | refine blk_drewN ?_ _ | refine blk_drew ?_ | refine blk_alloc ?_ _)); refine blk_far ?_ NB185_191.out _; (with_reducible repeat (first | refine blk_drewN ?_ _ | refine blk_drew ?_ | refine blk_alloc ?_ _)); refine blk_far ?_ NB185_191.out _; (with_reducible repeat (first | refine blk_drewN ?_ _ | refine blk_drew ?_ | refine blk_alloc ?_ _)); exact BK185.out) hb); have n1_ := Aside0.mk (blk_below (g := gb191) (o := .cells #[.int .i64 0, .int .i64 t190, .int .i64 0, .int .i64 0] 72 (0, 0)) (by (with_reducible repeat (first | refine blk_drewN ?_ _ | refine blk_drew ?_ | refine blk_alloc ?_ _)); refine blk_put (cs := #[.int .i64 0, .int .i64 t190, .int .i64 0, .int .i64 0]) ?_ 3 _ rfl; (with_reducible repeat (first | refine blk_drewN ?_ _ | refine blk_drew ?_ | refine blk_alloc ?_ _)); refine blk_put (cs := #[.int .i64 0, .int .i64 t190, .int .i64 0, .int .i64 0]) ?_ 2 _ rfl; (with_reducible repeat (first | refine blk_drewN ?_ _ | refine blk_drew ?_ | refine blk_alloc ?_ _)); refine blk_put (cs := #[.int .i64 0, .int .i64 0, .int .i64 0, .int .i64 0]) ?_ 1 _ rfl; (with_reducible repeat (first | refine blk_drewN ?_ _ | refine blk_drew ?_ | refine blk_alloc ?_ _)); refine blk_put (cs := #[.int .i64 0, .int .i64 0, .int .i64 0, .int .i64 0]) ?_ 0 _ rfl; (with_reducible repeat (first | refine blk_drewN ?_ _ | refine blk_drew ?_ | refine blk_alloc ?_ _)); exact BK191.out) hb); have n2_ := Aside0.mk (below_step (by repeat (first | (with_reducible first | exact HB.out | apply below_alloc | apply pw_below_drewN | apply below_drew1 | refine below_set ?_ GE185.out | refine below_set ?_ GE191.out) | exact HB.out)) hb); clear BK185; clear BK191; clear HB; have BK185 := n0_; have BK191 := n1_; have HB := n2_; clear n0_ n1_ n2_; (try clear hb); (try clear hb2); (try clear hk); (try clear hi); have p194 : 0 ≤ (1 : Int) := (by omega); have q194 : 1 < (l0.length : Int) := of_decide_eq_true (by first | (with_reducible assumption) | assumption); obtain ⟨ad194, e194, hx194_0⟩ := Kd.at_string HR0.out 1 p194 q194; obtain rfl : ad186 = ad194 := (by injection e194); (try simp only [show (1 : Int).toNat = 1 from rfl, Nat.reduceMul, Nat.reduceEqDiff, Go.Addr.add, ↓reduceIte] at hx194_0); have qi194 : (1 < l0.length) = True := eq_true (by omega); (try rw [show ((1 : Int)).toNat = 1 from rfl] at hx194_0); replace hx194_0 := (HB.out.cell (World.block_lt_of_cell? w _ hx194_0)).trans hx194_0; replace p194 := eq_true p194; replace q194 := eq_true q194; have hcz96_0 : w95.cell? ⟨gb191, 0, none⟩ = some (.int .i64 0) := (blk_cell BK191.out 0).trans rfl; have hcz96_1 : w95.cell? ⟨gb191, 1, none⟩ = some (.int .i64 t190) := (blk_cell BK191.out 1).trans rfl; have hcz96_2 : w95.cell? ⟨gb191, 2, none⟩ = some (.int .i64 0) := (blk_cell BK191.out 2).trans rfl; have hcz96_3 : w95.cell? ⟨gb191, 3, none⟩ = some (.int .i64 0) := (blk_cell BK191.out 3).trans rfl; have hfz96_0 := blk_frozen BK191.out 0; have hfz96_1 := blk_frozen BK191.out 1; have hfz96_2 := blk_frozen BK191.out 2; have hfz96_3 := blk_frozen BK191.out 3; have hcz97_0 : w95.cell? ⟨gb185, 0, none⟩ = some (.int .i64 0) := (blk_cell BK185.out 0).trans rfl; have hcz97_1 : w95.cell? ⟨gb185, 1, none⟩ = some (.int .i64 0) := (blk_cell BK185.out 1).trans rfl; have hcz97_2 : w95.cell? ⟨gb185, 2, none⟩ = some (.int .i64 0) := (blk_cell BK185.out 2).trans rfl; have hcz97_3 : w95.cell? ⟨gb185, 3, none⟩ = some (.int .i64 0) := (blk_cell BK185.out 3).trans rfl; have hfz97_0 := blk_frozen BK185.out 0; have hfz97_1 := blk_frozen BK185.out 1; have hfz97_2 := blk_frozen BK185.out 2; have hfz97_3 := blk_frozen BK185.out 3))
             refine bodyPost_ret (results_cell_row rfl _ _ gb185 72 #[.int .i64 7, .int .i64 t190, .int .i64 t193, .int .i64 0] (0, 0) _ rfl (by (with_reducible repeat (first | refine blk_drewN ?_ _ | refine blk_drew ?_ | refine blk_alloc ?_ _)); refine blk_put (cs := #[.int .i64 7, .int .i64 t190, .int .i64 t193, .int .i64 0]) ?_ 3 _ rfl; (with_reducible repeat (first | refine blk_drewN ?_ _ | refine blk_drew ?_ | refine blk_alloc ?_ _)); refine blk_put (cs := #[.int .i64 7, .int .i64 t190, .int .i64 0, .int .i64 0]) ?_ 2 _ rfl; (with_reducible repeat (first | refine blk_drewN ?_ _ | refine blk_drew ?_ | refine blk_alloc ?_ _)); refine blk_put (cs := #[.int .i64 7, .int .i64 0, .int .i64 0, .int .i64 0]) ?_ 1 _ rfl; (with_reducible repeat (first | refine blk_drewN ?_ _ | refine blk_drew ?_ | refine blk_alloc ?_ _)); refine blk_put (cs := #[.int .i64 0, .int .i64 0, .int .i64 0, .int .i64 0]) ?_ 0 _ rfl; (with_reducible repeat (first | refine blk_drewN ?_ _ | refine blk_drew ?_ | refine blk_alloc ?_ _)); refine blk_far ?_ NB185_191.out _; (with_reducible repeat (first | refine blk_drewN ?_ _ | refine blk_drew ?_ | refine blk_alloc ?_ _)); refine blk_far ?_ NB185_191.out _; (with_reducible repeat (first | refine blk_drewN ?_ _ | refine blk_drew ?_ | refine blk_alloc ?_ _)); exact BK185.out) Tryd.underlying72 rfl (by kernel_rfl)) rfl ?_
             exact ⟨by first | rfl | (simp [errW_none, errW_some] <;> rfl) | (simp only [← hji13]; first | rfl | (simp [errW_none, errW_some] <;> rfl)) | (simp [*, errW_none, errW_some] <;> rfl), by repeat (first | (with_reducible first | exact HB.out | apply below_alloc | apply pw_below_drewN | apply below_drew1 | refine below_set ?_ GE185.out | refine below_set ?_ GE191.out) | exact HB.out)⟩
            ·rw [if_neg c89] at H
             have c89b0 : ((rdOf ByteArray.empty l0 1).toList == ([97, 98, 111, 114, 116] : List UInt8)) = false := beq_eq_false_iff_ne.mpr c89
             have c89b1 : ((rdOf ByteArray.empty l0 1).toList != ([97, 98, 111, 114, 116] : List UInt8)) = true := bne_iff_ne.mpr c89
             simp only [Option.some.injEq, Prod.mk.injEq] at H
             obtain ⟨rfl, rfl, rfl, rfl⟩ := H
             go_enter Tryd.func97, Tryd.ntmps97
             go_wp2_with (first | ((with_reducible refine gate_dst (N := 2) rfl ?_); refine box_event ?hg (N := 2) ?hd (cs := #[.int .i64 0, .int .i64 0, .int .i64 0, .int .i64 0]) (t := 72) ?hr ?_; (case hd => rfl); (case hg => rfl); (case hr => first | (go_simp; done) | (go_simp; rfl)); intro gb185 hg w98 hbox hb; have n0_ := Aside0.mk (below_step (by repeat (first | (with_reducible first | exact HB.out | apply below_alloc | apply pw_below_drewN | apply below_drew1) | exact HB.out)) hb); have n1_ := Aside0.mk (hbox); have n2_ := Aside0.mk ((by rw [hg]; exact (below_size (by repeat (first | (with_reducible first | exact HB.out | apply below_alloc | apply pw_below_drewN | apply below_drew1) | exact HB.out))) : w.heap.size ≤ gb185)); have n3_ := Aside0.mk ((by rw [hg]; exact (below_size (by repeat (first | (with_reducible first | exact HB.out | apply below_alloc | apply pw_below_drewN | apply below_drew1) | exact HB.out))) : w.heap.size ≤ gb185)); clear HB; have HB := n0_; have BK185 := n1_; have GW185 := n2_; have GE185 := n3_; clear n0_ n1_ n2_ n3_; clear hb hbox hg; have p186 : 0 ≤ (0 : Int) := (by omega); have q186 : 0 < (l0.length : Int) := of_decide_eq_true (by first | (with_reducible assumption) | assumption); obtain ⟨ad186, e186, hx186_0⟩ := Kd.at_string HR0.out 0 p186 q186; cases e186; have qi186 : (0 < l0.length) = True := eq_true (by omega); (try rw [show ((0 : Int)).toNat = 0 from rfl] at hx186_0); (try rw [Addr.add_zero'] at hx186_0); replace hx186_0 := (HB.out.cell (World.block_lt_of_cell? w _ hx186_0)).trans hx186_0; replace p186 := eq_true p186; replace q186 := eq_true q186; have p189 : 0 ≤ (0 : Int) := (by omega); have q189 : 0 < (l0.length : Int) := of_decide_eq_true (by first | (with_reducible assumption) | assumption); obtain ⟨ad189, e189, hx189_0⟩ := Kd.at_string HR0.out 0 p189 q189; obtain rfl : ad186 = ad189 := (by injection e189); have qi189 : (0 < l0.length) = True := eq_true (by omega); (try rw [show ((0 : Int)).toNat = 0 from rfl] at hx189_0); (try rw [Addr.add_zero'] at hx189_0); replace hx189_0 := (HB.out.cell (World.block_lt_of_cell? w _ hx189_0)).trans hx189_0; replace p189 := eq_true p189; replace q189 := eq_true q189) | ((with_reducible refine gate_callee (f := 133) rfl ?_); refine goesL_ (some 21) rfl rfl Tryd.func133 (by kernel_rfl) rfl #[.string (rdOf ByteArray.empty l0 0)] rfl (by (try simp only [List.map_toArray, List.map_cons, List.map_nil]); first | done | rfl | (simp only [List.length_drop, List.length_take]; rfl)) ?_; (with_reducible refine (o_number.calls (rdOf ByteArray.empty l0 0) t190 _ A12.out ?side1).mono ?_); (case side1 => exact Gl.below HG.out (by repeat (first | (with_reducible first | exact HB.out | apply below_alloc | apply pw_below_drewN | apply below_drew1 | refine below_set ?_ GE185.out) | exact HB.out))); rintro e w99 ⟨rfl, hb⟩; refine ⟨_, rfl, ?_⟩; have n0_ := Aside0.mk (blk_below (g := gb185) (o := .cells #[.int .i64 0, .int .i64 0, .int .i64 0, .int .i64 0] 72 (0, 0)) (by (with_reducible repeat (first | refine blk_drewN ?_ _ | refine blk_drew ?_ | refine blk_alloc ?_ _)); exact BK185.out) hb); have n1_ := Aside0.mk (below_step (by repeat (first | (with_reducible first | exact HB.out | apply below_alloc | apply pw_below_drewN | apply below_drew1 | refine below_set ?_ GE185.out) | exact HB.out)) hb); clear BK185; clear HB; have BK185 := n0_; have HB := n1_; clear n0_ n1_; (try clear hb); (try clear hb2); (try clear hk); (try clear hi)) | ((with_reducible refine gate_dst (N := 3) rfl ?_); refine box_event ?hg (N := 3) ?hd (cs := #[.int .i64 0, .int .i64 0, .int .i64 0, .int .i64 0]) (t := 72) ?hr ?_; (case hd => rfl); (case hg => rfl); (case hr => first | (go_simp; done) | (go_simp; rfl)); intro gb191 hg w100 hbox hb; have n0_ := Aside0.mk (blk_below (g := gb185) (o := .cells #[.int .i64 0, .int .i64 0, .int .i64 0, .int .i64 0] 72 (0, 0)) (by (with_reducible repeat (first | refine blk_drewN ?_ _ | refine blk_drew ?_ | refine blk_alloc ?_ _)); exact BK185.out) hb); have n1_ := Aside0.mk (below_step (by repeat (first | (with_reducible first | exact HB.out | apply below_alloc | apply pw_below_drewN | apply below_drew1 | refine below_set ?_ GE185.out) | exact HB.out)) hb); have n2_ := Aside0.mk (hbox); have n3_ := Aside0.mk ((by rw [hg]; exact (below_size (by repeat (first | (with_reducible first | exact HB.out | apply below_alloc | apply pw_below_drewN | apply below_drew1 | refine below_set ?_ GE185.out) | exact HB.out))) : w.heap.size ≤ gb191)); have n4_ := Aside0.mk ((by rw [hg]; exact (below_size (by repeat (first | (with_reducible first | exact HB.out | apply below_alloc | apply pw_below_drewN | apply below_drew1 | refine below_set ?_ GE185.out) | exact HB.out))) : w.heap.size ≤ gb191)); have n5_ := Aside0.mk ((by rw [hg]; exact Nat.ne_of_lt (blk_lt (g := gb185) (o := .cells #[.int .i64 0, .int .i64 0, .int .i64 0, .int .i64 0] 72 (0, 0)) (by (with_reducible repeat (first | refine blk_drewN ?_ _ | refine blk_drew ?_ | refine blk_alloc ?_ _)); exact BK185.out)) : gb185 ≠ gb191)); have n6_ := Aside0.mk ((by rw [hg]; exact Nat.ne_of_gt (blk_lt (g := gb185) (o := .cells #[.int .i64 0, .int .i64 0, .int .i64 0, .int .i64 0] 72 (0, 0)) (by (with_reducible repeat (first | refine blk_drewN ?_ _ | refine blk_drew ?_ | refine blk_alloc ?_ _)); exact BK185.out)) : gb191 ≠ gb185)); clear BK185; clear HB; have BK185 := n0_; have HB := n1_; have BK191 := n2_; have GW191 := n3_; have GE191 := n4_; have NB185_191 := n5_; have NB191_185 := n6_; clear n0_ n1_ n2_ n3_ n4_ n5_ n6_; clear hb hbox hg; have hnb101 := NB191_185.out; have hnc101 := NB185_191.out; have hcz102_0 : w100.cell? ⟨gb191, 0, none⟩ = some (.int .i64 0) := (blk_cell BK191.out 0).trans rfl; have hcz102_1 : w100.cell? ⟨gb191, 1, none⟩ = some (.int .i64 0) := (blk_cell BK191.out 1).trans rfl; have hcz102_2 : w100.cell? ⟨gb191, 2, none⟩ = some (.int .i64 0) := (blk_cell BK191.out 2).trans rfl; have hcz102_3 : w100.cell? ⟨gb191, 3, none⟩ = some (.int .i64 0) := (blk_cell BK191.out 3).trans rfl; have hfz102_0 := blk_frozen BK191.out 0; have hfz102_1 := blk_frozen BK191.out 1; have hfz102_2 := blk_frozen BK191.out 2; have hfz102_3 := blk_frozen BK191.out 3; have p192 : 0 ≤ ((ji13) : Int) := of_decide_eq_true (by first | (with_reducible assumption) | assumption); have q192 : (ji13) < (l0.length : Int) := of_decide_eq_true (by first | (with_reducible assumption) | assumption); obtain ⟨ad192, e192, hx192_0⟩ := Kd.at_string HR0.out (ji13) p192 q192; obtain rfl : ad186 = ad192 := (by injection e192); have hn192_0 : ad186.block ≠ gb191 := Nat.ne_of_lt (Nat.lt_of_lt_of_le (by have := World.block_lt_of_cell? _ _ hx192_0; first | rwa [add_block] at this | exact this) GW191.out); have hn192_1 : ad186.block ≠ gb191 := Nat.ne_of_lt (Nat.lt_of_lt_of_le (by have := World.block_lt_of_cell? _ _ hx192_0; first | rwa [add_block] at this | exact this) GW191.out); have hn192_2 : ad186.block ≠ gb191 := Nat.ne_of_lt (Nat.lt_of_lt_of_le (by have := World.block_lt_of_cell? _ _ hx192_0; first | rwa [add_block] at this | exact this) GW191.out); have hn192_3 : ad186.block ≠ gb191 := Nat.ne_of_lt (Nat.lt_of_lt_of_le (by have := World.block_lt_of_cell? _ _ hx192_0; first | rwa [add_block] at this | exact this) GW191.out); replace hx192_0 := (HB.out.cell (World.block_lt_of_cell? w _ hx192_0)).trans hx192_0; replace hx192_0 := (cell_far (p := ⟨gb191, 0, none⟩) (by first | (rw [add_block]; exact hn192_0) | (show (Addr.add _ _).block ≠ _; rw [add_block]; exact hn192_0) | exact hn192_0) (.int .i64 0)).trans hx192_0; replace hx192_0 := (cell_far (p := ⟨gb191, 1, none⟩) (by first | (rw [add_block]; exact hn192_1) | (show (Addr.add _ _).block ≠ _; rw [add_block]; exact hn192_1) | exact hn192_1) (.int .i64 t190)).trans hx192_0; replace hx192_0 := (cell_far (p := ⟨gb191, 2, none⟩) (by first | (rw [add_block]; exact hn192_2) | (show (Addr.add _ _).block ≠ _; rw [add_block]; exact hn192_2) | exact hn192_2) (.int .i64 0)).trans hx192_0; replace hx192_0 := (cell_far (p := ⟨gb191, 3, none⟩) (by first | (rw [add_block]; exact hn192_3) | (show (Addr.add _ _).block ≠ _; rw [add_block]; exact hn192_3) | exact hn192_3) (.int .i64 0)).trans hx192_0; clear hn192_0; clear hn192_1; clear hn192_2; clear hn192_3; replace p192 := eq_true p192; replace q192 := eq_true q192) | ((with_reducible refine gate_callee (f := 133) rfl ?_); refine goesL_ (some 29) rfl rfl Tryd.func133 (by kernel_rfl) rfl #[.string (rdOf ByteArray.empty l0 (ji13))] rfl (by (try simp only [List.map_toArray, List.map_cons, List.map_nil]); first | done | (simp only [hji13]; rfl) | rfl | (simp only [List.length_drop, List.length_take]; rfl)) ?_; (with_reducible refine (o_number.calls (rdOf ByteArray.empty l0 (ji13)) t193 _ A16.out ?side1).mono ?_); (case side1 => exact Gl.below HG.out (by repeat (first | (with_reducible first | exact HB.out | apply below_alloc | apply pw_below_drewN | apply below_drew1 | refine below_set ?_ GE185.out | refine below_set ?_ GE191.out) | exact HB.out))); rintro e w103 ⟨rfl, hb⟩; refine ⟨_, rfl, ?_⟩; have n0_ := Aside0.mk (blk_below (g := gb185) (o := .cells #[.int .i64 0, .int .i64 0, .int .i64 0, .int .i64 0] 72 (0, 0)) (by (with_reducible repeat (first | refine blk_drewN ?_ _ | refine blk_drew ?_ | refine blk_alloc ?_ _)); refine blk_far ?_ NB185_191.out _; (with_reducible repeat (first | refine blk_drewN ?_ _ | refine blk_drew ?_ | refine blk_alloc ?_ _)); refine blk_far ?_ NB185_191.out _; (with_reducible repeat (first | refine blk_drewN ?_ _ | refine blk_drew ?_ | refine blk_alloc ?_ _)); refine blk_far ?_ NB185_191.out _; (with_reducible repeat (first | refine blk_drewN ?_ _ | refine blk_drew ?_ | refine blk_alloc ?_ _)); refine blk_far ?_ NB185_191.out _; (with_reducible repeat (first | refine blk_drewN ?_ _ | refine blk_drew ?_ | refine blk_alloc ?_ _)); exact BK185.out) hb); have n1_ := Aside0.mk (blk_below (g := gb191) (o := .cells #[.int .i64 0, .int .i64 t190, .int .i64 0, .int .i64 0] 72 (0, 0)) (by (with_reducible repeat (first | refine blk_drewN ?_ _ | refine blk_drew ?_ | refine blk_alloc ?_ _)); refine blk_put (cs := #[.int .i64 0, .int .i64 t190, .int .i64 0, .int .i64 0]) ?_ 3 _ rfl; (with_reducible repeat (first | refine blk_drewN ?_ _ | refine blk_drew ?_ | refine blk_alloc ?_ _)); refine blk_put (cs := #[.int .i64 0, .int .i64 t190, .int .i64 0, .int .i64 0]) ?_ 2 _ rfl; (with_reducible repeat (first | refine blk_drewN ?_ _ | refine blk_drew ?_ | refine blk_alloc ?_ _)); refine blk_put (cs := #[.int .i64 0, .int .i64 0, .int .i64 0, .int .i64 0]) ?_ 1 _ rfl; (with_reducible repeat (first | refine blk_drewN ?_ _ | refine blk_drew ?_ | refine blk_alloc ?_ _)); refine blk_put (cs := #[.int .i64 0, .int .i64 0, .int .i64 0, .int .i64 0]) ?_ 0 _ rfl; (with_reducible repeat (first | refine blk_drewN ?_ _ | refine blk_drew ?_ | refine blk_alloc ?_ _)); exact BK191.out) hb); have n2_ := Aside0.mk (below_step (by repeat (first | (with_reducible first | exact HB.out | apply below_alloc | apply pw_below_drewN | apply below_drew1 | refine below_set ?_ GE185.out | refine below_set ?_ GE191.out) | exact HB.out)) hb); clear BK185; clear BK191; clear HB; have BK185 := n0_; have BK191 := n1_; have HB := n2_; clear n0_ n1_ n2_; (try clear hb); (try clear hb2); (try clear hk); (try clear hi); have p194 : 0 ≤ (1 : Int) := (by omega); have q194 : 1 < (l0.length : Int) := of_decide_eq_true (by first | (with_reducible assumption) | assumption); obtain ⟨ad194, e194, hx194_0⟩ := Kd.at_string HR0.out 1 p194 q194; obtain rfl : ad186 = ad194 := (by injection e194); (try simp only [show (1 : Int).toNat = 1 from rfl, Nat.reduceMul, Nat.reduceEqDiff, Go.Addr.add, ↓reduceIte] at hx194_0); have qi194 : (1 < l0.length) = True := eq_true (by omega); (try rw [show ((1 : Int)).toNat = 1 from rfl] at hx194_0); replace hx194_0 := (HB.out.cell (World.block_lt_of_cell? w _ hx194_0)).trans hx194_0; replace p194 := eq_true p194; replace q194 := eq_true q194; have hcz104_0 : w103.cell? ⟨gb191, 0, none⟩ = some (.int .i64 0) := (blk_cell BK191.out 0).trans rfl; have hcz104_1 : w103.cell? ⟨gb191, 1, none⟩ = some (.int .i64 t190) := (blk_cell BK191.out 1).trans rfl; have hcz104_2 : w103.cell? ⟨gb191, 2, none⟩ = some (.int .i64 0) := (blk_cell BK191.out 2).trans rfl; have hcz104_3 : w103.cell? ⟨gb191, 3, none⟩ = some (.int .i64 0) := (blk_cell BK191.out 3).trans rfl; have hfz104_0 := blk_frozen BK191.out 0; have hfz104_1 := blk_frozen BK191.out 1; have hfz104_2 := blk_frozen BK191.out 2; have hfz104_3 := blk_frozen BK191.out 3; have hcz105_0 : w103.cell? ⟨gb185, 0, none⟩ = some (.int .i64 0) := (blk_cell BK185.out 0).trans rfl; have hcz105_1 : w103.cell? ⟨gb185, 1, none⟩ = some (.int .i64 0) := (blk_cell BK185.out 1).trans rfl; have hcz105_2 : w103.cell? ⟨gb185, 2, none⟩ = some (.int .i64 0) := (blk_cell BK185.out 2).trans rfl; have hcz105_3 : w103.cell? ⟨gb185, 3, none⟩ = some (.int .i64 0) := (blk_cell BK185.out 3).trans rfl; have hfz105_0 := blk_frozen BK185.out 0; have hfz105_1 := blk_frozen BK185.out 1; have hfz105_2 := blk_frozen BK185.out 2; have hfz105_3 := blk_frozen BK185.out 3))
             refine bodyPost_ret (results_cell_row rfl _ _ gb185 72 #[.int .i64 0, .int .i64 t190, .int .i64 0, .int .i64 0] (0, 0) _ rfl (by (with_reducible repeat (first | refine blk_drewN ?_ _ | refine blk_drew ?_ | refine blk_alloc ?_ _)); refine blk_put (cs := #[.int .i64 0, .int .i64 t190, .int .i64 0, .int .i64 0]) ?_ 3 _ rfl; (with_reducible repeat (first | refine blk_drewN ?_ _ | refine blk_drew ?_ | refine blk_alloc ?_ _)); refine blk_put (cs := #[.int .i64 0, .int .i64 t190, .int .i64 0, .int .i64 0]) ?_ 2 _ rfl; (with_reducible repeat (first | refine blk_drewN ?_ _ | refine blk_drew ?_ | refine blk_alloc ?_ _)); refine blk_put (cs := #[.int .i64 0, .int .i64 0, .int .i64 0, .int .i64 0]) ?_ 1 _ rfl; (with_reducible repeat (first | refine blk_drewN ?_ _ | refine blk_drew ?_ | refine blk_alloc ?_ _)); refine blk_put (cs := #[.int .i64 0, .int .i64 0, .int .i64 0, .int .i64 0]) ?_ 0 _ rfl; (with_reducible repeat (first | refine blk_drewN ?_ _ | refine blk_drew ?_ | refine blk_alloc ?_ _)); exact BK185.out) Tryd.underlying72 rfl (by kernel_rfl)) rfl ?_
             exact ⟨by first | rfl | (simp [errW_none, errW_some] <;> rfl) | (simp only [← hji13]; first | rfl | (simp [errW_none, errW_some] <;> rfl)) | (simp [*, errW_none, errW_some] <;> rfl), by repeat (first | (with_reducible first | exact HB.out | apply below_alloc | apply pw_below_drewN | apply below_drew1 | refine below_set ?_ GE185.out | refine below_set ?_ GE191.out) | exact HB.out)⟩
      ·rw [if_neg c17] at H
       exact absurd H (by simp)
     ·rw [if_neg c15] at H
      exact absurd H (by simp)
    ·rw [if_neg c14] at H
     exact absurd H (by simp)
  ·rw [if_neg c5] at H
   exact absurd H (by simp)
end Go.Proofs.YtadepdeckapgcaaDoor.PTr
end

section
namespace Go.Proofs.YtadepdeckapgcaaDoor.Tr
open Go.RowKit Go.Proofs.YtadepdeckapgcaaDoorW.PrintWords Go.Proofs.YtadepdeckapgcaaDoor.PTr Go.Proofs.YtadepdeckapgcaaDoor.Orc
set_option linter.unusedVariables false
set_option linter.unusedSimpArgs false
def inE (e : S72) : Prop := in64 e.f0 ∧ in64 e.f1 ∧ in64 e.f2 ∧ in64 e.f3
def chkE (e : S72) : Int := chk e.f0 e.f1 e.f2 e.f3
def lnE (e : S72) : List UInt8 := (lineB e.f0 e.f1 e.f2 e.f3).data.toList ++ [10]
theorem lnE_len (e : S72) (h : inE e) (hc : chkE e = 0) : (lnE e).length ≤ 101 := by
  have := line_size e.f0 e.f1 e.f2 e.f3 h.2.1 h.2.2.1 h.2.2.2 hc
  rw [Lib.size_eq] at this
  unfold lnE; simp; simpa using this
def textOf : List S72 → List UInt8 → ByteArray × Int
  | [], L => (⟨L.toArray⟩, 0)
  | e :: l, L => if chkE e = 0 then textOf l (L ++ lnE e) else ((⟨#[]⟩ : ByteArray), chkE e)
theorem textGo_eq : ∀ (l : List S72) (L : List UInt8), (∀ e ∈ l, inE e) → L.length + 101 * l.length ≤ 1000000000 → textGo l L = some (textOf l L)
  | [], L, _, _ => rfl
  | e :: l, L, h, hL => by
    have he := h e (by simp)
    simp only [textGo, textOf]
    rw [lineRK e.f0 e.f1 e.f2 e.f3 he.2.1 he.2.2.1 he.2.2.2 20 (by omega)]
    simp only [Option.bind_some]
    unfold lineR
    by_cases hc : chk e.f0 e.f1 e.f2 e.f3 = 0
    · have hln := lnE_len e he hc
      have hs := line_size e.f0 e.f1 e.f2 e.f3 he.2.1 he.2.2.1 he.2.2.2 hc
      rw [if_pos hc]
      simp only [List.length_cons] at hL
      rw [if_pos rfl, if_pos ⟨by dsimp only; omega, by omega⟩, if_pos (show chkE e = 0 from hc)]
      exact textGo_eq l (L ++ lnE e) (fun x hx => h x (by simp [hx])) (by rw [List.length_append]; omega)
    · rw [if_neg hc]
      simp only
      rw [if_neg hc, if_neg (show ¬ chkE e = 0 from hc)]
      rfl
theorem text_some (l : List S72) (h : ∀ e ∈ l, inE e) (hl : l.length ≤ 1000000) : o_Text.f l = some (textOf l []) := by
  unfold o_Text.f
  rw [if_pos (by omega)]
  exact textGo_eq l [] h (by simp; omega)
theorem rd_at (l : List S72) (i : Nat) (h : i < l.length) : rd_T72 l (i : Int) = l[i] := by unfold rd_T72; simp [h]
theorem rtext_ev (l : List S72) (h : ∀ e ∈ l, inE e) (hl : l.length ≤ 1000000) : ∀ (d i : Nat) (acc : ByteArray), i + d = l.length → acc.size + 101 * d ≤ 1000000000 → Ev (fun k => logjamref41_Text.l0 k l acc (i : Int)) (textOf (l.drop i) acc.data.toList)
  | 0, i, acc, hi, ha => by
    refine Ev.step1 (fun k => ?_)
    simp only [logjamref41_Text.l0]
    rw [if_neg (by omega), List.drop_of_length_le (by omega)]
    simp only [textOf]
  | d + 1, i, acc, hi, ha => by
    have hlt : i < l.length := by omega
    have he := h l[i] (List.getElem_mem _)
    have hd : l.drop i = l[i] :: l.drop (i + 1) := List.drop_eq_getElem_cons hlt
    have hw : wrap64 ((i : Int) + 1) = ((i + 1 : Nat) : Int) := by unfold wrap64; omega
    rw [hd]
    simp only [textOf]
    by_cases hc : chkE l[i] = 0
    · have hs := line_size l[i].f0 l[i].f1 l[i].f2 l[i].f3 he.2.1 he.2.2.1 he.2.2.2 hc
      rw [if_pos hc]
      refine Ev.step (f := fun k => (logjamref41_Check.f k l[i].f0 l[i].f1 l[i].f2 l[i].f3).bind fun t177 => (if t177 = 0 then ((logjamref41_Line.f k l[i].f0 l[i].f1 l[i].f2 l[i].f3).bind fun t179 => (if acc.size + t179.size ≤ 9223372036854775807 then (if acc.size + t179.size + 1 ≤ 9223372036854775807 then (logjamref41_Text.l0 k l ((acc ++ t179) ++ (⟨#[10]⟩ : ByteArray)) ((i + 1 : Nat) : Int)) else (none)) else (none))) else (some ((⟨#[]⟩ : ByteArray), t177)))) (fun k => ?_) ?_
      · simp only [logjamref41_Text.l0]
        rw [if_pos (by omega), if_pos (by omega), rd_at l i hlt, hw]
      · refine Ev.bind (rcheck _ _ _ _) ?_
        refine Ev.congr (fun k => by rw [if_pos (show chk _ _ _ _ = 0 from hc)]) ?_
        refine Ev.bind (rline _ _ _ _ he.2.1 he.2.2.1 he.2.2.2 hc) ?_
        refine Ev.congr (fun k => by rw [if_pos (by omega), if_pos (by omega)]) ?_
        have q := rtext_ev l h hl d (i + 1) ((acc ++ lineB l[i].f0 l[i].f1 l[i].f2 l[i].f3) ++ (⟨#[10]⟩ : ByteArray)) (by omega) (by rw [ByteArray.size_append, ByteArray.size_append]; show _ + _ + 1 + _ ≤ _; omega)
        rw [show ((acc ++ lineB l[i].f0 l[i].f1 l[i].f2 l[i].f3) ++ (⟨#[10]⟩ : ByteArray)).data.toList = acc.data.toList ++ lnE l[i] by unfold lnE; simp] at q
        exact q
    · rw [if_neg hc]
      refine Ev.step (f := fun k => (logjamref41_Check.f k l[i].f0 l[i].f1 l[i].f2 l[i].f3).bind fun t177 => (if t177 = 0 then ((logjamref41_Line.f k l[i].f0 l[i].f1 l[i].f2 l[i].f3).bind fun t179 => (if acc.size + t179.size ≤ 9223372036854775807 then (if acc.size + t179.size + 1 ≤ 9223372036854775807 then (logjamref41_Text.l0 k l ((acc ++ t179) ++ (⟨#[10]⟩ : ByteArray)) ((i + 1 : Nat) : Int)) else (none)) else (none))) else (some ((⟨#[]⟩ : ByteArray), t177)))) (fun k => ?_) ?_
      · simp only [logjamref41_Text.l0]
        rw [if_pos (by omega), if_pos (by omega), rd_at l i hlt, hw]
      · refine Ev.bind (rcheck _ _ _ _) ?_
        exact Ev.const fun k => by rw [if_neg (show ¬ chk _ _ _ _ = 0 from hc)]; rfl
theorem few_some (l : List S72) : logjamlaw41_few.f l = some (l.take 300) := by
  unfold logjamlaw41_few.f
  by_cases h : (l.length : Int) > 300
  · rw [if_pos h, if_pos (by omega)]
    simp only [Option.bind_some]
    rw [if_pos (by simp; omega)]
    rfl
  · rw [if_neg h]
    simp only [Option.bind_some]
    rw [if_pos (by simp; omega), List.take_of_length_le (by omega)]
    rfl
end Go.Proofs.YtadepdeckapgcaaDoor.Tr
end

section
namespace Go.Proofs.YtadepdeckapgcaaDoor.Tr
open Go.RowKit Go.Proofs.YtadepdeckapgcaaDoorW.PrintWords Go.Proofs.YtadepdeckapgcaaDoor.PTr Go.Proofs.YtadepdeckapgcaaDoor.Orc
set_option linter.unusedVariables false
set_option linter.unusedSimpArgs false
def mkB (l : List UInt8) : ByteArray := ⟨l.toArray⟩
theorem mkB_list (l : List UInt8) : (mkB l).toList = l := by rw [Lib.toList_data]; simp [mkB]
theorem mkB_data (l : List UInt8) : (mkB l).data.toList = l := by simp [mkB]
theorem mkB_of (b : ByteArray) : mkB b.data.toList = b := ByteArray.ext (by simp [mkB])
theorem mkB_size (l : List UInt8) : (mkB l).size = l.length := by rw [Lib.size_eq, mkB_data]
theorem list_inj {a b : ByteArray} (h : a.toList = b.toList) : a = b := by
  rw [Lib.toList_data, Lib.toList_data] at h
  rw [← mkB_of a, ← mkB_of b, h]
theorem atoiN_in (s : ByteArray) : in64 (atoiN s) := by
  unfold atoiN in64
  cases h : Lib.atoiAll s.data.toList with
  | ok v => exact Lib.atoiAll_bounds h
  | range => exact Lib.atoiSat_bounds _
  | _ => exact ⟨by show (-9223372036854775808 : Int) ≤ 0; decide, by show (0 : Int) ≤ 9223372036854775807; decide⟩
theorem number_some (s : ByteArray) (h : s.size ≤ 281474976710656) : o_number.f s = some (atoiN s) := by unfold o_number.f; rw [if_pos h]
theorem atoiN_itoa (n : Int) (h : in64 n) : atoiN (mkB (Lib.itoa n)) = n := by
  unfold atoiN; rw [mkB_data, atoi_itoa n h.1 h.2]
def ofGo (x : ByteArray) : List ByteArray → Int → Int × Bool
  | [], _ => (0, false)
  | y :: l, i => if y = x then (i, true) else ofGo x l (i + 1)
def ixGo (x : ByteArray) : List ByteArray → Int → Int
  | [], _ => -1
  | y :: l, i => if x = y then i else ixGo x l (i + 1)
theorem ofGo_in (x : ByteArray) : ∀ (l : List ByteArray) (i : Int), 0 ≤ i → 0 ≤ (ofGo x l i).1 ∧ (ofGo x l i).1 ≤ i + l.length
  | [], i, h => by simp [ofGo]; omega
  | y :: l, i, h => by
    have ih := ofGo_in x l (i + 1) (by omega)
    simp only [ofGo]
    split
    · simp; omega
    · simp; omega
theorem ixGo_in (x : ByteArray) : ∀ (l : List ByteArray) (i : Int), 0 ≤ i → -1 ≤ ixGo x l i ∧ ixGo x l i ≤ i + l.length
  | [], i, h => by simp [ixGo]; omega
  | y :: l, i, h => by
    have ih := ixGo_in x l (i + 1) (by omega)
    simp only [ixGo]
    split
    · simp; omega
    · simp; omega
theorem of_l0 (x : ByteArray) (L : List ByteArray) (hL : L.length ≤ 1000) : ∀ (d i : Nat), i + d = L.length → Ev (fun k => op_Of.l0 k x L (L.length : Int) (i : Int)) (ofGo x (L.drop i) i)
  | 0, i, hi => by
    refine Ev.step1 (fun k => ?_)
    simp only [op_Of.l0]
    rw [if_neg (by omega), List.drop_of_length_le (by omega)]
    rfl
  | d + 1, i, hi => by
    have hlt : i < L.length := by omega
    have hd : L.drop i = L[i] :: L.drop (i + 1) := List.drop_eq_getElem_cons hlt
    have hw : wrap64 ((i : Int) + 1) = ((i + 1 : Nat) : Int) := by unfold wrap64; omega
    have hr : rdOf ByteArray.empty L (i : Int) = L[i] := by unfold rdOf; simp [hlt]
    rw [hd]
    simp only [ofGo]
    by_cases h : L[i] = x
    · refine Ev.step1 (fun k => ?_)
      simp only [op_Of.l0]
      rw [if_pos (by omega), if_pos (by omega), if_pos (by omega), hr, if_pos (by rw [h]), if_pos h]
    · refine Ev.step (f := fun k => op_Of.l0 k x L (L.length : Int) ((i + 1 : Nat) : Int)) (fun k => ?_) ?_
      · simp only [op_Of.l0]
        rw [if_pos (by omega), if_pos (by omega), if_pos (by omega), hr, if_neg (fun e => h (list_inj e)), hw]
      · rw [if_neg h]
        exact of_l0 x L hL d (i + 1) (by omega)
theorem ix_l0 (x : ByteArray) (L : List ByteArray) (hL : L.length ≤ 1000) : ∀ (d i : Nat), i + d = L.length → Ev (fun k => slices_Index_string_string.l0 k L x (L.length : Int) (i : Int)) (ixGo x (L.drop i) i)
  | 0, i, hi => by
    refine Ev.step1 (fun k => ?_)
    simp only [slices_Index_string_string.l0]
    rw [if_neg (by omega), List.drop_of_length_le (by omega)]
    rfl
  | d + 1, i, hi => by
    have hlt : i < L.length := by omega
    have hd : L.drop i = L[i] :: L.drop (i + 1) := List.drop_eq_getElem_cons hlt
    have hw : wrap64 ((i : Int) + 1) = ((i + 1 : Nat) : Int) := by unfold wrap64; omega
    have hr : rdOf ByteArray.empty L (i : Int) = L[i] := by unfold rdOf; simp [hlt]
    rw [hd]
    simp only [ixGo]
    by_cases h : x = L[i]
    · refine Ev.step1 (fun k => ?_)
      simp only [slices_Index_string_string.l0]
      rw [if_pos (by omega), if_pos (by omega), if_pos (by omega), hr, if_pos (by rw [← h]), if_pos h]
    · refine Ev.step (f := fun k => slices_Index_string_string.l0 k L x (L.length : Int) ((i + 1 : Nat) : Int)) (fun k => ?_) ?_
      · simp only [slices_Index_string_string.l0]
        rw [if_pos (by omega), if_pos (by omega), if_pos (by omega), hr, if_neg (fun e => h (list_inj e)), hw]
      · rw [if_neg h]
        exact ix_l0 x L hL d (i + 1) (by omega)
set_option maxRecDepth 100000 in
theorem of_ev (x : ByteArray) : Ev (fun k => op_Of.f k x) (ofGo x NM 0) := by
  have q := of_l0 x NM (by rw [NM_len]; omega) 52 0 (by rw [NM_len])
  refine Ev.congr (fun k => ?_) q
  unfold op_Of.f
  refine (congrArg (fun o => Option.bind o _) (show _ = some NM by decide +kernel)).trans ?_
  rfl
theorem ix_ev (x : ByteArray) : Ev (fun k => slices_Index_string_string.f k ED x) (ixGo x ED 0) := by
  have q := ix_l0 x ED (by rw [ED_len]; omega) 3 0 (by rw [ED_len])
  exact q
def opW : List UInt8 := [111, 112]
def outW : List UInt8 := [111, 117, 116]
def blockW : List UInt8 := [98, 108, 111, 99, 107]
def wakeW : List UInt8 := [119, 97, 107, 101]
def endW : List UInt8 := [101, 110, 100]
def abortW : List UInt8 := [97, 98, 111, 114, 116]
def tickW : List UInt8 := [116, 105, 99, 107]
def gsE (ws : List ByteArray) : S72 :=
  if (ws.length : Int) < 2 then ⟨0, 0, 0, 0⟩
  else if (rdOf ByteArray.empty ws 0).toList = tickW then ⟨6, -1, atoiN (rdOf ByteArray.empty ws 1), 0⟩
  else if (rdOf ByteArray.empty ws 1).toList = opW then ⟨1, atoiN (rdOf ByteArray.empty ws 0), (ofGo (rdOf ByteArray.empty ws ((2 : Int) % (ws.length : Int))) NM 0).1, atoiN (rdOf ByteArray.empty ws ((ws.length : Int) - 1))⟩
  else if (rdOf ByteArray.empty ws 1).toList = outW then ⟨2, atoiN (rdOf ByteArray.empty ws 0), atoiN (rdOf ByteArray.empty ws ((ws.length : Int) - 1)), 0⟩
  else if (rdOf ByteArray.empty ws 1).toList = blockW then ⟨3, atoiN (rdOf ByteArray.empty ws 0), (ofGo (rdOf ByteArray.empty ws ((2 : Int) % (ws.length : Int))) NM 0).1, 0⟩
  else if (rdOf ByteArray.empty ws 1).toList = wakeW then ⟨4, atoiN (rdOf ByteArray.empty ws 0), atoiN (rdOf ByteArray.empty ws ((ws.length : Int) - 1)), 0⟩
  else if (rdOf ByteArray.empty ws 1).toList = endW then ⟨5, atoiN (rdOf ByteArray.empty ws 0), ixGo (rdOf ByteArray.empty ws ((2 : Int) % (ws.length : Int))) ED 0, atoiN (rdOf ByteArray.empty ws ((ws.length : Int) - 1))⟩
  else if (rdOf ByteArray.empty ws 1).toList = abortW then ⟨7, atoiN (rdOf ByteArray.empty ws 0), atoiN (rdOf ByteArray.empty ws ((ws.length : Int) - 1)), 0⟩
  else ⟨0, atoiN (rdOf ByteArray.empty ws 0), 0, 0⟩
theorem gsE_in (ws : List ByteArray) : inE (gsE ws) := by
  have z : in64 0 := ⟨by decide, by decide⟩
  have hn := NM_len
  have he := ED_len
  have o := fun x => ofGo_in x NM 0 (by omega)
  have i := fun x => ixGo_in x ED 0 (by omega)
  unfold gsE inE
  repeat' split
  all_goals refine ⟨?_, ?_, ?_, ?_⟩
  all_goals first
    | exact z
    | exact atoiN_in _
    | (have q := o (rdOf ByteArray.empty ws ((2 : Int) % (ws.length : Int))); unfold in64; dsimp only; omega)
    | (have q := i (rdOf ByteArray.empty ws ((2 : Int) % (ws.length : Int))); unfold in64; dsimp only; omega)
    | (unfold in64; dsimp only; omega)
theorem guess_ev (ws : List ByteArray) (hs : ∀ w ∈ ws, w.size ≤ 1000000) (hl : ws.length ≤ 1000000) : Ev (fun k => trace_guess.f k ws) ((gsE ws).f0, (gsE ws).f1, (gsE ws).f2, (gsE ws).f3) := by
  have hsz : ∀ i, (rdOf ByteArray.empty ws i).size ≤ 281474976710656 := by
    intro i
    unfold rdOf
    rw [List.getD_eq_getElem?_getD]
    cases h : ws[i.toNat]? with
    | none => exact Nat.zero_le _
    | some w => have := hs w (List.mem_of_getElem? h); simp; omega
  unfold trace_guess.f gsE
  by_cases h2 : (ws.length : Int) < 2
  · rw [if_pos h2]
    exact Ev.const fun k => by rw [if_pos h2]
  rw [if_neg h2]
  have hw : wrap64 ((ws.length : Int) - 1) = (ws.length : Int) - 1 := by unfold wrap64; omega
  have m0 : 0 ≤ (2 : Int) % (ws.length : Int) := Int.emod_nonneg _ (by omega)
  have m1 : (2 : Int) % (ws.length : Int) < (ws.length : Int) := Int.emod_lt_of_pos _ (by omega)
  generalize (2 : Int) % (ws.length : Int) = m at m0 m1
  simp only [hw, number_some _ (hsz _), Option.bind_some, ED_prog]
  simp (disch := omega) only [↓reduceIte, if_pos, if_neg]
  by_cases ht : (rdOf ByteArray.empty ws 0).toList = tickW
  · rw [if_pos ht]
    exact Ev.const fun k => by rw [if_pos (show _ = ([116, 105, 99, 107] : List UInt8) from ht)]
  rw [if_neg ht]
  refine Ev.congr (fun k => by rw [if_neg (show ¬ _ = ([116, 105, 99, 107] : List UInt8) from ht)]) ?_
  by_cases h1 : (rdOf ByteArray.empty ws 1).toList = opW
  · rw [if_pos h1]
    refine Ev.congr (fun k => by rw [if_pos (show _ = ([111, 112] : List UInt8) from h1)]) ?_
    exact Ev.bind (of_ev _) (Ev.const fun k => rfl)
  rw [if_neg h1]
  refine Ev.congr (fun k => by rw [if_neg (show ¬ _ = ([111, 112] : List UInt8) from h1)]) ?_
  by_cases h2 : (rdOf ByteArray.empty ws 1).toList = outW
  · rw [if_pos h2]
    exact Ev.const fun k => by rw [if_pos (show _ = ([111, 117, 116] : List UInt8) from h2)]
  rw [if_neg h2]
  refine Ev.congr (fun k => by rw [if_neg (show ¬ _ = ([111, 117, 116] : List UInt8) from h2)]) ?_
  by_cases h3 : (rdOf ByteArray.empty ws 1).toList = blockW
  · rw [if_pos h3]
    refine Ev.congr (fun k => by rw [if_pos (show _ = ([98, 108, 111, 99, 107] : List UInt8) from h3)]) ?_
    exact Ev.bind (of_ev _) (Ev.const fun k => rfl)
  rw [if_neg h3]
  refine Ev.congr (fun k => by rw [if_neg (show ¬ _ = ([98, 108, 111, 99, 107] : List UInt8) from h3)]) ?_
  by_cases h4 : (rdOf ByteArray.empty ws 1).toList = wakeW
  · rw [if_pos h4]
    exact Ev.const fun k => by rw [if_pos (show _ = ([119, 97, 107, 101] : List UInt8) from h4)]
  rw [if_neg h4]
  refine Ev.congr (fun k => by rw [if_neg (show ¬ _ = ([119, 97, 107, 101] : List UInt8) from h4)]) ?_
  by_cases h5 : (rdOf ByteArray.empty ws 1).toList = endW
  · rw [if_pos h5]
    refine Ev.congr (fun k => by rw [if_pos (show _ = ([101, 110, 100] : List UInt8) from h5)]) ?_
    exact Ev.bind (ix_ev _) (Ev.const fun k => rfl)
  rw [if_neg h5]
  refine Ev.congr (fun k => by rw [if_neg (show ¬ _ = ([101, 110, 100] : List UInt8) from h5)]) ?_
  by_cases h7 : (rdOf ByteArray.empty ws 1).toList = abortW
  · rw [if_pos h7]
    exact Ev.const fun k => by rw [if_pos (show _ = ([97, 98, 111, 114, 116] : List UInt8) from h7)]
  rw [if_neg h7]
  exact Ev.const fun k => by rw [if_neg (show ¬ _ = ([97, 98, 111, 114, 116] : List UInt8) from h7)]
end Go.Proofs.YtadepdeckapgcaaDoor.Tr
end

section
namespace Go.Proofs.YtadepdeckapgcaaDoor.PTr
open Go.RowKit Go.Proofs.YtadepdeckapgcaaDoor.Orc Go.Proofs.YtadepdeckapgcaaDoorW.PrintWords Go.Proofs.YtadepdeckapgcaaDoorW.PrintLast Go.Proofs.YtadepdeckapgcaaDoorW.PrintMore
attribute [local go_sem] max2_int min2_int max_two min_two max_three min_three max_four min_four
set_option linter.unusedVariables false
set_option linter.unusedSimpArgs false
theorem eqA72 (d : Nat) (w : World) (x0 y0 : Int) (x1 y1 : Int) (x2 y2 : Int) (x3 y3 : Int) :
  (Op.equalIn (d + 2) 72 (.agg #[.int .i64 x0, .int .i64 x1, .int .i64 x2, .int .i64 x3]) (.agg #[.int .i64 y0, .int .i64 y1, .int .i64 y2, .int .i64 y3])).run Tryd.prog w = .ok (x0 == y0 && (x1 == y1 && (x2 == y2 && (x3 == y3)))) w := by
 refine eqA_of Tryd.underlying72 (by kernel_rfl) ?_
 refine eqf_cons (by rfl) (by go_simp; rfl) (by go_simp; rfl) (by go_simp) ?_
 refine eqf_cons (by rfl) (by go_simp; rfl) (by go_simp; rfl) (by go_simp) ?_
 refine eqf_cons (by rfl) (by go_simp; rfl) (by go_simp; rfl) (by go_simp) ?_
 exact eqf_last (by rfl) (by go_simp; rfl) (by go_simp; rfl) (by go_simp)
end Go.Proofs.YtadepdeckapgcaaDoor.PTr
end
