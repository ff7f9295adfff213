/- LawVictimPicks, part 2: what the proof stands on (merged by wip/shake.py out of the session's texts and of what the print wrote for this claim). -/
import Derived.ArgAppend
import Derived.Below
import Derived.BigQuiet
import Derived.Deep.AppendLies
import Derived.Deep.CutBlock
import Derived.Deep.DeepCutAuto
import Derived.Deep.Draws
import Derived.Deep.LoopGhost
import Derived.Deep.OwnRows
import Derived.Deep.QuietTactic
import Derived.Deep.RegionHeld3
import Derived.Deep.RegionLaw
import Derived.Deep.WholeRow
import Derived.Ground.Names2Prog
import Derived.Ground.SlsfProg
import Derived.KernelRfl
import Derived.Laws.BitsAllLaws
import Derived.Laws.BitsLemmas
import Derived.Laws.BytesArg
import Derived.Laws.EntriesVeiled
import Derived.Laws.IdiomCopy
import Derived.Laws.MakeOwn
import Derived.Laws.OwnMore
import Derived.Laws.Rows
import Derived.Laws.Slices
import Derived.Lib.AppendStr
import Derived.Lib.ConvBytes
import Derived.Lib.OwnBridge
import Derived.Lib.SliceRun
import Derived.LoopTactic
import Derived.Maps.AppendAt
import Derived.OrdersHeld
import Derived.OwnWalk
import Derived.RowKit
import Derived.RowKit3
import Derived.Shelf.SlGeneric
import Derived.Shelf.SlSortCmp.NoneTotal
import Derived.Shelf.Slices.Cells
import Derived.Shelf.Slices.Empties
import Derived.Shelf.Slices.Reverse
import Derived.Shelf.Slices.SearchI
import Derived.Shelf.Spec.TrailingZeros
import Derived.Sort.Grow
import Derived.Sort.Statements
import Derived.Tactics
import Derived.Test.YtadepdeckapgcaaDoorProg
import Derived.Test.YtadepdeckapgcaaDoorRows
import Derived.WalkKit
import Derived.WideLaws
import Derived.Test.YtadepdeckapgcaaDoorZpA

section
namespace Go.Proofs.YtadepdeckapgcaaDoor
open Go.RowKit
set_option linter.unusedSimpArgs false
set_option linter.unusedVariables false
def B64 : Nat := 18446744073709551616
def vt (t : Int) : Prop := 0 ≤ t ∧ t ≤ 63
instance (t : Int) : Decidable (vt t) := by unfold vt; infer_instance
def bit1 (t : Int) : Nat := if vt t then 2 ^ t.toNat else 0
def hasB (s : Nat) (t : Int) : Bool := decide (vt t) && s.testBit t.toNat
def withB (s : Nat) (t : Int) : Nat := if vt t then s ||| 2 ^ t.toNat else s
def woutB (s : Nat) (t : Int) : Nat := if hasB s t then s - 2 ^ t.toNat else s
theorem pow_lt (t : Int) (h : vt t) : 2 ^ t.toNat < B64 := by
  have : t.toNat ≤ 63 := by unfold vt at h; omega
  exact Nat.lt_of_le_of_lt (Nat.pow_le_pow_right (by decide) this) (by decide)
theorem bit1_lt (t : Int) : bit1 t < B64 := by
  unfold bit1
  split
  · exact pow_lt t (by assumption)
  · decide
theorem or_add (s n : Nat) (hs : s < B64) (hn : n < 64) (h : s.testBit n = false) : s ||| 2 ^ n = s + 2 ^ n := by
  have e : s &&& 2 ^ n = 0 := by
    rw [nat_bit]
    rw [Nat.testBit_eq_decide_div_mod_eq] at h
    simp at h
    rw [h]; simp
  have q := BitVec.add_eq_or_of_and_eq_zero (BitVec.ofNat 65 s) (BitVec.ofNat 65 (2 ^ n)) (by
    apply BitVec.eq_of_toNat_eq
    have hp : 2 ^ n < 2 ^ 65 := Nat.pow_lt_pow_right (by decide) (by omega)
    unfold B64 at hs
    simp [Nat.mod_eq_of_lt hp, Nat.mod_eq_of_lt (show s < 2 ^ 65 by omega), e])
  have q2 := congrArg BitVec.toNat q
  have hp : 2 ^ n ≤ 2 ^ 63 := Nat.pow_le_pow_right (by decide) (by omega)
  unfold B64 at hs
  simp only [BitVec.toNat_add, BitVec.toNat_or, BitVec.toNat_ofNat] at q2
  rw [Nat.mod_eq_of_lt (show s < 2 ^ 65 by omega), Nat.mod_eq_of_lt (show 2 ^ n < 2 ^ 65 by omega), Nat.mod_eq_of_lt (by omega)] at q2
  exact q2.symm
theorem andNot_eq (s n : Nat) (hs : s < B64) (hn : n < 64) : s &&& (18446744073709551615 - 2 ^ n) = if s.testBit n then s - 2 ^ n else s := by
  have hp : 2 ^ n ≤ 2 ^ 63 := Nat.pow_le_pow_right (by decide) (by omega)
  have hx : ∀ i, (18446744073709551615 - 2 ^ n).testBit i = (decide (i < 64) && decide (i ≠ n)) := by
    intro i
    have := Nat.testBit_two_pow_sub_succ (x := 2 ^ n) (n := 64) (by omega) i
    rw [show 2 ^ 64 - (2 ^ n + 1) = 18446744073709551615 - 2 ^ n by omega] at this
    rw [this, Nat.testBit_two_pow]
    by_cases e : n = i
    · subst e; simp
    · simp [e, Ne.symm e]
  have key : s &&& (18446744073709551615 - 2 ^ n) = s &&& (18446744073709551615 - 2 ^ n) := rfl
  have hsb : ∀ i, 64 ≤ i → s.testBit i = false := fun i hi => Nat.testBit_lt_two_pow (Nat.lt_of_lt_of_le hs (by
    show 2 ^ 64 ≤ 2 ^ i
    exact Nat.pow_le_pow_right (by decide) hi))
  by_cases h : s.testBit n = true
  · rw [if_pos h]
    generalize hy : s &&& (18446744073709551615 - 2 ^ n) = y
    have hyb : y.testBit n = false := by rw [← hy, Nat.testBit_and, hx]; simp
    have hyl : y < B64 := by rw [← hy]; exact Nat.lt_of_le_of_lt Nat.and_le_left hs
    have e := or_add y n hyl hn hyb
    have e2 : y ||| 2 ^ n = s := by
      apply Nat.eq_of_testBit_eq
      intro i
      rw [Nat.testBit_or, ← hy, Nat.testBit_and, hx, Nat.testBit_two_pow]
      by_cases ei : i = n
      · subst ei; simp [h]
      · by_cases hi : i < 64
        · simp [ei, hi, Ne.symm ei]
        · simp [hsb i (by omega), Ne.symm ei]
    omega
  · rw [if_neg h]
    have h' : s.testBit n = false := by simpa using h
    apply Nat.eq_of_testBit_eq
    intro i
    rw [Nat.testBit_and, hx]
    by_cases ei : i = n
    · subst ei; simp [h']
    · by_cases hi : i < 64
      · simp [ei, hi]
      · simp [hsb i (by omega)]
end Go.Proofs.YtadepdeckapgcaaDoor
end

section
namespace Go.Proofs.YtadepdeckapgcaaDoor
open Go.RowKit
set_option linter.unusedSimpArgs false
set_option linter.unusedVariables false
def Tb (w : World) : Prop := TabAt 0 Lib.deBruijn64tab w
theorem Tb.quiet {w w' : World} (h : Tb w) (q : Quiet w w') : Tb w' := fun j hj => Fr.cell q (h j hj) (fun x => x)
theorem Tb.fr {F : Nat → Prop} {w w' : World} (h : Tb w) (q : Fr F w w') (hF : ¬ F 0) : Tb w' := fun j hj => Fr.cell q (h j hj) hF
theorem tz_core (x k idx : Nat) (w : World) (hx0 : ((x : Int) == 0) = false)
    (key : IntKind.u64.wrap (bits BinOp.and IntKind.u64 (x : Int) (IntKind.u64.wrap (-(x : Int))) * 285870213051353865) / 288230376151711744 = (idx : Int))
    (hi : idx < 64) (hk : k < 64) (hcell : w.cell? ⟨0, idx, none⟩ = some (.int .u8 k)) :
    Calls Tryd.prog 110 #[.int .u64 x] w fun e w' => e = .returned (.int .i64 k) ∧ w = w' := by
  go_enter Tryd.func110, Tryd.ntmps110
  go_wp2_with (simp only [key])
  go_ret
  exact ⟨rfl, rfl⟩
theorem wTz (w : World) (x : Nat) (hx : x < B64) (h0 : x ≠ 0) (hT : Tb w) :
    Calls Tryd.prog 110 #[.int .u64 x] w fun e w' => e = .returned (.int .i64 (Lib.ctz 64 x)) ∧ w = w' := by
  obtain ⟨hlow, hk⟩ := Lib.lowest_bit 64 x h0 hx
  obtain ⟨hi, htab⟩ := Lib.deBruijn64_at _ hk
  have hcell := hT _ hi
  rw [htab] at hcell
  exact tz_core x _ _ w (by simp; omega) (tz64_key x _ hx h0 hlow) hi hk hcell
def firstB (s : Nat) : Int := if s = 0 then -1 else (Lib.ctz 64 s : Int)
theorem wFirst (w : World) (s : Nat) (hs : s < B64) (hT : Tb w) : Calls Tryd.prog 63 #[.int .u64 s] w fun e w' => e = .returned (.int .i64 (firstB s)) ∧ w = w' := by
  have HT := Lib.hid hT; clear hT
  by_cases h0 : s = 0
  · subst h0
    have E : Hid (firstB 0 = -1) := rfl
    go_enter Tryd.func63, Tryd.ntmps63
    go_wp2
    go_ret
    rw [E.out]; exact ⟨rfl, rfl⟩
  · have E : Hid (firstB s = (Lib.ctz 64 s : Int)) := by unfold Hid firstB; rw [if_neg h0]
    have h1 : ((s : Int) == 0) = false := by simp; omega
    have H0 := Lib.hid h0; clear h0
    go_enter Tryd.func63, Tryd.ntmps63
    go_wp2_with (go_at_call 110; refine (wTz _ _ hs H0.out HT.out).mono ?_; rintro e w' ⟨rfl, rfl⟩)
    go_ret
    rw [E.out]; exact ⟨rfl, rfl⟩
end Go.Proofs.YtadepdeckapgcaaDoor
end

section
namespace Go.Proofs.YtadepdeckapgcaaDoor
open Go.RowKit Go.Proofs.YtadepdeckapgcaaDoorW.PrintWords
set_option linter.unusedSimpArgs false
set_option linter.unusedVariables false
def lb : Nat → Nat → Nat → List Int
  | 0, _, _ => []
  | f + 1, i, s => if s % 2 = 1 then (i : Int) :: lb f (i + 1) (s / 2) else lb f (i + 1) (s / 2)
theorem lb_succ (f i s : Nat) : lb (f + 1) i s = if s % 2 = 1 then (i : Int) :: lb f (i + 1) (s / 2) else lb f (i + 1) (s / 2) := rfl
def listB (s : Nat) : List Int := lb 64 0 s
theorem lb_zero (f i : Nat) : lb f i 0 = [] := by
  induction f generalizing i with
  | zero => rfl
  | succ f ih => rw [lb_succ, if_neg (by omega)]; exact ih _
theorem lb_len (f i s : Nat) : (lb f i s).length ≤ f := by
  induction f generalizing i s with
  | zero => simp [lb]
  | succ f ih => have := ih (i + 1) (s / 2); rw [lb_succ]; split <;> (try simp only [List.length_cons]) <;> omega
theorem and_pred_half (t : Nat) : (2 * t &&& (2 * t - 1)) = 2 * (t &&& (t - 1)) := by
  rcases Nat.eq_zero_or_pos t with h | h
  · rw [h]; rfl
  · apply Nat.eq_of_testBit_eq
    intro i
    cases i with
    | zero =>
      have e1 : (2 * t).testBit 0 = false := by rw [Nat.testBit_zero]; exact decide_eq_false (by omega)
      have e2 : (2 * (t &&& (t - 1))).testBit 0 = false := by rw [Nat.testBit_zero]; exact decide_eq_false (by omega)
      rw [Nat.testBit_and, e1, e2]; rfl
    | succ i =>
      rw [Nat.testBit_and, Nat.testBit_succ, Nat.testBit_succ, Nat.testBit_succ]
      rw [show 2 * t / 2 = t by omega, show (2 * t - 1) / 2 = t - 1 by omega, show 2 * (t &&& (t - 1)) / 2 = t &&& (t - 1) by omega, Nat.testBit_and]
theorem and_pred_odd (t : Nat) : (2 * t + 1 &&& 2 * t) = 2 * t := by
  apply Nat.eq_of_testBit_eq
  intro i
  cases i with
  | zero => simp [Nat.testBit_zero]
  | succ i =>
    rw [Nat.testBit_and, Nat.testBit_succ, Nat.testBit_succ]
    rw [show (2 * t + 1) / 2 = t by omega, show 2 * t / 2 = t by omega]; simp
theorem lb_step : ∀ (f i s : Nat), s ≠ 0 → s < 2 ^ f → lb f i s = ((i + Lib.ctzFrom f s : Nat) : Int) :: lb f i (s &&& (s - 1)) := by
  intro f
  induction f with
  | zero => intro i s h0 h; simp at h; omega
  | succ f ih =>
    intro i s h0 h
    rcases Nat.mod_two_eq_zero_or_one s with hm | hm
    · obtain ⟨t, rfl⟩ : ∃ t, s = 2 * t := ⟨s / 2, by omega⟩
      rw [and_pred_half]
      rw [lb_succ, lb_succ, Lib.ctzFrom]
      rw [if_neg (by omega), if_neg (by omega), if_neg (by omega)]
      rw [show 2 * t / 2 = t by omega, show 2 * (t &&& (t - 1)) / 2 = (t &&& (t - 1)) by omega]
      rw [ih (i + 1) t (by omega) (by rw [Nat.pow_succ] at h; omega)]
      congr 1; omega
    · obtain ⟨t, rfl⟩ : ∃ t, s = 2 * t + 1 := ⟨s / 2, by omega⟩
      rw [show 2 * t + 1 - 1 = 2 * t by omega, and_pred_odd]
      have e : lb (f + 1) i (2 * t) = lb f (i + 1) t := by
        rw [lb_succ, if_neg (by omega), show 2 * t / 2 = t by omega]
      rw [e]
      rw [lb_succ, Lib.ctzFrom]
      rw [if_pos (by omega), if_pos (by omega), show (2 * t + 1) / 2 = t by omega]
      simp
theorem listB_step (s : Nat) (h0 : s ≠ 0) (h : s < B64) : listB s = firstB s :: listB (s &&& (s - 1)) := by
  unfold listB firstB Lib.ctz
  rw [if_neg h0, if_neg h0, lb_step 64 0 s h0 h, Nat.zero_add]
theorem listB_len (s : Nat) : (listB s).length ≤ 64 := lb_len _ _ _
theorem and_pred_lt (s : Nat) (h0 : s ≠ 0) : s &&& (s - 1) < s := by
  have := @Nat.and_le_right s (s - 1)
  omega
theorem mem_lb : ∀ (f i s : Nat) (t : Int), t ∈ lb f i s ↔ ∃ j, j < f ∧ t = ((i + j : Nat) : Int) ∧ s.testBit j = true := by
  intro f
  induction f with
  | zero => intro i s t; simp [lb]
  | succ f ih =>
    intro i s t
    have e : t ∈ lb (f + 1) i s ↔ (s % 2 = 1 ∧ t = (i : Int)) ∨ t ∈ lb f (i + 1) (s / 2) := by
      rw [lb_succ]; split <;> simp [*]
    rw [e, ih]
    constructor
    · rintro (⟨h1, h2⟩ | ⟨j, h1, h2, h3⟩)
      · exact ⟨0, by omega, by simpa using h2, by rw [Nat.testBit_zero]; simpa using h1⟩
      · exact ⟨j + 1, by omega, by rw [h2]; omega, by rw [Nat.testBit_succ]; exact h3⟩
    · rintro ⟨j, h1, h2, h3⟩
      cases j with
      | zero => exact .inl ⟨by rw [Nat.testBit_zero] at h3; simpa using h3, by simpa using h2⟩
      | succ j => exact .inr ⟨j, by omega, by rw [h2]; omega, by rw [Nat.testBit_succ] at h3; exact h3⟩
theorem mem_listB (s : Nat) (t : Int) : t ∈ listB s ↔ hasB s t = true := by
  unfold listB hasB
  rw [mem_lb]
  constructor
  · rintro ⟨j, h1, rfl, h3⟩
    rw [decide_eq_true (by unfold vt; omega)]; simpa using h3
  · intro h
    simp only [Bool.and_eq_true, decide_eq_true_eq] at h
    refine ⟨t.toNat, ?_, ?_, h.2⟩ <;> have := h.1 <;> unfold vt at this <;> omega
theorem lb_sorted : ∀ (f i s : Nat), (lb f i s).Pairwise (· < ·) := by
  intro f
  induction f with
  | zero => intro i s; simp [lb]
  | succ f ih =>
    intro i s
    rw [lb_succ]
    split
    · refine List.pairwise_cons.2 ⟨fun x hx => ?_, ih _ _⟩
      obtain ⟨j, _, rfl, _⟩ := (mem_lb _ _ _ _).1 hx
      omega
    · exact ih _ _
theorem listB_sorted (s : Nat) : (listB s).Pairwise (· < ·) := lb_sorted _ _ _
theorem info_int : (Tryd.prog.info? 3).map (fun i => (i.zero, i.size, i.bytes)) = some (some (.int .i64 0), 1, 8) := by kernel_rfl
theorem and127 (x : Int) : ∃ c : Nat, c ≤ 127 ∧ bits .and .i64 x 127 = (c : Int) := by
  refine ⟨((BitVec.ofInt 64 x) &&& 127#64).toNat, ?_, ?_⟩
  · have h : ((BitVec.ofInt 64 x) &&& 127#64).toNat ≤ (127#64).toNat := by rw [BitVec.toNat_and]; exact Nat.and_le_right
    simpa using h
  · have h : ((BitVec.ofInt 64 x) &&& 127#64).toNat ≤ 127 := by
      have h : ((BitVec.ofInt 64 x) &&& 127#64).toNat ≤ (127#64).toNat := by rw [BitVec.toNat_and]; exact Nat.and_le_right
      simpa using h
    show IntKind.i64.wrap (((BitVec.ofInt 64 x) &&& (BitVec.ofInt 64 127)).toNat : Int) = _
    rw [show BitVec.ofInt 64 127 = 127#64 by rfl, IntKind.wrap_i64]
    omega
theorem wOnes (w : World) (s : Nat) : Calls Tryd.prog 140 #[.int .u64 s] w fun e w' => (∃ c : Nat, c ≤ 127 ∧ e = .returned (.int .i64 c)) ∧ w = w' := by
  go_enter Tryd.func140, Tryd.ntmps140
  go_wp2
  go_ret
  refine ⟨?_, rfl⟩
  obtain ⟨c, h1, h2⟩ := and127 _
  exact ⟨c, h1, ret_int h2⟩
theorem wCount (w : World) (s : Nat) : Calls Tryd.prog 111 #[.int .u64 s] w fun e w' => (∃ c : Nat, c ≤ 127 ∧ e = .returned (.int .i64 c)) ∧ w = w' := by
  go_enter Tryd.func111, Tryd.ntmps111
  go_wp2_with (go_at_call 140; refine (wOnes _ _).mono ?_; rintro e w' ⟨⟨c, hc, rfl⟩, rfl⟩)
  go_ret
  exact ⟨⟨c, hc, rfl⟩, rfl⟩
def LsRel (w : World) (s0 : Nat) (s l : Value) (wr : World) : Prop :=
  ∃ (x : Nat) (xs : List Int), x < B64 ∧ s = .int .u64 x ∧ wr.ownsRow w.heap.size 3 1 l xs.length (nums .i64 xs) ∧ xs ++ listB x = listB s0 ∧ Below w.heap.size w wr
theorem and_pred (x : Nat) (h0 : x ≠ 0) (h : x < B64) : bits .and .u64 (x : Int) ((x : Int) - 1) = ((x &&& (x - 1) : Nat) : Int) := by
  have e : ((x : Int) - 1) = ((x - 1 : Nat) : Int) := by omega
  rw [e, u64_and_nat _ _ h (by unfold B64 at h; omega)]
set_option maxRecDepth 100000 in
theorem wList (w : World) (s : Nat) (hs : s < B64) (hT : Tb w) : Calls Tryd.prog 66 #[.int .u64 s] w fun e w' => ∃ v, e = .returned v ∧ w'.ownsRow w.heap.size 3 1 v (listB s).length (nums .i64 (listB s)) ∧ Below w.heap.size w w' := by
  have HT := Lib.hid hT; clear hT
  obtain ⟨i0, hi, hz⟩ := Option.map_eq_some_iff.1 info_int
  simp only [Prod.mk.injEq] at hz
  obtain ⟨hz0, hz1, hz2⟩ := hz
  have mk : Hid (∀ (c : Nat), c ≤ 127 → ∀ W : World, (Instr.makeSlice 22 (.int .i64 0) (.int .i64 (c : Int))).run Tryd.prog W = .ok (.slice (some ⟨W.heap.size, 0, none⟩) 0 c) (W.alloc (.cells (madeCells #[.int .i64 0] c) 3))) := by
    intro c hc W
    have q := run_make (P := Tryd.prog) W 22 3 i0 _ Tryd.underlying22 hi hz0 .i64 .i64 0 c (by omega) (by omega) (by rw [hz2]; omega) (by omega)
    simp only [hz1, Int.toNat_zero, Int.toNat_natCast, Nat.mul_one] at q
    exact q
  clear hi hz0 hz1 hz2
  go_enter Tryd.func66, Tryd.ntmps66
  go_wp2_with (go_at_call 111; refine (wCount _ _).mono ?_; rintro e w' ⟨⟨c, hc, rfl⟩, rfl⟩; have mkc := mk.out c hc)
  clear mkc
  go_loopw [0, 3] (fun s3 l wr => LsRel w s s3 l wr) (fun s3 _ _ => (intOf s3).toNat)
  case atStart =>
    refine ⟨s, [], hs, rfl, ?_, by simp, (Below.refl _ _).alloc (Nat.le_refl _) _⟩
    have q := World.ownsRow_made (base := w.heap.size) (e := 3) (size := 1) w (madeCells #[.int .i64 0] c) c (Nat.le_refl _) (by simp [maxLen]; omega) (by rw [size_madeCells, Nat.mul_one])
    simpa [nums] using q
  case round =>
    obtain ⟨x, xs, hx, rfl, hown, hls, hb⟩ := hrel
    by_cases h0 : x = 0
    · subst h0
      have e : xs = listB s := by rw [← hls]; simp [listB, lb_zero]
      subst e
      clear hls
      go_wp2
      go_ret
      exact ⟨_, rfl, hown, hb⟩
    · have hT' : Tb wr := fun j hj => (hb.cell (World.block_lt_of_cell? _ _ (HT.out j hj))).trans (HT.out j hj)
      have HF := Lib.hid (wFirst wr x hx hT')
      have hx0 : ((x : Int) != 0) = true := by simp; omega
      have hst := listB_step x h0 hx
      have hlen : xs.length + 1 ≤ 64 := by
        have := listB_len s; rw [← hls, hst] at this; simp at this; omega
      have hnew : Hid ((xs ++ [firstB x]) ++ listB (x &&& (x - 1)) = listB s) := by
        rw [← hls, hst]; unfold Hid; simp
      have hand := Lib.hid (and_pred x h0 hx)
      have hlt := and_pred_lt x h0
      have hx64 := hx; unfold B64 at hx64
      have hbz := Lib.hid hb
      have HO := Lib.hid hown
      clear hls hst hT' hown hb
      generalize firstB x = fx at *
      go_wp2_with (first
        | (go_at_call 63; refine HF.out.mono ?_; rintro e w' ⟨rfl, rfl⟩)
        | (at_builtin; refine print_append_num _ rfl _ _ 22 3 .i64 8 rfl Tryd.underlying22 info_int (by decide) _ xs fx rfl rfl HO.out hbz.out hbz.out.size (by omega) ?_; intro v1 w1 hown1 hb1 hg1 hat1; have HO1 := Lib.hid hown1; have HB1 := Lib.hid hb1; clear hown1 hb1 hg1 hat1))
      go_roundw
      case rel => exact ⟨x &&& (x - 1), xs ++ [fx], Nat.lt_of_le_of_lt Nat.and_le_left hx, by rw [← hand.out], HO1.out, hnew.out, HB1.out⟩
      case measure => rw [hand.out]; simp [intOf]; omega
end Go.Proofs.YtadepdeckapgcaaDoor
end

section
namespace Go.Proofs.YtadepdeckapgcaaDoor.PWitnessTells
open Go.RowKit Go.Proofs.YtadepdeckapgcaaDoorW.PrintWords Go.Proofs.YtadepdeckapgcaaDoorW.PrintLast Go.Proofs.YtadepdeckapgcaaDoorW.PrintMore
attribute [local go_sem] max2_int min2_int max_two min_two max_three min_three max_four min_four
set_option linter.unusedVariables false
set_option linter.unusedSimpArgs false
def errW : Option Int → Value
 | none => .nilIface
 | some c => .iface 0 (.int .i64 c)
theorem errW_none : errW none = .nilIface := rfl
theorem errW_some (c : Int) : errW (some c) = .iface 0 (.int .i64 c) := rfl
theorem info3 : (Tryd.prog.info? 3).map (fun i => (i.zero, i.size, i.bytes)) = some (some (.int .i64 0), 1, 8) := by kernel_rfl
structure S108 where
 f0 : Int
 f1 : Int
def z108 : S108 := ⟨(0 : Int), (0 : Int)⟩
def k108 : Kd S108 := Kd.iso (Kd.pair (Kd.int .i64) (Kd.int .i64)) (fun x : S108 => (x.f0, x.f1))
theorem k108_open {w : World} {x : S108} {cs : List Value} (h : k108.K w x cs) : cs = [.int .i64 x.f0, .int .i64 x.f1] := by
 obtain ⟨_, _, rfl, rfl, rfl⟩ := h
 exact rfl
theorem k108_mk (w : World) (x : S108)  : k108.K w x [.int .i64 x.f0, .int .i64 x.f1] := ⟨[.int .i64 x.f0], [.int .i64 x.f1], rfl, rfl, rfl⟩
theorem k108_mkM (w : World) (base : Nat) (ok : Nat → Prop) (x : S108)  : k108.M w base ok x [.int .i64 x.f0, .int .i64 x.f1] := ⟨[.int .i64 x.f0], [.int .i64 x.f1], rfl, rfl, rfl⟩
def rd_T108 (xs : List S108) (i : Int) : S108 := xs.getD i.toNat z108
theorem at_T108 {w : World} {A : Option Addr} {n : Nat} {xs : List S108} (h : Kd.C k108 w A n xs) (i : Int) (h0 : 0 ≤ i) (h1 : i < n) : ∃ ad , A = some ad ∧ w.cell? (ad.add (i.toNat * 2)) = some (.int .i64 (rd_T108 xs i).f0) ∧ w.cell? ⟨(ad.add (i.toNat * 2)).block, (ad.add (i.toNat * 2)).off + 1, none⟩ = some (.int .i64 (rd_T108 xs i).f1) := by
 obtain ⟨ad, c, e, _, hK, hc0⟩ := Kd.C_get h z108 i h0 h1
 have hc : ∀ j u, c[j]? = some u → w.cell? (ad.add (i.toNat * 2 + j)) = some u := hc0
 obtain rfl := k108_open hK
 exact ⟨ad, e, hc 0 _ rfl, by rw [← add_field _ _ 1 (by omega)]; exact hc 1 _ rfl⟩
structure S96 where
 f0 : Int
 f1 : (List S108)
def z96 : S96 := ⟨(0 : Int), ([] : List S108)⟩
def k96 : Kd S96 := Kd.iso (Kd.pair (Kd.int .i64) (Kd.slice 108 k108)) (fun x : S96 => (x.f0, x.f1))
structure S92 where
 f0 : Bool
 f1 : (List (List S96))
def z92 : S92 := ⟨false, ([] : List (List S96))⟩
def k92 : Kd S92 := Kd.iso (Kd.pair Kd.bool (Kd.slice 93 (Kd.slice 96 k96))) (fun x : S92 => (x.f0, x.f1))
end Go.Proofs.YtadepdeckapgcaaDoor.PWitnessTells
end

section
namespace Go.Proofs.YtadepdeckapgcaaDoor
open Go.RowKit Go.Proofs.YtadepdeckapgcaaDoorW.PrintWords Go.Proofs.YtadepdeckapgcaaDoorW.PrintLast Go.Proofs.YtadepdeckapgcaaDoorW.PrintMore PWitnessTells
set_option linter.unusedSimpArgs false
set_option linter.unusedVariables false
def comesL (dead : Nat) : Int → List S108 → Int
  | n, [] => n
  | n, s :: r => comesL dead (if hasB dead s.f0 then n else wrap64 (n + s.f1)) r
def lacksL (dead : Nat) : Nat → List S96 → Int
  | _, [] => -1
  | i, m :: r => if comesL dead 0 m.f1 < m.f0 then (i : Int) else lacksL dead (i + 1) r
theorem drop_cons {α : Type} (d : α) (l : List α) (k : Nat) (h : k < l.length) : l.drop k = l.getD k d :: l.drop (k + 1) := by
  rw [List.drop_eq_getElem_cons h]; congr 1; simp [h]
theorem Quiet.bel {w w' : World} (h : Quiet w w') : Below w.heap.size w w' := Fr.below h (fun _ _ x => x)
theorem Quiet.of {w w' : World} (h : Below w.heap.size w w') : Quiet w w' := Fr.of_below h
end Go.Proofs.YtadepdeckapgcaaDoor
end

section
namespace Go.Proofs.YtadepdeckapgcaaDoor
open Go.RowKit Go.Proofs.YtadepdeckapgcaaDoorW.PrintWords Go.Proofs.YtadepdeckapgcaaDoorW.PrintLast Go.Proofs.YtadepdeckapgcaaDoorW.PrintMore PWitnessTells
set_option linter.unusedSimpArgs false
set_option linter.unusedVariables false
abbrev NShare := S108
abbrev NTerm := S96
abbrev NNode := S92
def MX : Nat := 9223372036854775807
theorem wrap_succ (i : Nat) (n : Nat) (h : i < n) (hn : n ≤ MX) : wrap64 ((i : Int) + 1) = ((i + 1 : Nat) : Int) := by unfold wrap64; unfold MX at hn; omega
theorem getD_mem {α : Type} (d : α) (l : List α) (i : Nat) (h : i < l.length) : l.getD i d ∈ l := by
  have : l.getD i d = l[i] := by simp [h]
  rw [this]; exact List.getElem_mem _
end Go.Proofs.YtadepdeckapgcaaDoor
end

section
namespace Go.Proofs.YtadepdeckapgcaaDoor
open Go.RowKit Go.Proofs.YtadepdeckapgcaaDoorW.PrintWords Go.Proofs.YtadepdeckapgcaaDoorW.PrintLast Go.Proofs.YtadepdeckapgcaaDoorW.PrintMore PWitnessTells
set_option linter.unusedSimpArgs false
set_option linter.unusedVariables false
structure RepAt (w : World) (v : Value) (time : Int) (d : List Int) (n : List NNode) : Prop where
  out : ∃ A1 c1 A2 c2, v = .agg #[.int .i64 time, .slice A1 d.length c1, .slice A2 n.length c2] ∧ Kd.C (Kd.int .i64) w A1 d.length d ∧ d.length ≤ c1 ∧ Kd.C k92 w A2 n.length n ∧ n.length ≤ c2
theorem RepAt.quiet {w w' : World} {v : Value} {time : Int} {d : List Int} {n : List NNode} (h : RepAt w v time d n) (q : Quiet w w') : RepAt w' v time d n := by
  obtain ⟨A1, c1, A2, c2, e, h1, h2, h3, h4⟩ := h.out
  exact ⟨A1, c1, A2, c2, e, Kd.C_below h1 q.bel, h2, Kd.C_below h3 q.bel, h4⟩
theorem withB_lt' (s : Nat) (hs : s < B64) (t : Int) : withB s t < B64 := by
  unfold withB
  split
  · rename_i h
    exact Nat.or_lt_two_pow (n := 64) hs (pow_lt t h)
  · exact hs
theorem at_ints {w : World} {A : Option Addr} {n : Nat} {xs : List Int} (h : Kd.C (Kd.int .i64) w A n xs) (i : Nat) (h1 : i < n) : ∃ ad, A = some ad ∧ w.cell? (ad.add i) = some (.int .i64 (xs.getD i 0)) := by
  obtain ⟨ad, c, e, _, hK, hc⟩ := ReadsRow.get_ h 0 (i : Int) (by omega) (by omega)
  obtain rfl := hK
  have := hc 0 _ rfl
  exact ⟨ad, e, by simpa [Kd.int, Kd.scalar] using this⟩
end Go.Proofs.YtadepdeckapgcaaDoor
end

section
namespace Go.Proofs.YtadepdeckapgcaaDoor
open Go.RowKit Go.Proofs.YtadepdeckapgcaaDoorW.PrintWords Go.Proofs.YtadepdeckapgcaaDoorW.PrintLast Go.Proofs.YtadepdeckapgcaaDoorW.PrintMore PWitnessTells
set_option linter.unusedSimpArgs false
set_option linter.unusedVariables false
theorem Quiet.cellA {w w' : World} (h : Quiet w w') {a : Addr} {v : Value} (hc : w.cell? a = some v) : w'.cell? a = some v := pw_cell_below h.bel hc
end Go.Proofs.YtadepdeckapgcaaDoor
end

section
namespace Go.Proofs.YtadepdeckapgcaaDoor
open Go.RowKit Go.Proofs.YtadepdeckapgcaaDoorW.PrintWords Go.Proofs.YtadepdeckapgcaaDoorW.PrintLast Go.Proofs.YtadepdeckapgcaaDoorW.PrintMore PWitnessTells
set_option linter.unusedSimpArgs false
set_option linter.unusedVariables false
abbrev Any_ : Nat → Prop := fun _ => True
theorem M_off {α : Type} {d : Kd α} {w : World} {base : Nat} {p : α} {cs : List Value} (h : d.M w base Any_ p cs) {b e size n : Nat} {v : Value} {xs : List Value} (ho : w.ownsRow b e size v n xs) (ht : ∀ q, q ∈ d.E → q ≠ e) : d.M w base (fun k => Any_ k ∧ some k ≠ v.ownBlock) p cs := by
  cases hv : v.ownBlock with
  | none => exact d.M_mono (fun k _ => ⟨trivial, by simp⟩) h
  | some g =>
    obtain ⟨cells, hc⟩ := own_typed ho g hv
    exact d.M_mono (fun k hk => ⟨trivial, fun q => hk.2 (Option.some.inj q)⟩) (Kd.M_types h hc ht)
end Go.Proofs.YtadepdeckapgcaaDoor
end

section
namespace Go.Proofs.YtadepdeckapgcaaDoor
open Go.RowKit Go.Proofs.YtadepdeckapgcaaDoorW.PrintWords Go.Proofs.YtadepdeckapgcaaDoorW.PrintLast Go.Proofs.YtadepdeckapgcaaDoorW.PrintMore PWitnessTells
set_option linter.unusedSimpArgs false
set_option linter.unusedVariables false
abbrev kWay : Kd (List NTerm) := Kd.slice 96 k96
structure ClOut (w : World) (Y R : Nat) (st : Bool) (v : Value) (ws : List (List NTerm)) (v6 : Value) (wr : World) : Prop where
  y : Blk wr Y #[.bool st, v] 92
  r : Blk wr R #[.bool false, .slice none 0 0] 92
  o : kWay.R 93 wr w.heap.size (fun k => Any_ k ∧ some k ≠ v6.ownBlock) v ws
  b : Below w.heap.size w wr
theorem ClOut.quiet {w : World} {Y R : Nat} {st : Bool} {v v6 : Value} {ws : List (List NTerm)} {wr wz : World} (h : ClOut w Y R st v ws v6 wr) (q : Quiet wr wz) : ClOut w Y R st v ws v6 wz :=
  ⟨q.blk h.y (fun x => x), q.blk h.r (fun x => x), Kd.R_below h.o q.bel, below_then h.b h.b.size q.bel⟩
theorem grown_blk {w w1 : World} {row : Option Nat} (hg : w.grownBy w1 row) {b : Nat} {cs : Array Value} {t : TypeId} (h : Blk w b cs t) (hne : some b ≠ row) : Blk w1 b cs t := (hg.block b h.lt (fun e => hne e)).trans h
theorem own_not_blk {w : World} {b : Nat} {cs : Array Value} {t e : TypeId} {base size n : Nat} {v : Value} {xs : List Value} (h : Blk w b cs t) (ho : w.ownsRow base e size v n xs) (hne : t ≠ e) : some b ≠ v.ownBlock := fun q => by
  obtain ⟨cells, hc⟩ := own_typed ho b q.symm
  rw [Blk] at h; rw [h] at hc
  injection hc with hc; injection hc with _ hc
  exact hne hc
theorem ClOut.grown {w : World} {Y R : Nat} {st : Bool} {v v6 v7 : Value} {ws : List (List NTerm)} {wr wz : World} (h : ClOut w Y R st v ws v6 wr) {size n : Nat} {xs : List Value} (ho : wr.ownsRow w.heap.size 96 size v6 n xs)
    (hg : wr.grownBy wz v6.ownBlock) (hat : v7.ownBlock = v6.ownBlock ∨ ∃ b, v7.ownBlock = some b ∧ wr.heap.size ≤ b) : ClOut w Y R st v ws v7 wz :=
  ⟨grown_blk hg h.y (own_not_blk h.y ho (by decide)), grown_blk hg h.r (own_not_blk h.r ho (by decide)), Kd.R_after h.o hg hat, h.b.grown hg h.b.size (fun k hk => own_base ho k hk)⟩
end Go.Proofs.YtadepdeckapgcaaDoor
end

section
namespace Go.Proofs.YtadepdeckapgcaaDoor
open Go.RowKit Go.Proofs.YtadepdeckapgcaaDoorW.PrintWords Go.Proofs.YtadepdeckapgcaaDoorW.PrintLast Go.Proofs.YtadepdeckapgcaaDoorW.PrintMore PWitnessTells
set_option linter.unusedSimpArgs false
set_option linter.unusedVariables false
structure PtAt (w : World) (R Y : Nat) (time : Int) (xs : Array Value) (vd vn : Value) (dd : List Int) (nn : List NNode) (wr : World) : Prop where
  x : Blk wr w.heap.size xs 25
  r : Blk wr R #[.int .i64 0, .slice none 0 0, .slice none 0 0] 25
  y : Blk wr Y #[.int .i64 time, vd, vn] 25
  od : (Kd.int .i64).R 3 wr w.heap.size Any_ vd dd
  on : k92.R 92 wr w.heap.size Any_ vn nn
  b : Below w.heap.size w wr
theorem PtAt.quiet {w : World} {R Y : Nat} {time : Int} {xs : Array Value} {vd vn : Value} {dd : List Int} {nn : List NNode} {wr wz : World} (h : PtAt w R Y time xs vd vn dd nn wr) (q : Quiet wr wz) : PtAt w R Y time xs vd vn dd nn wz :=
  ⟨q.blk h.x (fun x => x), q.blk h.r (fun x => x), q.blk h.y (fun x => x), Kd.R_below h.od q.bel, Kd.R_below h.on q.bel, below_then h.b h.b.size q.bel⟩
end Go.Proofs.YtadepdeckapgcaaDoor
end

section
namespace Go.Proofs.YtadepdeckapgcaaDoor.PWitnessTells
open Go.RowKit Go.Proofs.YtadepdeckapgcaaDoorW.PrintWords Go.Proofs.YtadepdeckapgcaaDoorW.PrintLast Go.Proofs.YtadepdeckapgcaaDoorW.PrintMore
attribute [local go_sem] max2_int min2_int max_two min_two max_three min_three max_four min_four
set_option linter.unusedVariables false
set_option linter.unusedSimpArgs false
def logjamref02_List.l0 : Nat → Int → List Int → Int → Option (List Int)
 | 0, _, _, _ => none
 | k + 1, x0, x3, x4 => if x4 < 64 then (if (Int.tmod x0 2) = 1 then (if x3.length < 17592186044416 then (logjamref02_List.l0 k (IntKind.u64.wrap (Int.tdiv x0 2)) (x3 ++ [x4]) (wrap64 (x4 + 1))) else (none)) else (logjamref02_List.l0 k (IntKind.u64.wrap (Int.tdiv x0 2)) x3 (wrap64 (x4 + 1)))) else (some x3)
def logjamref02_List.f (k : Nat) (a0 : Int) : Option (List Int) := logjamref02_List.l0 k a0 (([] : List Int)) 0
set_option maxHeartbeats 8000000 in
set_option maxRecDepth 100000 in
theorem logjamref02_List.calls (k : Nat) (a0 : Int) (r : List Int) (w : World) (h : logjamref02_List.f k a0 = some r) :
  Calls Tryd.prog 36 #[.int .u64 a0] w fun e w' => ∃ v0_ : Value, e = .returned (v0_) ∧ Kd.R (Kd.int .i64) 3 w' w.heap.size (fun _ => True) v0_ r ∧ Below w.heap.size w w' := by
 have HB := Aside0.mk (Below.refl w.heap.size w)
 have H : (logjamref02_List.l0 k a0 (([] : List Int)) 0) = some r := h
 clear h
 obtain ⟨y283, hy283⟩ : ∃ y_ : List Int, y_ = (([] : List Int)) := ⟨_, rfl⟩
 replace H : (logjamref02_List.l0 k a0 y283 0) = some r := by first | (rw [hy283]; with_reducible exact H) | (have H2_ := (Option.bind_some _ _).symm.trans H; rw [hy283]; with_reducible exact H2_) | (have H2_ := (Option.bind_some _ _).symm.trans H; with_reducible exact H2_) | with_reducible exact H | (rw [hy283]; exact H) | exact H
 have Ny283 := Aside0.mk hy283
 clear hy283
 have H' := Aside0.mk H
 clear H
 go_enter Tryd.func36, Tryd.ntmps36
 go_wp2_with (first | ((with_reducible refine gate_dst (N := 5) rfl ?_); refine Kd.R_lit (Kd.int .i64) _ 3 ?hg (N := 5) ?hd (xs := ([] : List Int)) (inner := []) (ok := fun _ => True) (okp := fun _ => True) ?hr ?hp (fun _ hk => hk) trivial (Below.refl _ _) (Nat.le_refl _) (by simp) ?_; (case hd => rfl); (case hg => rfl); (case hr => first | (go_simp; done) | (go_simp; rfl)); (case hp => exact (Reps.none _ _)); intro v284 w2 ho3 hb hg_ hnew_; clear hg_ hnew_; (first | rw [← Ny283.out] at ho3 | (simp only [Int.reduceToNat] at ho3; rw [← Ny283.out] at ho3)); have n0_ := Aside0.mk (Kd.R_lower ho3 (below_size (by repeat (first | (with_reducible first | exact HB.out | apply below_alloc | apply pw_below_drewN | apply below_drew1) | exact HB.out)))); have n1_ := Aside0.mk (below_step (by repeat (first | (with_reducible first | exact HB.out | apply below_alloc | apply pw_below_drewN | apply below_drew1) | exact HB.out)) hb); clear HB; have HO285 := n0_; have HB := n1_; clear n0_ n1_; clear hb ho3))
 go_loopg [0, 3, 4] k (fun kq v0 v3 v4 w' => ∃ (x0_1 : Int) (x3_1 : List Int) (x4_1 : Int), v0 = .int .u64 x0_1 ∧ v4 = .int .i64 x4_1 ∧ Aside0 (logjamref02_List.l0 kq x0_1 x3_1 x4_1 = some r) ∧ Aside0 (kq ≤ k) ∧ Aside0 (Kd.R (Kd.int .i64) 3 w' w.heap.size (fun _ => True) v3 x3_1) ∧ Aside0 (Below w.heap.size w w'))
 case atStart => exact ⟨(a0), (y283), (0), (by first | rfl | (simp; done) | (simp [*]; done)), (by first | rfl | (simp; done) | (simp [*]; done)), H', ⟨Nat.le_refl _⟩, ⟨by (with_reducible repeat (first | apply Kd.R_alloc | apply Kd.R_drewN | apply Kd.R_drew)); exact HO285.out⟩, ⟨by repeat (first | (with_reducible first | exact HB.out | apply below_alloc | apply pw_below_drewN | apply below_drew1) | exact HB.out)⟩⟩
 case round =>
  clear H'
  try clear p2
  try clear c3
  obtain ⟨x0_1, x3_1, x4_1, rfl, rfl, HA, HK1, HO_3, HB⟩ := hrel
  cases gk with
  | zero => exact absurd HA.out (by simp [logjamref02_List.l0])
  | succ k1 =>
   have H := HA.out
   clear HA
   simp only [logjamref02_List.l0] at H
   by_cases c4 : x4_1 < 64
   ·rw [if_pos c4] at H
    have c4b0 : decide (x4_1 < 64) = true := decide_eq_true c4
    clear c4
    by_cases c5 : (Int.tmod x0_1 2) = 1
    ·rw [if_pos c5] at H
     have c5b0 : ((Int.tmod x0_1 2) == 1) = true := beq_iff_eq.mpr c5
     have c5b1 : ((Int.tmod x0_1 2) != 1) = false := bne_eq_false_iff_eq.mpr c5
     clear c5
     by_cases c6 : x3_1.length < 17592186044416
     ·rw [if_pos c6] at H
      have LMc6 := Aside0.mk c6
      clear c6
      obtain ⟨y286, hy286⟩ : ∃ y_ : List Int, y_ = (x3_1 ++ [x4_1]) := ⟨_, rfl⟩
      replace H : (logjamref02_List.l0 k1 (IntKind.u64.wrap (Int.tdiv x0_1 2)) y286 (wrap64 (x4_1 + 1))) = some r := by first | (rw [hy286]; with_reducible exact H) | (have H2_ := (Option.bind_some _ _).symm.trans H; rw [hy286]; with_reducible exact H2_) | (have H2_ := (Option.bind_some _ _).symm.trans H; with_reducible exact H2_) | with_reducible exact H | (rw [hy286]; exact H) | exact H
      have Ny286 := Aside0.mk hy286
      clear hy286
      have H' := Aside0.mk H
      clear H
      go_wp2_with (first | ((with_reducible refine gate_builtin (b := .append) (xs := #[.tmp 13, .tmp 15]) rfl ?_); at_builtin; refine Kd.R_append (Kd.int .i64) (w0 := w) w.heap.size rfl (.tmp 13) (.tmp 15) 22 3 (.int .i64 0) 8 rfl Tryd.underlying22 info3 rfl (by decide) (by omega) u3 x3_1 x4_1 [.int .i64 x4_1] (fun _ => True) (fun _ => False) rfl rfl ?aP (fun _ hk => hk.elim) ?aF ?aO ?aB ?aS ?aL ?_; (case aP => exact rfl); (case aB => exact (by repeat (first | (with_reducible first | exact HB.out | apply below_alloc | apply pw_below_drewN | apply below_drew1) | exact HB.out))); (case aF => exact (fun _ _ => trivial)); (case aO => exact (by (with_reducible repeat (first | apply Kd.R_alloc | apply Kd.R_drewN | apply Kd.R_drew)); exact HO_3.out)); (case aS => exact (below_size (by repeat (first | (with_reducible first | exact HB.out | apply below_alloc | apply pw_below_drewN | apply below_drew1) | exact HB.out)))); (case aL => have := LMc6.out; omega); intro v287 w7 ho hb hg hat; rw [← Ny286.out] at ho; have n0_ := Aside0.mk (hb); have n1_ := Aside0.mk (ho); clear HB; clear HO_3; have HB := n0_; have HO288 := n1_; clear n0_ n1_; clear ho hb hg hat))
      go_roundg k1
      case measure => have := HK1.out; omega
      case rel => exact ⟨(IntKind.u64.wrap (Int.tdiv x0_1 2)), (y286), (wrap64 (x4_1 + 1)), (by first | rfl | (simp; done) | (simp [*]; done)), (by first | rfl | (simp; done) | (simp [*]; done)), H', ⟨by have := HK1.out; omega⟩, ⟨by (with_reducible repeat (first | apply Kd.R_alloc | apply Kd.R_drewN | apply Kd.R_drew)); exact HO288.out⟩, ⟨by repeat (first | (with_reducible first | exact HB.out | apply below_alloc | apply pw_below_drewN | apply below_drew1) | exact HB.out)⟩⟩
     ·rw [if_neg c6] at H
      exact absurd H (by simp)
    ·rw [if_neg c5] at H
     have c5b0 : ((Int.tmod x0_1 2) == 1) = false := beq_eq_false_iff_ne.mpr c5
     have c5b1 : ((Int.tmod x0_1 2) != 1) = true := bne_iff_ne.mpr c5
     have H' := Aside0.mk H
     clear H
     go_wp2
     go_roundg k1
     case measure => have := HK1.out; omega
     case rel => exact ⟨(IntKind.u64.wrap (Int.tdiv x0_1 2)), (x3_1), (wrap64 (x4_1 + 1)), (by first | rfl | (simp; done) | (simp [*]; done)), (by first | rfl | (simp; done) | (simp [*]; done)), H', ⟨by have := HK1.out; omega⟩, ⟨by (with_reducible repeat (first | apply Kd.R_alloc | apply Kd.R_drewN | apply Kd.R_drew)); exact HO_3.out⟩, ⟨by repeat (first | (with_reducible first | exact HB.out | apply below_alloc | apply pw_below_drewN | apply below_drew1) | exact HB.out)⟩⟩
   ·rw [if_neg c4] at H
    have c4b0 : decide (x4_1 < 64) = false := decide_eq_false c4
    clear c4
    obtain rfl := Option.some.inj H
    go_wp2
    go_ret
    exact ⟨_, by first | rfl | (simp [errW_none, errW_some] <;> rfl) | (simp [*, errW_none, errW_some] <;> rfl), by (with_reducible repeat (first | apply Kd.R_alloc | apply Kd.R_drewN | apply Kd.R_drew)); exact HO_3.out, by repeat (first | (with_reducible first | exact HB.out | apply below_alloc | apply pw_below_drewN | apply below_drew1) | exact HB.out)⟩
end Go.Proofs.YtadepdeckapgcaaDoor.PWitnessTells
end

section
namespace Go.Proofs.YtadepdeckapgcaaDoor
open Go.RowKit Go.Proofs.YtadepdeckapgcaaDoorW.PrintWords Go.Proofs.YtadepdeckapgcaaDoorW.PrintLast Go.Proofs.YtadepdeckapgcaaDoorW.PrintMore PWitnessTells
set_option linter.unusedSimpArgs false
set_option linter.unusedVariables false
theorem half_div (s k : Nat) : s / 2 ^ k / 2 = s / 2 ^ (k + 1) := by rw [Nat.div_div_eq_div_mul, Nat.pow_succ]
theorem tdiv_half (s i : Nat) (hs : s < B64) : IntKind.u64.wrap (Int.tdiv ((s / 2 ^ i : Nat) : Int) 2) = ((s / 2 ^ (i + 1) : Nat) : Int) := by
  have hx : s / 2 ^ i < B64 := Nat.lt_of_le_of_lt (Nat.div_le_self _ _) hs
  rw [← half_div]
  generalize s / 2 ^ i = x at *
  rw [Int.tdiv_eq_ediv_of_nonneg (by omega), IntKind.wrap_u64]
  unfold B64 at hx
  omega
theorem tmod_nat (x : Nat) : Int.tmod ((x : Nat) : Int) 2 = ((x % 2 : Nat) : Int) := by
  rw [Int.tmod_eq_emod_of_nonneg (by omega)]; omega
theorem wrap_lt64 (i : Nat) (h : i < 100) : wrap64 ((i : Int) + 1) = ((i + 1 : Nat) : Int) := wrap_succ i 100 h (by decide)
theorem ev_list_l0 (s : Nat) (hs : s < B64) : ∀ (d i : Nat) (acc : List Int), i + d = 64 → acc.length ≤ i → Ev (fun k => logjamref02_List.l0 k ((s / 2 ^ i : Nat) : Int) acc (i : Int)) (acc ++ lb d i (s / 2 ^ i)) := by
  intro d
  induction d with
  | zero =>
    intro i acc hi ha
    have e : lb 0 i (s / 2 ^ i) = [] := rfl
    rw [e, List.append_nil]
    exact Ev.step (f := fun _ => some acc) (fun k => by simp only [logjamref02_List.l0]; rw [if_neg (by omega)]) (Ev.now _)
  | succ d ih =>
    intro i acc hi ha
    have hT := tdiv_half s i hs
    have hw := Lib.hid <| wrap_lt64 i (by omega)
    rw [lb_succ, half_div]
    by_cases q : s / 2 ^ i % 2 = 1
    · rw [if_pos q]
      have ih' := ih (i + 1) (acc ++ [(i : Int)]) (by omega) (by rw [List.length_append, List.length_singleton]; omega)
      rw [List.append_assoc] at ih'
      refine Ev.step (f := fun k => logjamref02_List.l0 k ((s / 2 ^ (i + 1) : Nat) : Int) (acc ++ [(i : Int)]) ((i + 1 : Nat) : Int)) (fun k => ?_) ih'
      simp only [logjamref02_List.l0]
      rw [if_pos (by omega), tmod_nat, if_pos (by rw [q]; rfl), if_pos (by omega), hT, hw.out]
    · rw [if_neg q]
      refine Ev.step (f := fun k => logjamref02_List.l0 k ((s / 2 ^ (i + 1) : Nat) : Int) acc ((i + 1 : Nat) : Int)) (fun k => ?_) (ih (i + 1) acc (by omega) (by omega))
      simp only [logjamref02_List.l0]
      rw [if_pos (by omega), tmod_nat, if_neg (by generalize s / 2 ^ i = x at *; omega), hT, hw.out]
theorem ev_list (s : Nat) (hs : s < B64) : Ev (fun k => logjamref02_List.f k (s : Int)) (listB s) := by
  have h := ev_list_l0 s hs 64 0 [] (Nat.zero_add _) (Nat.le_refl _)
  rw [Nat.pow_zero, Nat.div_one] at h
  exact h
end Go.Proofs.YtadepdeckapgcaaDoor
end

section
namespace Go.Proofs.YtadepdeckapgcaaDoor
open Go.RowKit Go.Proofs.YtadepdeckapgcaaDoorW.PrintWords Go.Proofs.YtadepdeckapgcaaDoorW.PrintLast Go.Proofs.YtadepdeckapgcaaDoorW.PrintMore PWitnessTells
set_option linter.unusedSimpArgs false
set_option linter.unusedVariables false
theorem hasB_nat (s : Nat) (i : Nat) (h : i ≤ 63) : hasB s i = s.testBit i := by
  unfold hasB; rw [decide_eq_true (by unfold vt; omega)]; simp
theorem setExt (a b : Nat) (ha : a < B64) (hb : b < B64) (h : ∀ t, hasB a t = hasB b t) : a = b := by
  apply Nat.eq_of_testBit_eq
  intro i
  by_cases hi : i ≤ 63
  · rw [← hasB_nat a i hi, ← hasB_nat b i hi, h]
  · have hp : 18446744073709551616 ≤ 2 ^ i := by
      have : 2 ^ 64 ≤ 2 ^ i := Nat.pow_le_pow_right (by decide) (by omega)
      omega
    rw [Nat.testBit_lt_two_pow (Nat.lt_of_lt_of_le ha hp), Nat.testBit_lt_two_pow (Nat.lt_of_lt_of_le hb hp)]
theorem hasB_withB (s : Nat) (t u : Int) : hasB (withB s t) u = (hasB s u || decide (vt t ∧ u = t)) := by
  unfold hasB withB
  by_cases hu : vt u
  · rw [decide_eq_true hu]
    by_cases ht : vt t
    · rw [if_pos ht, Nat.testBit_or, Nat.testBit_two_pow, Bool.true_and, Bool.true_and]
      congr 1
      rw [decide_eq_decide]
      unfold vt at hu ht; constructor
      · intro e; exact ⟨ht, by omega⟩
      · intro e; omega
    · rw [if_neg ht, decide_eq_false (fun q => ht q.1)]; simp
  · rw [decide_eq_false hu, decide_eq_false (show ¬ (vt t ∧ u = t) from fun q => hu (q.2 ▸ q.1))]; simp
theorem woutB_and (s : Nat) (hs : s < B64) (t : Int) (h : vt t) : woutB s t = s &&& (18446744073709551615 - 2 ^ t.toNat) := by
  rw [andNot_eq s t.toNat hs (by unfold vt at h; omega)]
  unfold woutB hasB
  simp [h]
theorem hasB_woutB (s : Nat) (hs : s < B64) (t u : Int) : hasB (woutB s t) u = (hasB s u && decide (u ≠ t)) := by
  by_cases ht : vt t
  · rw [woutB_and s hs t ht]
    unfold hasB
    by_cases hu : vt u
    · have hx : (18446744073709551615 - 2 ^ t.toNat).testBit u.toNat = decide (u ≠ t) := by
        have hp := pow_lt t ht
        unfold B64 at hp
        have := Nat.testBit_two_pow_sub_succ (x := 2 ^ t.toNat) (n := 64) (by omega) u.toNat
        rw [show 2 ^ 64 - (2 ^ t.toNat + 1) = 18446744073709551615 - 2 ^ t.toNat by omega] at this
        rw [this, Nat.testBit_two_pow]
        unfold vt at hu ht
        rw [decide_eq_true (by omega), Bool.true_and]
        by_cases e : u = t
        · subst e; simp
        · rw [decide_eq_true e, decide_eq_false (by omega)]; rfl
      rw [Nat.testBit_and, hx, Bool.and_assoc]
    · rw [decide_eq_false hu]; simp
  · have : hasB s t = false := by unfold hasB; simp [ht]
    unfold woutB
    rw [this]
    by_cases e : u = t
    · subst e; simp [this]
    · simp [e]
theorem hasB_vt {s : Nat} {t : Int} (h : hasB s t = true) : vt t := by unfold hasB at h; simp at h; exact h.1
theorem firstB_has (s : Nat) (h0 : s ≠ 0) (h : s < B64) : hasB s (firstB s) = true := by
  rw [← mem_listB, listB_step s h0 h]; simp
def card (s : Nat) : Nat := (List.range 64).countP fun i => s.testBit i
theorem countP_one (p q : Nat → Bool) (t : Nat) (hp : p t = false) (hq : q t = true) (h : ∀ i, i ≠ t → q i = p i) : ∀ n, (List.range n).countP q = (List.range n).countP p + if t < n then 1 else 0 := by
  intro n
  induction n with
  | zero => simp
  | succ n ih =>
    rw [List.range_succ, List.countP_append, List.countP_append, ih]
    by_cases e : n = t
    · subst e; simp [hp, hq]
    · simp only [List.countP_cons, List.countP_nil, h n e]
      by_cases hl : t < n
      · simp only [hl, show t < n + 1 by omega, if_true]; omega
      · simp only [hl, show ¬ t < n + 1 by omega, if_false]; omega
theorem card_with (s : Nat) (t : Int) (hv : vt t) (h : hasB s t = false) : card (withB s t) = card s + 1 := by
  unfold card
  have hv' := hv; unfold vt at hv'
  rw [countP_one (fun i => s.testBit i) (fun i => (withB s t).testBit i) t.toNat]
  · rw [if_pos (by omega)]
  · unfold hasB at h; simpa [hv] using h
  · unfold withB; rw [if_pos hv, Nat.testBit_or, Nat.testBit_two_pow]; simp
  · intro i hi; unfold withB; rw [if_pos hv, Nat.testBit_or, Nat.testBit_two_pow, decide_eq_false (Ne.symm hi), Bool.or_false]
theorem with_wout (s : Nat) (hs : s < B64) (t : Int) (h : hasB s t = true) : withB (woutB s t) t = s := by
  refine setExt _ _ (withB_lt' _ (by unfold woutB; split <;> (generalize 2 ^ t.toNat = x; omega)) _) hs (fun u => ?_)
  rw [hasB_withB, hasB_woutB s hs]
  by_cases e : u = t
  · subst e; rw [h]; simp [hasB_vt h]
  · simp [e]
theorem woutB_lt' (s : Nat) (hs : s < B64) (t : Int) : woutB s t < B64 := by unfold woutB; split <;> (generalize 2 ^ t.toNat = x; omega)
theorem card_wout (s : Nat) (hs : s < B64) (t : Int) (h : hasB s t = true) : card (woutB s t) + 1 = card s := by
  rw [← card_with (woutB s t) t (hasB_vt h) (by rw [hasB_woutB s hs]; simp), with_wout s hs t h]
theorem card_le (s : Nat) : card s ≤ 64 := by
  unfold card; have := List.countP_le_length (p := fun i => s.testBit i) (l := List.range 64); simpa using this
theorem hasB_bit' (o t : Int) : hasB (bit1 o) t = decide (vt t ∧ o = t) := by
  have : bit1 o = withB 0 o := by unfold bit1 withB; split <;> simp
  rw [this, hasB_withB]
  have : hasB 0 t = false := by unfold hasB; simp
  rw [this, Bool.false_or, decide_eq_decide]
  constructor
  · rintro ⟨a, rfl⟩; exact ⟨a, rfl⟩
  · rintro ⟨a, rfl⟩; exact ⟨a, rfl⟩
theorem pair_lt {l : List Int} (h : l.Pairwise (· < ·)) (i j : Nat) (hij : i < j) (hj : j < l.length) : l.getD i 0 < l.getD j 0 := by
  have := List.pairwise_iff_getElem.1 h i j (by omega) hj hij
  simpa [show i < l.length by omega, hj] using this
def lackOf (dead : Nat) (way : List NTerm) : List NShare := (way.getD (lacksL dead 0 way).toNat z96).f1
def shF (dead : Nat) : Nat × Nat → List NShare → Nat × Nat
  | mt, [] => mt
  | mt, s :: r => shF dead (if hasB dead s.f0 && !hasB mt.1 s.f0 then (withB mt.1 s.f0, withB mt.2 s.f0) else mt) r
theorem shF_cons (dead : Nat) (mt : Nat × Nat) (s : NShare) (r : List NShare) : shF dead mt (s :: r) = shF dead (if hasB dead s.f0 && !hasB mt.1 s.f0 then (withB mt.1 s.f0, withB mt.2 s.f0) else mt) r := rfl
def wyF (dead : Nat) : Nat × Nat → List (List NTerm) → Nat × Nat
  | mt, [] => mt
  | mt, w :: r => wyF dead (shF dead mt (lackOf dead w)) r
theorem wyF_cons (dead : Nat) (mt : Nat × Nat) (w : List NTerm) (r : List (List NTerm)) : wyF dead mt (w :: r) = wyF dead (shF dead mt (lackOf dead w)) r := rfl
def shTo (dead : Nat) (l : List NShare) (v : Int) : Prop := hasB dead v = true ∧ ∃ s ∈ l, s.f0 = v
def goesTo (dead : Nat) (ws : List (List NTerm)) (v : Int) : Prop := ∃ w ∈ ws, shTo dead (lackOf dead w) v
def Grown (P : Int → Prop) (a b : Nat × Nat) : Prop :=
  b.1 < B64 ∧ b.2 < B64 ∧ (∀ u, hasB b.1 u = true ↔ hasB a.1 u = true ∨ P u) ∧ (∀ u, hasB b.2 u = true ↔ hasB a.2 u = true ∨ (P u ∧ hasB a.1 u = false)) ∧
    2 * (64 - card b.1) + card b.2 ≤ 2 * (64 - card a.1) + card a.2
def Sub2 (a : Nat × Nat) : Prop := a.1 < B64 ∧ a.2 < B64 ∧ ∀ u, hasB a.2 u = true → hasB a.1 u = true
theorem Grown.refl {a : Nat × Nat} (h : Sub2 a) : Grown (fun _ => False) a a := ⟨h.1, h.2.1, fun u => by simp, fun u => by simp, Nat.le_refl _⟩
theorem Grown.sub {P : Int → Prop} {a b : Nat × Nat} (g : Grown P a b) (h : Sub2 a) : Sub2 b :=
  ⟨g.1, g.2.1, fun u hu => by
    rcases (g.2.2.2.1 u).1 hu with q | q
    · exact (g.2.2.1 u).2 (.inl (h.2.2 u q))
    · exact (g.2.2.1 u).2 (.inr q.1)⟩
theorem Grown.trans {P Q : Int → Prop} {a b c : Nat × Nat} (g : Grown P a b) (k : Grown Q b c) : Grown (fun u => P u ∨ Q u) a c := by
  refine ⟨k.1, k.2.1, fun u => ?_, fun u => ?_, Nat.le_trans k.2.2.2.2 g.2.2.2.2⟩
  · rw [k.2.2.1, g.2.2.1, or_assoc]
  · rw [k.2.2.2.1, g.2.2.2.1]
    have e : hasB b.1 u = false ↔ ¬ (hasB a.1 u = true ∨ P u) := by rw [← g.2.2.1]; simp
    rw [e]
    have e2 : hasB a.1 u = false ↔ ¬ hasB a.1 u = true := by simp
    rw [e2]
    by_cases h1 : hasB a.1 u = true <;> by_cases h2 : P u <;> by_cases h3 : Q u <;> simp [h1, h2, h3]
theorem Grown.congr {P Q : Int → Prop} {a b : Nat × Nat} (g : Grown P a b) (h : ∀ u, P u ↔ Q u) : Grown Q a b :=
  ⟨g.1, g.2.1, fun u => by rw [g.2.2.1, h], fun u => by rw [g.2.2.2.1, h], g.2.2.2.2⟩
theorem one_grown (dead : Nat) (mt : Nat × Nat) (h : Sub2 mt) (t : Int) : Grown (fun u => hasB dead u = true ∧ u = t) mt (if hasB dead t && !hasB mt.1 t then (withB mt.1 t, withB mt.2 t) else mt) := by
  by_cases c : (hasB dead t && !hasB mt.1 t) = true
  · rw [if_pos c]
    simp only [Bool.and_eq_true, Bool.not_eq_true'] at c
    have hv := hasB_vt c.1
    have h2 : hasB mt.2 t = false := by
      cases q : hasB mt.2 t
      · rfl
      · have := h.2.2 t q; rw [c.2] at this; cases this
    refine ⟨withB_lt' _ h.1 _, withB_lt' _ h.2.1 _, fun u => ?_, fun u => ?_, ?_⟩
    · show hasB (withB mt.1 t) u = true ↔ _
      rw [hasB_withB]
      simp only [Bool.or_eq_true, decide_eq_true_eq]
      constructor
      · rintro (q | q)
        · exact .inl q
        · exact .inr ⟨q.2 ▸ c.1, q.2⟩
      · rintro (q | q)
        · exact .inl q
        · exact .inr ⟨hv, q.2⟩
    · show hasB (withB mt.2 t) u = true ↔ _
      rw [hasB_withB]
      simp only [Bool.or_eq_true, decide_eq_true_eq]
      constructor
      · rintro (q | q)
        · exact .inl q
        · exact .inr ⟨⟨q.2 ▸ c.1, q.2⟩, q.2 ▸ c.2⟩
      · rintro (q | q)
        · exact .inl q
        · exact .inr ⟨hv, q.1.2⟩
    · show 2 * (64 - card (withB mt.1 t)) + card (withB mt.2 t) ≤ _
      have := card_le (withB mt.1 t)
      rw [card_with _ _ hv c.2] at *
      rw [card_with _ _ hv h2]
      omega
  · rw [if_neg c]
    have c' : hasB dead t = true → hasB mt.1 t = true := by
      intro q; cases r : hasB mt.1 t
      · exact absurd (by simp [q, r]) c
      · rfl
    refine ⟨h.1, h.2.1, fun u => ⟨.inl, ?_⟩, fun u => ⟨.inl, ?_⟩, Nat.le_refl _⟩
    · rintro (q | ⟨q1, rfl⟩)
      · exact q
      · exact c' q1
    · rintro (q | ⟨⟨q1, rfl⟩, q2⟩)
      · exact q
      · rw [c' q1] at q2; cases q2
theorem shF_grown (dead : Nat) : ∀ (l : List NShare) (mt : Nat × Nat), Sub2 mt → Grown (shTo dead l) mt (shF dead mt l)
  | [], mt, h => (Grown.refl h).congr (fun u => by unfold shTo; simp)
  | s :: r, mt, h => by
    rw [shF_cons]
    have g := one_grown dead mt h s.f0
    refine (g.trans (shF_grown dead r _ (g.sub h))).congr (fun u => ?_)
    unfold shTo
    constructor
    · rintro (⟨a, b⟩ | ⟨a, x, hx, e⟩)
      · exact ⟨a, s, by simp, b.symm⟩
      · exact ⟨a, x, by simp [hx], e⟩
    · rintro ⟨a, x, hx, e⟩
      rcases List.mem_cons.1 hx with rfl | hx
      · exact .inl ⟨a, e.symm⟩
      · exact .inr ⟨a, x, hx, e⟩
theorem wyF_grown (dead : Nat) : ∀ (l : List (List NTerm)) (mt : Nat × Nat), Sub2 mt → Grown (goesTo dead l) mt (wyF dead mt l)
  | [], mt, h => (Grown.refl h).congr (fun u => by unfold goesTo; simp)
  | w :: r, mt, h => by
    rw [wyF_cons]
    have g := shF_grown dead (lackOf dead w) mt h
    refine (g.trans (wyF_grown dead r _ (g.sub h))).congr (fun u => ?_)
    unfold goesTo
    simp
def Closed (dead : Nat) (d : List Int) (n : List NNode) (S : Nat) : Prop := ∀ i, i < d.length → hasB S (d.getD i 0) = true → ∀ v, goesTo dead (n.getD i z92).f1 v → hasB S v = true
def CoreOK (dead : Nat) (d : List Int) (n : List NNode) (t : Int) (met : Nat) : Prop :=
  met < B64 ∧ hasB met t = true ∧ (∀ u, hasB met u = true → hasB dead u = true) ∧ Closed dead d n met ∧ ∀ S, Closed dead d n S → hasB S t = true → ∀ u, hasB met u = true → hasB S u = true
def CInv (dead : Nat) (d : List Int) (n : List NNode) (t : Int) (mt : Nat × Nat) : Prop :=
  Sub2 mt ∧ hasB mt.1 t = true ∧ (∀ u, hasB mt.1 u = true → hasB dead u = true) ∧
    (∀ i, i < d.length → hasB mt.1 (d.getD i 0) = true → hasB mt.2 (d.getD i 0) = false → ∀ v, goesTo dead (n.getD i z92).f1 v → hasB mt.1 v = true) ∧
    ∀ S, Closed dead d n S → hasB S t = true → ∀ u, hasB mt.1 u = true → hasB S u = true
theorem CInv.done {dead : Nat} {d : List Int} {n : List NNode} {t : Int} {met : Nat} (h : CInv dead d n t (met, 0)) : CoreOK dead d n t met :=
  ⟨h.1.1, h.2.1, h.2.2.1, fun i hi hu v hv => h.2.2.2.1 i hi hu (by unfold hasB; simp) v hv, h.2.2.2.2⟩
theorem CInv.start {dead : Nat} {d : List Int} {n : List NNode} {t : Int} (h : hasB dead t = true) : CInv dead d n t (bit1 t, bit1 t) := by
  have hu : ∀ u, hasB (bit1 t) u = true ↔ u = t := fun u => by
    rw [hasB_bit']; simp only [decide_eq_true_eq]
    exact ⟨fun q => q.2.symm, fun q => ⟨q ▸ hasB_vt h, q.symm⟩⟩
  refine ⟨⟨bit1_lt t, bit1_lt t, fun u q => q⟩, (hu t).2 rfl, fun u q => by rw [(hu u).1 q]; exact h, ?_, ?_⟩
  · intro i hi h1 h2 v hv
    simp only at h1 h2
    rw [h1] at h2; cases h2
  · intro S hS ht u q
    rw [(hu u).1 q]; exact ht
theorem CInv.step {dead : Nat} {d : List Int} {n : List NNode} {t : Int} {met todo : Nat} (hp : d.Pairwise (· < ·)) (h : CInv dead d n t (met, todo)) (h0 : todo ≠ 0) (i : Nat) (hi : i < d.length) (he : d.getD i 0 = firstB todo) :
    CInv dead d n t (wyF dead (met, woutB todo (firstB todo)) (n.getD i z92).f1) ∧
      2 * (64 - card (wyF dead (met, woutB todo (firstB todo)) (n.getD i z92).f1).1) + card (wyF dead (met, woutB todo (firstB todo)) (n.getD i z92).f1).2 < 2 * (64 - card met) + card todo := by
  obtain ⟨⟨s1, s2, s3⟩, h1, h2, h3, h4⟩ := h
  simp only at s1 s2 s3 h1 h2 h3 h4
  have hf := firstB_has todo h0 s2
  have hw := hasB_woutB todo s2 (firstB todo)
  have hs : Sub2 (met, woutB todo (firstB todo)) := ⟨s1, woutB_lt' _ s2 _, fun u q => s3 u (by simp only at q; rw [hw] at q; simp at q; exact q.1)⟩
  have g := wyF_grown dead (n.getD i z92).f1 _ hs
  have hc := card_wout todo s2 _ hf
  refine ⟨⟨g.sub hs, (g.2.2.1 t).2 (.inl h1), fun u q => ?_, fun j hj q1 q2 v hv => ?_, fun S hS ht u q => ?_⟩, Nat.lt_of_le_of_lt g.2.2.2.2 (by show 2 * (64 - card met) + card (woutB todo (firstB todo)) < _; omega)⟩
  · rcases (g.2.2.1 u).1 q with q | ⟨w, _, q, _⟩
    · exact h2 u q
    · exact q
  · by_cases hji : d.getD j 0 = firstB todo
    · have : j = i := by
        rcases Nat.lt_trichotomy j i with r | r | r
        · have := pair_lt hp j i r hi; omega
        · exact r
        · have := pair_lt hp i j r hj; omega
      subst this
      exact (g.2.2.1 v).2 (.inr hv)
    · rcases (g.2.2.1 _).1 q1 with r | r
      · refine (g.2.2.1 v).2 (.inl (h3 j hj r ?_ v hv))
        cases q : hasB todo (d.getD j 0)
        · rfl
        · exfalso
          have : hasB (woutB todo (firstB todo)) (d.getD j 0) = true := by rw [hw, q, decide_eq_true hji]; rfl
          rw [(g.2.2.2.1 _).2 (.inl this)] at q2; cases q2
      · cases q : hasB met (d.getD j 0)
        · rw [(g.2.2.2.1 _).2 (.inr ⟨r, q⟩)] at q2; cases q2
        · refine (g.2.2.1 v).2 (.inl (h3 j hj q ?_ v hv))
          cases q' : hasB todo (d.getD j 0)
          · rfl
          · exfalso
            have : hasB (woutB todo (firstB todo)) (d.getD j 0) = true := by rw [hw, q', decide_eq_true hji]; rfl
            rw [(g.2.2.2.1 _).2 (.inl this)] at q2; cases q2
  · rcases (g.2.2.1 u).1 q with r | r
    · exact h4 S hS ht u r
    · refine hS i hi ?_ u r
      rw [he]
      exact h4 S hS ht _ (s3 _ hf)
end Go.Proofs.YtadepdeckapgcaaDoor
end

section
namespace Go.Proofs.YtadepdeckapgcaaDoor
open Go.RowKit Go.Proofs.YtadepdeckapgcaaDoorW.PrintWords Go.Proofs.YtadepdeckapgcaaDoorW.PrintLast Go.Proofs.YtadepdeckapgcaaDoorW.PrintMore PWitnessTells
set_option linter.unusedSimpArgs false
set_option linter.unusedVariables false
section
variable {P : Program} {ops : Array Oper} {rest : List Oper} {o : Oper} {a : Act} {Q : Exit → Act → World → Prop} {Kc : Act → World → Prop} {α : Type}
theorem rAppAt (d : Kd α) {w0 W : World} (base : Nat) (hw : Region.wanted o (yielded ops a.tmps) = true) (s x : Operand) (t e : TypeId) (z : Value) (bytes : Nat)
    (ho : o.op = .call { callee := .builtin .append, args := #[s, x], argTypes := #[t, t] })
    (ht : P.underlying t = some (.slice e)) (hinfo : (P.info? e).map (fun i => (i.zero, i.size, i.bytes)) = some (some z, d.sz, bytes)) (hz : z.cells.size = d.sz) (hs0 : 0 < d.sz) (hb0 : 0 < bytes)
    (v : Value) (xs : List α) (p : α) (cs : List Value) (g : Nat) (hs : a.eval s = v) (hx : a.eval x = .slice (some ⟨g, 0, none⟩) 1 1) (hg : Blk W g cs.toArray e) (hcs : cs.length = d.sz) (hp : d.M W base Any_ p cs) (hE : ∀ q, q ∈ d.E → q ≠ e)
    (HO : d.R e W base Any_ v xs) (HB : Below base w0 W) (hbase : base ≤ W.heap.size) (hl : (xs.length + 1) * bytes ≤ 140737488355328)
    (h : ∀ v1 w1, d.R e w1 base Any_ v1 (xs ++ [p]) → Below base w0 w1 → W.grownBy w1 v.ownBlock → (v1.ownBlock = v.ownBlock ∨ ∃ b, v1.ownBlock = some b ∧ W.heap.size ≤ b) → Kc (a.put o.dst v1) w1) :
    if Region.wanted o (yielded ops a.tmps) = true then Oper.wp P o a W Kc Q else Kc (a.put o.dst undef) W := by
  obtain ⟨inner, hown⟩ := Kd.R_own HO
  refine Kd.R_append_rows_step d (Rr := fun y c => y = p ∧ c = cs) base hw s x t e z bytes ho ht hinfo hz hs0 hb0 v xs [p] (some ⟨g, 0, none⟩) 1 1 Any_ (fun k => Any_ k ∧ some k ≠ v.ownBlock) hs hx HO ?_ (fun y c hc => by rw [hc.1, hc.2]; exact M_off hp hown hE) (fun _ h => h) (fun _ _ => trivial) HB hbase hl h
  refine ⟨rfl, by decide, fun _ => ⟨⟨g, 0, none⟩, rfl, fun j q hj => ?_⟩⟩
  cases j with
  | zero =>
    simp at hj
    subst hj
    refine ⟨cs, hcs, ⟨rfl, rfl⟩, fun i u hu => ?_⟩
    have q := hg.cell i
    have e : (⟨g, 0, none⟩ : Addr).add (0 * d.sz + i) = ⟨g, i, none⟩ := by rw [add_plain, Nat.zero_mul, Nat.zero_add]
    rw [e, q]
    simpa using hu
  | succ j => simp at hj
end
structure PrAt (w : World) (B R Y : Nat) (time : Int) (xs : Array Value) (vd vn : Value) (dd : List Int) (nn : List NNode) (wr : World) : Prop where
  x : Blk wr w.heap.size xs 25
  r : Blk wr R #[.int .i64 0, .slice none 0 0, .slice none 0 0] 25
  y : Blk wr Y #[.int .i64 time, vd, vn] 25
  od : (Kd.int .i64).R 3 wr w.heap.size Any_ vd dd
  on : k92.R 92 wr B Any_ vn nn
  ob : ∀ k, vn.ownBlock = some k → w.heap.size ≤ k
  b : Below w.heap.size w wr
theorem PrAt.quiet {w : World} {B R Y : Nat} {time : Int} {xs : Array Value} {vd vn : Value} {dd : List Int} {nn : List NNode} {wr wz : World} (h : PrAt w B R Y time xs vd vn dd nn wr) (q : Quiet wr wz) : PrAt w B R Y time xs vd vn dd nn wz :=
  ⟨q.blk h.x (fun x => x), q.blk h.r (fun x => x), q.blk h.y (fun x => x), Kd.R_below h.od q.bel, Kd.R_below h.on q.bel, h.ob, below_then h.b h.b.size q.bel⟩
structure PrMid (w : World) (B R Y : Nat) (time : Int) (xs : Array Value) (vd vn : Value) (v1 : Value) (de : List Int) (nn : List NNode) (wr : World) : Prop where
  x : Blk wr w.heap.size xs 25
  r : Blk wr R #[.int .i64 0, .slice none 0 0, .slice none 0 0] 25
  y : Blk wr Y #[.int .i64 time, vd, vn] 25
  od : (Kd.int .i64).R 3 wr w.heap.size Any_ v1 de
  on : k92.R 92 wr B Any_ vn nn
  ob : ∀ k, vn.ownBlock = some k → w.heap.size ≤ k
  b : Below w.heap.size w wr
theorem PrMid.quiet {w : World} {B R Y : Nat} {time : Int} {xs : Array Value} {vd vn v1 : Value} {de : List Int} {nn : List NNode} {wr wz : World} (h : PrMid w B R Y time xs vd vn v1 de nn wr) (q : Quiet wr wz) : PrMid w B R Y time xs vd vn v1 de nn wz :=
  ⟨q.blk h.x (fun x => x), q.blk h.r (fun x => x), q.blk h.y (fun x => x), Kd.R_below h.od q.bel, Kd.R_below h.on q.bel, h.ob, below_then h.b h.b.size q.bel⟩
end Go.Proofs.YtadepdeckapgcaaDoor
end

section
namespace Go.Proofs.YtadepdeckapgcaaDoor
open Go.RowKit Go.Proofs.YtadepdeckapgcaaDoorW.PrintWords Go.Proofs.YtadepdeckapgcaaDoorW.PrintLast Go.Proofs.YtadepdeckapgcaaDoorW.PrintMore PWitnessTells
set_option linter.unusedSimpArgs false
set_option linter.unusedVariables false
structure BothQ (a b W : World) : Prop where
  one : Quiet a W
  two : Quiet b W
theorem BothQ.quiet {a b W W' : World} (h : BothQ a b W) (q : Quiet W W') : BothQ a b W' := ⟨h.one.quiet q, h.two.quiet q⟩
theorem BothQ.bel {a b W : World} (h : BothQ a b W) : Below a.heap.size a W := Quiet.bel h.one
end Go.Proofs.YtadepdeckapgcaaDoor
end

section
namespace Go.Proofs.YtadepdeckapgcaaDoor
open Go.RowKit Go.Proofs.YtadepdeckapgcaaDoorW.PrintWords Go.Proofs.YtadepdeckapgcaaDoorW.PrintLast Go.Proofs.YtadepdeckapgcaaDoorW.PrintMore PWitnessTells
set_option linter.unusedSimpArgs false
set_option linter.unusedVariables false
def IntsC (w : World) (v : Value) (l : List Int) : Prop := ∃ A c, v = .slice A l.length c ∧ Kd.C (Kd.int .i64) w A l.length l ∧ l.length ≤ c
def NodesC (w : World) (v : Value) (l : List NNode) : Prop := ∃ A c, v = .slice A l.length c ∧ Kd.C k92 w A l.length l ∧ l.length ≤ c
def RepC (w : World) (v : Value) (time : Int) (d : List Int) (n : List NNode) : Prop :=
  ∃ A1 c1 A2 c2, v = .agg #[.int .i64 time, .slice A1 d.length c1, .slice A2 n.length c2] ∧ Kd.C (Kd.int .i64) w A1 d.length d ∧ d.length ≤ c1 ∧ Kd.C k92 w A2 n.length n ∧ n.length ≤ c2
def RepR (w : World) (B : Nat) (v : Value) (time : Int) (d : List Int) (n : List NNode) : Prop :=
  ∃ A1 c1 A2 c2, v = .agg #[.int .i64 time, .slice A1 d.length c1, .slice A2 n.length c2] ∧ Kd.C (Kd.int .i64) w A1 d.length d ∧ d.length ≤ c1 ∧ k92.R 92 w B Any_ (.slice A2 n.length c2) n
theorem IntsC.quiet {w w' : World} {v : Value} {l : List Int} (h : IntsC w v l) (q : Quiet w w') : IntsC w' v l := by
  obtain ⟨A, c, e, h1, h2⟩ := h; exact ⟨A, c, e, Kd.C_below h1 q.bel, h2⟩
theorem NodesC.quiet {w w' : World} {v : Value} {l : List NNode} (h : NodesC w v l) (q : Quiet w w') : NodesC w' v l := by
  obtain ⟨A, c, e, h1, h2⟩ := h; exact ⟨A, c, e, Kd.C_below h1 q.bel, h2⟩
theorem RepC.quiet {w w' : World} {v : Value} {time : Int} {d : List Int} {n : List NNode} (h : RepC w v time d n) (q : Quiet w w') : RepC w' v time d n := by
  obtain ⟨A1, c1, A2, c2, e, h1, h2, h3, h4⟩ := h; exact ⟨A1, c1, A2, c2, e, Kd.C_below h1 q.bel, h2, Kd.C_below h3 q.bel, h4⟩
theorem RepR.quiet {w w' : World} {B : Nat} {v : Value} {time : Int} {d : List Int} {n : List NNode} (h : RepR w B v time d n) (q : Quiet w w') : RepR w' B v time d n := by
  obtain ⟨A1, c1, A2, c2, e, h1, h2, h3⟩ := h; exact ⟨A1, c1, A2, c2, e, Kd.C_below h1 q.bel, h2, Kd.R_below h3 q.bel⟩
theorem RepR.c {w : World} {B : Nat} {v : Value} {time : Int} {d : List Int} {n : List NNode} (h : RepR w B v time d n) : RepC w v time d n := by
  obtain ⟨A1, c1, A2, c2, e, h1, h2, h3⟩ := h
  obtain ⟨_, h4, h5⟩ := Kd.R_reads' h3
  exact ⟨A1, c1, A2, c2, e, h1, h2, h5, h4⟩
theorem Blk.quiet {w w' : World} {b : Nat} {cs : Array Value} {t : TypeId} (h : Blk w b cs t) (q : Quiet w w') : Blk w' b cs t := q.blk h (fun x => x)
theorem IntsC.of_R {w : World} {base : Nat} {ok : Nat → Prop} {v : Value} {l : List Int} (h : (Kd.int .i64).R 3 w base ok v l) : IntsC w v l := by
  obtain ⟨A, c, e, h1, h2⟩ := Kd.R_reads h; exact ⟨A, c, e, h2, h1⟩
theorem IntsC.of_own {w : World} {base : Nat} {v : Value} {l : List Int} (h : w.ownsRow base 3 1 v l.length (nums .i64 l)) : IntsC w v l := by
  obtain ⟨A, c, rfl, hr⟩ := own_reads h
  have hR : (Kd.int .i64).R 3 w base (fun _ => True) (.slice A l.length c) l := Kd.R_of_own (enc := Value.int .i64) (h1 := fun _ => rfl) h (fun _ _ => trivial)
  exact IntsC.of_R hR
theorem C_of_sh {α β : Type} {S : Sh α} {d : Kd β} (f : α → β) (hsz : d.sz = S.n) {w : World} (hK : ∀ a cs, S.rd w w.heap.size a cs → d.K w (f a) cs) {l : List α} {v : Value} (h : (shL S).rd w w.heap.size l [v]) :
    ∃ A c, v = .slice A (l.map f).length c ∧ Kd.C d w A (l.map f).length (l.map f) ∧ (l.map f).length ≤ c := by
  rcases h with ⟨rfl, a, h⟩ | ⟨b, o, cap, hb, hl, hm, h, hi⟩
  · simp at h; exact ⟨a, 0, h, ⟨rfl, Nat.zero_le _, fun q => absurd q (by simp)⟩, Nat.le_refl _⟩
  · simp at h
    unfold maxLen at hm
    refine ⟨some ⟨b, o, none⟩, cap, by rw [h, List.length_map], ⟨rfl, by rw [List.length_map]; omega, fun _ => ⟨⟨b, o, none⟩, rfl, fun j q hj => ?_⟩⟩, by rw [List.length_map]; exact hl⟩
    rw [List.getElem?_map] at hj
    obtain ⟨x, hx, rfl⟩ := Option.map_eq_some_iff.1 hj
    obtain ⟨hjl, rfl⟩ := List.getElem?_eq_some_iff.1 hx
    obtain ⟨ci, hr, hcl, hcell⟩ := hi j hjl
    refine ⟨ci, hcl.trans hsz.symm, hK _ _ hr, fun i u hu => ?_⟩
    obtain ⟨hil, _⟩ := List.getElem?_eq_some_iff.1 hu
    rw [addr_add, hsz, ← Nat.add_assoc, hcell i (by omega)]
    exact hu
abbrev shShare : Sh (Int × Int) := shP shInt shInt
def toS (x : Int × Int) : NShare := ⟨x.1, x.2⟩
theorem share_of {w : World} (a : Int × Int) (cs : List Value) (h : shShare.rd w w.heap.size a cs) : k108.K w (toS a) cs := by
  obtain ⟨c1, c2, rfl, _, ⟨rfl, _⟩, ⟨rfl, _⟩⟩ := h
  exact k108_mk w (toS a)
theorem one_of_sh {α : Type} {S : Sh α} {w : World} {l : List α} {cs : List Value} (h : (shL S).rd w w.heap.size l cs) : ∃ v, cs = [v] := by
  rcases h with ⟨_, a, e⟩ | ⟨b, o, cap, _, _, _, e, _⟩
  · exact ⟨_, e⟩
  · exact ⟨_, e⟩
end Go.Proofs.YtadepdeckapgcaaDoor
end

section
namespace Go.Proofs.YtadepdeckapgcaaDoor
open Go.RowKit Go.Proofs.YtadepdeckapgcaaDoorW.PrintWords Go.Proofs.YtadepdeckapgcaaDoorW.PrintLast Go.Proofs.YtadepdeckapgcaaDoorW.PrintMore PWitnessTells
set_option linter.unusedSimpArgs false
set_option linter.unusedVariables false
theorem flat_get {α : Type} {sz : Nat} : ∀ {l : List (α × List Value)} (_ : ∀ p ∈ l, p.2.length = sz) (j : Nat) (p : α × List Value) (_ : l[j]? = some p) (i : Nat) (_ : i < sz), (l.flatMap Prod.snd)[j * sz + i]? = p.2[i]?
  | [], _, j, p, hj, _, _ => by simp at hj
  | a :: r, h, 0, p, hj, i, hi => by
    simp at hj; subst hj
    rw [List.flatMap_cons, Nat.zero_mul, Nat.zero_add, List.getElem?_append_left (by rw [h a (by simp)]; exact hi)]
  | a :: r, h, j + 1, p, hj, i, hi => by
    have ha := h a (by simp)
    have ih := flat_get (l := r) (fun q hq => h q (by simp [hq])) j p (by simpa using hj) i hi
    rw [List.flatMap_cons, List.getElem?_append_right (by rw [ha, Nat.succ_mul]; omega), ha, show (j + 1) * sz + i - sz = j * sz + i by rw [Nat.succ_mul]; omega]
    exact ih
theorem C_of_blk {α : Type} (d : Kd α) {W : World} {b : Nat} {t : TypeId} (l : List (α × List Value)) (h : Blk W b (l.flatMap Prod.snd).toArray t) (hK : ∀ p ∈ l, d.K W p.1 p.2) (hm : l.length ≤ 1000000) : Kd.C d W (some ⟨b, 0, none⟩) l.length (l.map Prod.fst) := by
  refine ⟨List.length_map _, by omega, fun _ => ⟨⟨b, 0, none⟩, rfl, fun j q hj => ?_⟩⟩
  rw [List.getElem?_map] at hj
  obtain ⟨p, hp, rfl⟩ := Option.map_eq_some_iff.1 hj
  have hk := hK p (List.mem_of_getElem? hp)
  have hl := d.K_len hk
  refine ⟨p.2, hl, hk, fun i u hu => ?_⟩
  obtain ⟨hil, _⟩ := List.getElem?_eq_some_iff.1 hu
  rw [add_plain, h.cell, List.getElem?_toArray, flat_get (fun p hp => d.K_len (hK p hp)) j p hp i (by omega)]
  exact hu
end Go.Proofs.YtadepdeckapgcaaDoor
end

section
namespace Go.Proofs.YtadepdeckapgcaaDoor
open Go.RowKit Go.Proofs.YtadepdeckapgcaaDoorW.PrintWords Go.Proofs.YtadepdeckapgcaaDoorW.PrintLast Go.Proofs.YtadepdeckapgcaaDoorW.PrintMore PWitnessTells
set_option linter.unusedSimpArgs false
set_option linter.unusedVariables false
abbrev NInfo := NShare
abbrev kInfo : Kd NInfo := k108
def keyF (policy : Int) (of : List NInfo) (t : Int) : Int := if (of.length : Int) ≤ t then 0 else if policy = 1 then (of.getD t.toNat z108).f0 else (of.getD t.toNat z108).f1
def cmpI (a b : Int) : Int := if a < b then -1 else if b < a then 1 else 0
theorem wIsNaN (w : World) (x : Int) : Calls Tryd.prog 118 #[.int .i64 x] w fun e w' => e = .returned (.bool false) ∧ w = w' := by
  have h : (x != x) = false := by simp
  go_enter Tryd.func118, Tryd.ntmps118
  go_wp2
  go_ret
  exact ⟨rfl, rfl⟩
theorem wCompare (w : World) (a b : Int) : Calls Tryd.prog 78 #[.int .i64 a, .int .i64 b] w fun e w' => e = .returned (.int .i64 (cmpI a b)) ∧ w = w' := by
  by_cases h1 : a < b
  · have E : Hid (cmpI a b = -1) := Lib.hid (by unfold cmpI; rw [if_pos h1])
    have h1' : decide (a < b) = true := decide_eq_true h1
    clear h1
    go_enter Tryd.func78, Tryd.ntmps78
    go_wp2_with (go_at_call 118; refine (wIsNaN _ _).mono ?_; rintro e w' ⟨rfl, rfl⟩)
    go_ret
    rw [E.out]; exact ⟨rfl, rfl⟩
  · by_cases h2 : b < a
    · have E : Hid (cmpI a b = 1) := Lib.hid (by unfold cmpI; rw [if_neg h1, if_pos h2])
      have h1' : decide (a < b) = false := decide_eq_false h1
      have h2' : decide (b < a) = true := decide_eq_true h2
      clear h1 h2
      go_enter Tryd.func78, Tryd.ntmps78
      go_wp2_with (go_at_call 118; refine (wIsNaN _ _).mono ?_; rintro e w' ⟨rfl, rfl⟩)
      go_ret
      rw [E.out]; exact ⟨rfl, rfl⟩
    · have E : Hid (cmpI a b = 0) := Lib.hid (by unfold cmpI; rw [if_neg h1, if_neg h2])
      have h1' : decide (a < b) = false := decide_eq_false h1
      have h2' : decide (b < a) = false := decide_eq_false h2
      clear h1 h2
      go_enter Tryd.func78, Tryd.ntmps78
      go_wp2_with (go_at_call 118; refine (wIsNaN _ _).mono ?_; rintro e w' ⟨rfl, rfl⟩)
      go_ret
      rw [E.out]; exact ⟨rfl, rfl⟩
def orI (c d : Int) : Int := if c = 0 then d else c
def OrRel (c d : Int) (i : Value) : Prop := i = .int .i64 0 ∨ (i = .int .i64 1 ∧ c = 0) ∨ (i = .int .i64 2 ∧ c = 0 ∧ d = 0)
theorem wOr (w : World) (g : Nat) (c d : Int) (hB : Blk w g #[.int .i64 c, .int .i64 d] 3) : Calls Tryd.prog 77 #[.slice (some ⟨g, 0, none⟩) 2 2] w fun e w' => e = .returned (.int .i64 (orI c d)) ∧ w = w' := by
  have c0 := hB.cell 0; have c1 := hB.cell 1
  simp at c0 c1
  clear hB
  go_enter Tryd.func77, Tryd.ntmps77
  go_wp2
  go_loop [8] (fun i => OrRel c d i) (fun i => 2 - (intOf i).toNat)
  case atStart => exact .inl rfl
  case round =>
    rcases hrel with rfl | ⟨rfl, hc⟩ | ⟨rfl, hc, hd⟩
    · by_cases hz : c = 0
      · have E : Hid (c = 0) := Lib.hid hz
        have z1 : (c != 0) = false := by simpa using hz
        clear hz
        go_wp2
        go_round
        case rel => exact .inr (.inl ⟨by go_num, E.out⟩)
        case measure => simp [intOf]
      · have E : Hid (orI c d = c) := Lib.hid (if_neg hz)
        have z1 : (c != 0) = true := by simpa using hz
        clear hz
        go_wp2
        go_ret
        rw [E.out]; exact ⟨rfl, rfl⟩
    · have HC := Lib.hid hc
      clear hc
      by_cases hz : d = 0
      · have E : Hid (d = 0) := Lib.hid hz
        have z1 : (d != 0) = false := by simpa using hz
        clear hz
        go_wp2
        go_round
        case rel => exact .inr (.inr ⟨by go_num, HC.out, E.out⟩)
        case measure => simp [intOf]
      · have E : Hid (orI c d = d) := Lib.hid (if_pos HC.out)
        have z1 : (d != 0) = true := by simpa using hz
        clear hz
        go_wp2
        go_ret
        rw [E.out]; exact ⟨rfl, rfl⟩
    · have E : Hid (orI c d = 0) := Lib.hid (by unfold orI; rw [if_pos hc]; exact hd)
      clear hc hd
      go_wp2
      go_ret
      rw [E.out]; exact ⟨rfl, rfl⟩
def InfC (w : World) (v : Value) (l : List NInfo) : Prop := ∃ A c, v = .slice A l.length c ∧ kInfo.C w A l.length l ∧ l.length ≤ c
theorem InfC.quiet {w w' : World} {v : Value} {l : List NInfo} (h : InfC w v l) (q : Quiet w w') : InfC w' v l := by
  obtain ⟨A, c, e, h1, h2⟩ := h; exact ⟨A, c, e, Kd.C_below h1 q.bel, h2⟩
theorem wKey (w : World) (t policy : Int) (ht : 0 ≤ t) (A : Option Addr) (c : Nat) (of : List NInfo) (hC : kInfo.C w A of.length of) (pb qb : Nat) (hp : w.cell? ⟨pb, 0, none⟩ = some (.slice A of.length c)) (hq : w.cell? ⟨qb, 0, none⟩ = some (.int .i64 policy)) :
    Calls Tryd.prog 73 #[.int .i64 t, .pointer (some ⟨pb, 0, none⟩), .pointer (some ⟨qb, 0, none⟩)] w fun e w' => e = .returned (.int .i64 (keyF policy of t)) ∧ w = w' := by
  have hm := hC.2.1
  by_cases h1 : (of.length : Int) ≤ t
  · have E : Hid (keyF policy of t = 0) := Lib.hid (if_pos h1)
    have h1' : decide ((of.length : Int) ≤ t) = true := decide_eq_true h1
    clear h1 hC
    go_enter Tryd.func73, Tryd.ntmps73
    go_wp2
    go_ret
    rw [E.out]; exact ⟨rfl, rfl⟩
  · obtain ⟨ad, hA, g1, g2⟩ : ∃ ad, A = some ad ∧ w.cell? (ad.add (t.toNat * 2)) = some (.int .i64 (of.getD t.toNat z108).f0) ∧ w.cell? ⟨(ad.add (t.toNat * 2)).block, (ad.add (t.toNat * 2)).off + 1, none⟩ = some (.int .i64 (of.getD t.toNat z108).f1) := at_T108 hC t ht (by omega)
    have E : Hid (keyF policy of t = if policy = 1 then (of.getD t.toNat z108).f0 else (of.getD t.toNat z108).f1) := Lib.hid (if_neg h1)
    generalize of.getD t.toNat z108 = x at *
    subst hA
    have h1' : decide ((of.length : Int) ≤ t) = false := decide_eq_false h1
    have h1b : t < (of.length : Int) := by omega
    by_cases h2 : policy = 1
    · have h2' : (policy == 1) = true := by simpa using h2
      rw [if_pos h2] at E
      clear h1 h2 hC
      go_enter Tryd.func73, Tryd.ntmps73
      go_wp2
      go_ret
      rw [E.out]; exact ⟨rfl, rfl⟩
    · have h2' : (policy == 1) = false := by simpa using h2
      rw [if_neg h2] at E
      clear h1 h2 hC
      go_enter Tryd.func73, Tryd.ntmps73
      go_wp2
      go_ret
      rw [E.out]; exact ⟨rfl, rfl⟩
end Go.Proofs.YtadepdeckapgcaaDoor
end

section
namespace Go.Proofs.YtadepdeckapgcaaDoor
open Go.RowKit Go.Proofs.YtadepdeckapgcaaDoorW.PrintWords Go.Proofs.YtadepdeckapgcaaDoorW.PrintLast Go.Proofs.YtadepdeckapgcaaDoorW.PrintMore PWitnessTells
set_option linter.unusedSimpArgs false
set_option linter.unusedVariables false
section
variable {P : Program} {ops : Array Oper} {Q : Exit → Act → World → Prop}
theorem goesV_ {oi : Oper} {N : Option Tmp} {a : Act} {w : World} {K : Act → World → Prop} {f : FuncId} {fn : Func} {s : Operand} {caps : Array Value} {os : Array Operand} {ts : Array TypeId} (hf : P.funcs[f]? = some fn) (hname : (fn.name == "runtime.NumGoroutine") = false) (hb : fn.body.isSome = true) (args : Array Value)
    (hw : Region.wanted oi (yielded ops a.tmps) = true) (hN : oi.dst = N) (hop : oi.op = .call { callee := .value s, args := os, argTypes := ts }) (hs : a.eval s = .func (.func f) #[] caps) (hargs : os.map a.eval ++ caps = args)
    (h : Calls P f args w fun e w' => ∃ v, e = .returned v ∧ K (a.put N v) w') : if Region.wanted oi (yielded ops a.tmps) = true then Oper.wp P oi a w K Q else K (a.put N undef) w := by
  refine call_ f args hw hN ?_ h
  have he := enters_ hf hname hb args w
  subst hargs
  unfold execOp
  simp [hop, resolve, Deferred.ofValue, invoke, hs, he]
end
def cfV (policy : Int) (of : List NInfo) (a b : Int) : Int := orI (cmpI (keyF policy of a) (keyF policy of b)) (b - a)
set_option maxRecDepth 100000 in
set_option maxHeartbeats 1000000 in
theorem wCmp (w : World) (a b policy : Int) (ha : 0 ≤ a ∧ a ≤ 63) (hb : 0 ≤ b ∧ b ≤ 63) (A : Option Addr) (c : Nat) (of : List NInfo) (hC : kInfo.C w A of.length of) (pb qb kb : Nat) (hp : w.cell? ⟨pb, 0, none⟩ = some (.slice A of.length c)) (hq : w.cell? ⟨qb, 0, none⟩ = some (.int .i64 policy))
    (hk : w.cell? ⟨kb, 0, none⟩ = some (.func (.func 73) #[] #[.pointer (some ⟨pb, 0, none⟩), .pointer (some ⟨qb, 0, none⟩)])) :
    Calls Tryd.prog 76 #[.int .i64 a, .int .i64 b, .pointer (some ⟨kb, 0, none⟩)] w fun e w' => e = .returned (.int .i64 (cfV policy of a b)) ∧ ∃ o, w' = w.drew.alloc o := by
  have HK : Hid (∀ t, 0 ≤ t ∧ t ≤ 63 → Calls Tryd.prog 73 #[.int .i64 t, .pointer (some ⟨pb, 0, none⟩), .pointer (some ⟨qb, 0, none⟩)] w.drew fun e w' => e = .returned (.int .i64 (keyF policy of t)) ∧ w.drew = w') :=
    Lib.hid (fun t ht => wKey w.drew t policy ht.1 A c of (Kd.C_below hC (Quiet.bel (Fr.drew (Fr.refl _ w)))) pb qb hp hq)
  have HJ : Hid (w.drew.cell? ⟨kb, 0, none⟩ = some (.func (.func 73) #[] #[.pointer (some ⟨pb, 0, none⟩), .pointer (some ⟨qb, 0, none⟩)])) := Lib.hid hk
  have HJ2 : Hid ((w.drew.alloc (.cells #[.int .i64 (cmpI (keyF policy of a) (keyF policy of b)), .int .i64 (b - a)] 3)).cell? ⟨kb, 0, none⟩ = some (.func (.func 73) #[] #[.pointer (some ⟨pb, 0, none⟩), .pointer (some ⟨qb, 0, none⟩)])) := Lib.hid (Quiet.cellA (show Quiet w (w.drew.alloc _) from (Fr.drew (Fr.refl _ w)).alloc _) hk)
  have HB : Hid (Blk (w.drew.alloc (.cells #[.int .i64 (cmpI (keyF policy of a) (keyF policy of b)), .int .i64 (b - a)] 3)) w.drew.heap.size #[.int .i64 (cmpI (keyF policy of a) (keyF policy of b)), .int .i64 (b - a)] 3) := Lib.hid (Blk.new _ _ _)
  have hwr : IntKind.i64.wrap (b - a) = b - a := by rw [IntKind.wrap_i64]; omega
  clear hC hp hq hk
  go_enter Tryd.func76, Tryd.ntmps76
  go_wp2_with fail
  refine start_ (n := 13) (S := fun w' => w'.cell? ⟨kb, 0, none⟩ = some (.func (.func 73) #[] #[.pointer (some ⟨pb, 0, none⟩), .pointer (some ⟨qb, 0, none⟩)])) (ds := []) #[false, false, false, false, false, false, false, false, false, false, false, false, false] (by kernel_rfl) rfl rfl (HJ.out) (fun hHeld => ?_)
  generalize hwA : w.drew = wA at HJ HK HJ2 HB hHeld ⊢
  have HE := Lib.hid hwA
  clear hwA
  refine pure_ (i := 1) (N := some 7) (v := ?_) (a' := ?_) #[false, true, false, false, false, false, false, false, false, false, false, false, false] rfl rfl (by kernel_rfl) (fun _ _ _ h => h) (Or.inl ⟨by rfl, ?_⟩) ?_ ?_
  rotate_left
  · intro w'
    go_simp
    with_reducible rfl
  rotate_left
  · simp only [Act.put, List.setIfInBounds_toArray, List.set_cons_zero, List.set_cons_succ, i64_w, i32_w]
    rfl
  refine pure_ (i := 4) (N := some 10) (v := ?_) (a' := ?_) #[false, true, false, false, true, false, false, false, false, false, false, false, false] rfl rfl (by kernel_rfl) (fun _ _ _ h => h) (Or.inl ⟨by rfl, ?_⟩) ?_ ?_
  rotate_left
  · intro w'
    go_simp
    with_reducible rfl
  rotate_left
  · simp only [Act.put, List.setIfInBounds_toArray, List.set_cons_zero, List.set_cons_succ, i64_w, i32_w]
    rfl
  refine pure_ (i := 7) (N := some 13) (v := ?_) (a' := ?_) #[false, true, false, false, true, false, false, true, false, false, false, false, false] rfl rfl (by kernel_rfl) (fun _ _ _ h => h) (Or.inl ⟨by rfl, ?_⟩) ?_ ?_
  rotate_left
  · intro w'
    go_simp
    with_reducible rfl
  rotate_left
  · simp only [Act.put, List.setIfInBounds_toArray, List.set_cons_zero, List.set_cons_succ, i64_w, i32_w]
    rfl
  refine pure_ (i := 8) (N := some 14) (v := ?_) (a' := ?_) #[false, true, false, false, true, false, false, true, true, false, false, false, false] rfl rfl (by kernel_rfl) (fun _ _ _ h => h) (Or.inl ⟨by rfl, ?_⟩) ?_ ?_
  rotate_left
  · intro w'
    go_simp
    with_reducible rfl
  rotate_left
  · simp only [Act.put, List.setIfInBounds_toArray, List.set_cons_zero, List.set_cons_succ, i64_w, i32_w]
    rfl
  refine pure_ (i := 9) (N := some 15) (v := ?_) (a' := ?_) #[false, true, false, false, true, false, false, true, true, true, false, false, false] rfl rfl (by kernel_rfl) (fun _ _ _ h => h) (Or.inl ⟨by rfl, ?_⟩) ?_ ?_
  rotate_left
  · intro w'
    go_simp
    with_reducible rfl
  rotate_left
  · simp only [Act.put, List.setIfInBounds_toArray, List.set_cons_zero, List.set_cons_succ, i64_w, i32_w]
    rfl
  refine take_ (i := 0) (N := some 6) (v := ?_) (a' := ?_) #[true, true, false, false, true, false, false, true, true, true, false, false, false] rfl rfl (by kernel_rfl) (fun _ _ _ h => h) (Or.inl ⟨by rfl, ?_⟩) hHeld ?_ ?_
  rotate_left
  · intro w' s0
    go_simp
    with_reducible rfl
  rotate_left
  · simp only [Act.put, List.setIfInBounds_toArray, List.set_cons_zero, List.set_cons_succ, i64_w, i32_w]
    rfl
  refine take_ (i := 3) (N := some 9) (v := ?_) (a' := ?_) #[true, true, false, true, true, false, false, true, true, true, false, false, false] rfl rfl (by kernel_rfl) (fun _ _ _ h => h) (Or.inl ⟨by rfl, ?_⟩) hHeld ?_ ?_
  rotate_left
  · intro w' s0
    go_simp
    with_reducible rfl
  rotate_left
  · simp only [Act.put, List.setIfInBounds_toArray, List.set_cons_zero, List.set_cons_succ, i64_w, i32_w]
    rfl
  refine one_ (i := 2) (N := some 8) #[true, true, true, true, true, false, false, true, true, true, false, false, false] rfl rfl (by kernel_rfl) (by decide) (fun K hK => ?_)
  refine goesV_ Tryd.func73 (by kernel_rfl) rfl #[.int .i64 a, .pointer (some ⟨pb, 0, none⟩), .pointer (some ⟨qb, 0, none⟩)] (by rfl) rfl rfl (by rfl) (by simp only [List.map_toArray, List.map_cons, List.map_nil, List.append_toArray, List.cons_append, List.nil_append]; rfl) ?_
  with_reducible refine (HK.out a ha).mono ?_
  rintro e w' ⟨rfl, rfl⟩
  refine ⟨_, rfl, ?_⟩
  refine hK.out _ _ (HJ.out) (fun hHeld => ?_)
  clear hK K
  refine norm_ (a' := ?_) ?_ ?_
  rotate_left
  · show Act.put _ (some 8) _ = _
    simp only [Act.put, List.setIfInBounds_toArray, List.set_cons_zero, List.set_cons_succ, i64_w, i32_w]
    rfl
  refine one_ (i := 5) (N := some 11) #[true, true, true, true, true, true, false, true, true, true, false, false, false] rfl rfl (by kernel_rfl) (by decide) (fun K hK => ?_)
  refine goesV_ Tryd.func73 (by kernel_rfl) rfl #[.int .i64 b, .pointer (some ⟨pb, 0, none⟩), .pointer (some ⟨qb, 0, none⟩)] (by rfl) rfl rfl (by rfl) (by simp only [List.map_toArray, List.map_cons, List.map_nil, List.append_toArray, List.cons_append, List.nil_append]; rfl) ?_
  with_reducible refine (HK.out b hb).mono ?_
  rintro e w' ⟨rfl, rfl⟩
  refine ⟨_, rfl, ?_⟩
  refine hK.out _ _ (HJ.out) (fun hHeld => ?_)
  clear hK K
  refine norm_ (a' := ?_) ?_ ?_
  rotate_left
  · show Act.put _ (some 11) _ = _
    simp only [Act.put, List.setIfInBounds_toArray, List.set_cons_zero, List.set_cons_succ, i64_w, i32_w]
    rfl
  refine one_ (i := 6) (N := some 12) #[true, true, true, true, true, true, true, true, true, true, false, false, false] rfl rfl (by kernel_rfl) (by decide) (fun K hK => ?_)
  refine goes_ Tryd.func78 (by kernel_rfl) rfl #[.int .i64 (keyF policy of a), .int .i64 (keyF policy of b)] (by rfl) rfl rfl (by simp only [List.map_toArray, List.map_cons, List.map_nil]; rfl) ?_
  with_reducible refine (wCompare _ _ _).mono ?_
  rintro e w' ⟨rfl, rfl⟩
  refine ⟨_, rfl, ?_⟩
  refine hK.out _ _ (HJ.out) (fun hHeld => ?_)
  clear hK K
  refine norm_ (a' := ?_) ?_ ?_
  rotate_left
  · show Act.put _ (some 12) _ = _
    simp only [Act.put, List.setIfInBounds_toArray, List.set_cons_zero, List.set_cons_succ, i64_w, i32_w]
    rfl
  refine one_ (i := 10) (N := some 16) #[true, true, true, true, true, true, true, true, true, true, true, false, false] rfl rfl (by kernel_rfl) (by decide) (fun K hK => ?_)
  refine value_ (w1 := ?_) (v := ?_) (by rfl) rfl ?_ ?_
  rotate_left 2
  · go_simp
    constructor
    · rfl
    · rfl
  have HJ := HJ2
  refine hK.out _ _ (HJ2.out) (fun hHeld => ?_)
  clear hK K
  refine norm_ (a' := ?_) ?_ ?_
  rotate_left
  · show Act.put _ (some 16) _ = _
    simp only [Act.put, List.setIfInBounds_toArray, List.set_cons_zero, List.set_cons_succ, i64_w, i32_w]
    rfl
  refine one_ (i := 11) (N := some 17) #[true, true, true, true, true, true, true, true, true, true, true, true, false] rfl rfl (by kernel_rfl) (by decide) (fun K hK => ?_)
  refine goes_ Tryd.func77 (by kernel_rfl) rfl #[.slice (some ⟨wA.heap.size, 0, none⟩) 2 2] (by rfl) rfl rfl (by simp only [List.map_toArray, List.map_cons, List.map_nil]; rfl) ?_
  with_reducible refine (wOr _ _ _ _ HB.out).mono ?_
  rintro e w' ⟨rfl, rfl⟩
  refine ⟨_, rfl, ?_⟩
  refine hK.out _ _ (HJ2.out) (fun hHeld => ?_)
  clear hK K
  refine norm_ (a' := ?_) ?_ ?_
  rotate_left
  · show Act.put _ (some 17) _ = _
    simp only [Act.put, List.setIfInBounds_toArray, List.set_cons_zero, List.set_cons_succ, i64_w, i32_w]
    rfl
  refine pure_ (i := 12) (N := some 5) (v := ?_) (a' := ?_) #[true, true, true, true, true, true, true, true, true, true, true, true, true] rfl rfl (by kernel_rfl) (fun _ _ _ h => h) (Or.inl ⟨by rfl, ?_⟩) ?_ ?_
  rotate_left
  · intro w'
    go_simp
    with_reducible rfl
  rotate_left
  · simp only [Act.put, List.setIfInBounds_toArray, List.set_cons_zero, List.set_cons_succ, i64_w, i32_w]
    rfl
  refine done_ (by kernel_rfl) ?_
  go_wp2
  go_ret
  exact ⟨rfl, _, by rw [HE.out]⟩
end Go.Proofs.YtadepdeckapgcaaDoor
end

section
namespace Go.Proofs
open Go.Shelf
def Tryd.lays112_ren : Go.Shelf.Ren := ⟨fun | 112 => 74 | n => n, fun | 28 => 22 | 3 => 3 | 4 => 4 | 0 => 0 | n => n, fun | n => n⟩
theorem Tryd.lays112 : Go.Proofs.Lays.n112 Tryd.prog Tryd.lays112_ren := {
  mixed := by kernel_rfl
  f112 := Tryd.func74.trans (congrArg some (by kernel_rfl))
  t0 := Tryd.underlying0
  a0 := Tryd.isAgg0
  z0 := Tryd.sizeOf0
  v0 := Tryd.zeroValue0
  t3 := Tryd.underlying3
  a3 := Tryd.isAgg3
  z3 := Tryd.sizeOf3
  v3 := Tryd.zeroValue3
  t4 := Tryd.underlying4
  a4 := Tryd.isAgg4
  z4 := Tryd.sizeOf4
  v4 := Tryd.zeroValue4
  t28 := Tryd.underlying22
  a28 := Tryd.isAgg22
  z28 := Tryd.sizeOf22
  v28 := Tryd.zeroValue22 }
open Go.RowKit Go.Lib Go.Sort in
theorem Tryd.slices_Reverse_int (blk off cap : Nat) (zs : List Int) (w : World) (hH : Holds (Value.int .i64) w blk off zs.toArray) (hsz : zs.length ≤ 9223372036854775807) :
    Calls Tryd.prog 74 #[.slice (some ⟨blk, off, none⟩) zs.length cap] w fun e w' => e = .returned (.tuple #[]) ∧ ∃ n, w' = putRow (Value.int .i64) (Sort.ahead w n) blk off zs.reverse.toArray := Any.slices_Reverse_int Tryd.lays112 blk off cap zs w hH hsz
open Go.RowKit Go.Lib Go.Sort in
theorem Tryd.slices_Reverse_int_empty (a : Option Addr) (cap : Nat) (w : World) :
    Calls Tryd.prog 74 #[.slice a 0 cap] w fun e w' => e = .returned (.tuple #[]) ∧ w' = w := Any.slices_Reverse_int_empty Tryd.lays112 a cap w
def Tryd.sortL_ren : Go.Shelf.Ren := ⟨fun | 6 => 75 | 15 => 117 | 14 => 116 | 28 => 154 | 29 => 155 | 20 => 146 | 21 => 147 | 22 => 148 | 23 => 149 | 24 => 150 | 25 => 151 | 26 => 152 | 27 => 153 | 46 => 171 | 47 => 172 | 48 => 173 | 49 => 174 | 50 => 175 | 57 => 192 | n => n, fun | 22 => 22 | 24 => 3 | 25 => 119 | 3 => 3 | 39 => 146 | 0 => 0 | 53 => 190 | 55 => 41 | 4 => 4 | 46 => 184 | 45 => 183 | 50 => 97 | 5 => 5 | 9 => 9 | 66 => 204 | 70 => 208 | 76 => 224 | 77 => 225 | n => n, fun | n => n⟩
theorem Tryd.sortL : Go.Proofs.SlLaysF.n6 Tryd.prog Tryd.sortL_ren := {
  mixed := by kernel_rfl
  f6 := ⟨Tryd.f75.name, by decide, Tryd.func75.trans (congrArg some (by kernel_rfl))⟩
  f14 := ⟨Tryd.f116.name, by decide, Tryd.func116.trans (congrArg some (by kernel_rfl))⟩
  f15 := Tryd.func117.trans (congrArg some (by kernel_rfl))
  f20 := ⟨Tryd.f146.name, by decide, Tryd.func146.trans (congrArg some (by kernel_rfl))⟩
  f21 := ⟨Tryd.f147.name, by decide, Tryd.func147.trans (congrArg some (by kernel_rfl))⟩
  f22 := ⟨Tryd.f148.name, by decide, Tryd.func148.trans (congrArg some (by kernel_rfl))⟩
  f23 := ⟨Tryd.f149.name, by decide, Tryd.func149.trans (congrArg some (by kernel_rfl))⟩
  f24 := ⟨Tryd.f150.name, by decide, Tryd.func150.trans (congrArg some (by kernel_rfl))⟩
  f25 := ⟨Tryd.f151.name, by decide, Tryd.func151.trans (congrArg some (by kernel_rfl))⟩
  f26 := ⟨Tryd.f152.name, by decide, Tryd.func152.trans (congrArg some (by kernel_rfl))⟩
  f27 := ⟨Tryd.f153.name, by decide, Tryd.func153.trans (congrArg some (by kernel_rfl))⟩
  f28 := Tryd.func154.trans (congrArg some (by kernel_rfl))
  f29 := Tryd.func155.trans (congrArg some (by kernel_rfl))
  f46 := ⟨Tryd.f171.name, by decide, Tryd.func171.trans (congrArg some (by kernel_rfl))⟩
  f47 := Tryd.func172.trans (congrArg some (by kernel_rfl))
  f48 := Tryd.func173.trans (congrArg some (by kernel_rfl))
  f49 := ⟨Tryd.f174.name, by decide, Tryd.func174.trans (congrArg some (by kernel_rfl))⟩
  f50 := ⟨Tryd.f175.name, by decide, Tryd.func175.trans (congrArg some (by kernel_rfl))⟩
  f57 := ⟨Tryd.f192.name, by decide, Tryd.func192.trans (congrArg some (by kernel_rfl))⟩
  t0 := Tryd.underlying0
  a0 := Tryd.isAgg0
  z0 := Tryd.sizeOf0
  v0 := Tryd.zeroValue0
  t3 := Tryd.underlying3
  a3 := Tryd.isAgg3
  z3 := Tryd.sizeOf3
  v3 := Tryd.zeroValue3
  t4 := Tryd.underlying4
  a4 := Tryd.isAgg4
  z4 := Tryd.sizeOf4
  v4 := Tryd.zeroValue4
  t5 := Tryd.underlying5
  a5 := Tryd.isAgg5
  z5 := Tryd.sizeOf5
  v5 := Tryd.zeroValue5
  t9 := Tryd.underlying9
  a9 := Tryd.isAgg9
  z9 := Tryd.sizeOf9
  v9 := Tryd.zeroValue9
  t22 := Tryd.underlying22
  a22 := Tryd.isAgg22
  z22 := Tryd.sizeOf22
  v22 := Tryd.zeroValue22
  a24 := Tryd.isAgg3
  z24 := Tryd.sizeOf3
  t25 := Tryd.underlying119
  a25 := Tryd.isAgg119
  z25 := Tryd.sizeOf119
  v25 := Tryd.zeroValue119
  t39 := Tryd.underlying146
  a39 := Tryd.isAgg146
  z39 := Tryd.sizeOf146
  v39 := Tryd.zeroValue146
  t45 := Tryd.underlying183
  a45 := Tryd.isAgg183
  z45 := Tryd.sizeOf183
  v45 := Tryd.zeroValue183
  t46 := Tryd.underlying184
  a46 := Tryd.isAgg184
  z46 := Tryd.sizeOf184
  v46 := Tryd.zeroValue184
  t50 := Tryd.underlying97
  a50 := Tryd.isAgg97
  z50 := Tryd.sizeOf97
  v50 := Tryd.zeroValue97
  t53 := Tryd.underlying190
  a53 := Tryd.isAgg190
  z53 := Tryd.sizeOf190
  v53 := Tryd.zeroValue190
  t55 := Tryd.underlying41
  a55 := Tryd.isAgg41
  z55 := Tryd.sizeOf41
  v55 := Tryd.zeroValue41
  t66 := Tryd.underlying204
  a66 := Tryd.isAgg204
  z66 := Tryd.sizeOf204
  v66 := Tryd.zeroValue204
  t70 := Tryd.underlying208
  a70 := Tryd.isAgg208
  z70 := Tryd.sizeOf208
  v70 := Tryd.zeroValue208
  t76 := Tryd.underlying224
  a76 := Tryd.isAgg224
  z76 := Tryd.sizeOf224
  v76 := Tryd.zeroValue224
  t77 := Tryd.underlying225
  a77 := Tryd.isAgg225
  z77 := Tryd.sizeOf225
  v77 := Tryd.zeroValue225 }
end Go.Proofs
end

section
namespace Go.Proofs.YtadepdeckapgcaaDoor
open Go.RowKit Go.Proofs.YtadepdeckapgcaaDoorW.PrintWords Go.Proofs.YtadepdeckapgcaaDoorW.PrintLast Go.Proofs.YtadepdeckapgcaaDoorW.PrintMore PWitnessTells
set_option linter.unusedSimpArgs false
set_option linter.unusedVariables false
def enc64 (x : Fin 64) : Value := .int .i64 (x.val : Int)
def val64 (x : Fin 64) : Int := (x.val : Int)
theorem enc64_eq (l : List (Fin 64)) : l.map enc64 = nums .i64 (l.map val64) := by simp [nums, enc64, val64, Function.comp_def]
def lbF : Nat → Nat → Nat → List (Fin 64)
  | 0, _, _ => []
  | f + 1, i, s => if s % 2 = 1 then (if h : i < 64 then ⟨i, h⟩ :: lbF f (i + 1) (s / 2) else lbF f (i + 1) (s / 2)) else lbF f (i + 1) (s / 2)
def listF (s : Nat) : List (Fin 64) := lbF 64 0 s
theorem lbF_map : ∀ (f i s : Nat), i + f ≤ 64 → (lbF f i s).map val64 = lb f i s
  | 0, _, _, _ => rfl
  | f + 1, i, s, h => by
    have ih := lbF_map f (i + 1) (s / 2) (by omega)
    rw [lb_succ, lbF]
    split
    · rw [dif_pos (by omega : i < 64), List.map_cons, ih]; rfl
    · exact ih
theorem listF_map (s : Nat) : (listF s).map val64 = listB s := lbF_map 64 0 s (by omega)
def cfF (policy : Int) (of : List NInfo) (x y : Fin 64) : Int := cfV policy of (val64 x) (val64 y)
def ltK (policy : Int) (of : List NInfo) (x y : Fin 64) : Prop := keyF policy of (val64 x) < keyF policy of (val64 y) ∨ (keyF policy of (val64 x) = keyF policy of (val64 y) ∧ val64 y < val64 x)
theorem cf_lt (policy : Int) (of : List NInfo) (x y : Fin 64) : Go.Proofs.ltOf (cfF policy of) x y = true ↔ ltK policy of x y := by
  unfold Go.Proofs.ltOf cfF cfV orI cmpI ltK
  rw [decide_eq_true_eq]
  generalize keyF policy of (val64 x) = a
  generalize keyF policy of (val64 y) = b
  generalize val64 x = u
  generalize val64 y = v
  split <;> (try split) <;> (try split) <;> omega
theorem cf_swo (policy : Int) (of : List NInfo) : Go.Sort.SWO (Go.Proofs.ltOf (cfF policy of)) where
  irrefl x := by
    rw [Bool.eq_false_iff]; intro h
    have := (cf_lt policy of x x).1 h
    unfold ltK at this; omega
  trans x y z h1 h2 := by
    rw [cf_lt] at *; unfold ltK at *; omega
  ntrans x y z h1 h2 := by
    rw [Bool.eq_false_iff] at *
    intro h
    have h1' : ¬ ltK policy of x y := fun q => h1 ((cf_lt policy of x y).2 q)
    have h2' : ¬ ltK policy of y z := fun q => h2 ((cf_lt policy of y z).2 q)
    have h3 := (cf_lt policy of x z).1 h
    unfold ltK at *; omega
theorem cf_tot (policy : Int) (of : List NInfo) (x y : Fin 64) (h1 : Go.Proofs.ltOf (cfF policy of) x y = false) (h2 : Go.Proofs.ltOf (cfF policy of) y x = false) : x = y := by
  rw [Bool.eq_false_iff] at h1 h2
  have h1' : ¬ ltK policy of x y := fun q => h1 ((cf_lt policy of x y).2 q)
  have h2' : ¬ ltK policy of y x := fun q => h2 ((cf_lt policy of y x).2 q)
  unfold ltK at *
  apply Fin.ext
  unfold val64 at *
  omega
def sortF (policy : Int) (of : List NInfo) (s : Nat) : List (Fin 64) := (listF s).mergeSort fun x y => !(Go.Proofs.ltOf (cfF policy of)) y x
theorem sw_grown {α : Type} [Inhabited α] (enc : α → Value) {w : World} {g n : Nat} {os : Array Obj} (d : Array α) : w.grownBy (Go.Proofs.sortWorld enc w g 0 n d os) (some g) := by
  refine ⟨rfl, rfl, rfl, by simp [Go.Proofs.sortWorld], fun k hk hne => ?_⟩
  unfold Go.Proofs.sortWorld
  rw [Go.Sort.heap_grow_old _ _ (by simpa using hk)]
  have : g ≠ k := fun e => hne (by rw [e])
  simp [Go.Sort.putRow, Go.Sort.mapBlock, Go.Sort.ahead, Array.getElem?_modify, this]
theorem sw_owns {α : Type} [Inhabited α] (enc : α → Value) {w : World} {base g n cap q : Nat} {e : TypeId} {zs ys : List α} {os : Array Obj} (h : w.ownsRow base e 1 (.slice (some ⟨g, 0, none⟩) n cap) n (zs.map enc)) (hy : ys.length = n) :
    (Go.Proofs.sortWorld enc w g 0 q ys.toArray os).ownsRow base e 1 (.slice (some ⟨g, 0, none⟩) n cap) n (ys.map enc) := by
  have h1 := Lib.ownsRow_putRow (q := q) h hy (Nat.le_refl n)
  rw [List.take_of_length_le (by omega)] at h1
  unfold Go.Proofs.sortWorld
  refine own_move h1 (fun k hk => ?_)
  have hk' : g = k := by simpa [Value.ownBlock] using hk
  subst hk'
  refine Go.Sort.heap_grow_old _ _ ?_
  obtain ⟨cells, hc⟩ := own_typed h1 g (by simp [Value.ownBlock])
  exact (Array.getElem?_eq_some_iff.1 hc).1
theorem listF_len (s : Nat) : (listF s).length ≤ 64 := by
  have := listB_len s
  rw [← listF_map, List.length_map] at this
  exact this
theorem sortF_len (policy : Int) (of : List NInfo) (s : Nat) : (sortF policy of s).length = (listF s).length := List.length_mergeSort _
def keyV (pb qb : Nat) : Value := .func (.func 73) #[] #[.pointer (some ⟨pb, 0, none⟩), .pointer (some ⟨qb, 0, none⟩)]
structure Boxes (W : World) (pb qb kb : Nat) (A : Option Addr) (n c : Nat) (policy : Int) : Prop where
  p : Blk W pb #[.slice A n c] 49
  q : Blk W qb #[.int .i64 policy] 3
  k : Blk W kb #[keyV pb qb] 60
theorem wSort (w0 W : World) (base : Nat) (policy : Int) (A : Option Addr) (c : Nat) (of : List NInfo) (s : Nat) (hC : kInfo.C w0 A of.length of) (hb : Below w0.heap.size w0 W) (hbase : w0.heap.size ≤ base) (g cap : Nat)
    (hO : W.ownsRow base 3 1 (.slice (some ⟨g, 0, none⟩) (listF s).length cap) (listF s).length ((listF s).map enc64)) (pb qb kb : Nat) (hX : Boxes W pb qb kb A of.length c policy) (hgq : qb < base) :
    Calls Tryd.prog 75 #[.slice (some ⟨g, 0, none⟩) (listF s).length cap, .func (.func 76) #[] #[.pointer (some ⟨kb, 0, none⟩)]] W fun e w' =>
      e = .returned (.tuple #[]) ∧ w'.ownsRow base 3 1 (.slice (some ⟨g, 0, none⟩) (listF s).length cap) (listF s).length ((sortF policy of s).map enc64) ∧ W.grownBy w' (some g) := by
  obtain ⟨g', cap', e0, hg, hgs, _, _, _, hH⟩ := Lib.holds_of_ownsRow hO (by simp)
  injection e0 with e1 _ _
  injection e1 with e1
  injection e1 with e1 _ _
  subst e1
  have eg : ∀ args w, (callFunc 76 args).run Tryd.prog w = .ok (.enter 76 args) w := fun args w => enters_ Tryd.func76 (by kernel_rfl) rfl args w
  have hcmp : CmpLays1 Tryd.prog 76 #[.pointer (some ⟨kb, 0, none⟩)] enc64 (cfF policy of) g 0 (listF s).toArray.size W := by
    intro m os dk hs x y
    have hgr := sw_grown enc64 (w := W) (g := g) (n := m) (os := os) dk
    have hb2 := hb.grown hgr hb.size (fun k hk => by injection hk with hk; omega)
    have p2 := grown_blk hgr hX.p (by intro q; injection q with q; have := own_not_blk hX.p hO (by decide); exact this (by simp [Value.ownBlock, q]))
    have q2 := grown_blk hgr hX.q (by intro q; injection q with q; omega)
    have k2 := grown_blk hgr hX.k (by intro q; injection q with q; have := own_not_blk hX.k hO (by decide); exact this (by simp [Value.ownBlock, q]))
    have hx := x.isLt; have hy := y.isLt
    refine (wCmp _ (val64 x) (val64 y) policy (by unfold val64; omega) (by unfold val64; omega) A c of (Kd.C_below hC hb2) pb qb kb (by simpa using p2.cell 0) (by simpa using q2.cell 0) (by simpa [keyV] using k2.cell 0)).mono ?_
    rintro e w' ⟨rfl, o, rfl⟩
    exact ⟨rfl, 1, #[o], by rw [Go.Sort.alloc_eq_grow]; rfl⟩
  have hS := Any.slices_SortFunc_total Tryd.sortL enc64 (fun _ => rfl) (cfF policy of) (cf_swo policy of) 76 #[.pointer (some ⟨kb, 0, none⟩)] g 0 cap (listF s).toArray W eg hcmp hH hgs (by have := listF_len s; simp; omega) (cf_tot policy of)
  change Calls Tryd.prog 75 _ _ _ at hS
  refine hS.mono fun e w' ⟨he, n, os, hw⟩ => ?_
  subst hw
  exact ⟨he, sw_owns enc64 hO (sortF_len policy of s), sw_grown _ _⟩
def RowTo (W : World) (base : Nat) (v : Value) (l : List Int) (w' : World) : Prop := w'.ownsRow base 3 1 v l.length (nums .i64 l) ∧ W.grownBy w' v.ownBlock
theorem cSortV (w0 W : World) (base : Nat) (policy : Int) (A : Option Addr) (c : Nat) (of : List NInfo) (s : Nat) (hC : kInfo.C w0 A of.length of) (hb : Below w0.heap.size w0 W) (hbase : w0.heap.size ≤ base) (v : Value)
    (hO : W.ownsRow base 3 1 v (listB s).length (nums .i64 (listB s))) (pb qb kb : Nat) (hX : Boxes W pb qb kb A of.length c policy) (hgq : qb < base) :
    Calls Tryd.prog 75 #[v, .func (.func 76) #[] #[.pointer (some ⟨kb, 0, none⟩)]] W fun e w' => e = .returned (.tuple #[]) ∧ RowTo W base v ((sortF policy of s).map val64) w' := by
  have hl : ((sortF policy of s).map val64).length = (listF s).length := by rw [List.length_map, sortF_len]
  have hl2 : (listB s).length = (listF s).length := by rw [← listF_map, List.length_map]
  have hO' := hO
  rcases hO'.2 with ⟨e, hn⟩ | ⟨g, cap, cur, e, _⟩
  · subst e
    have h0 : (listF s).length = 0 := by rw [← hl2]; exact hn
    have hS := AnyF.slices_SortFunc_none { Tryd.sortL with } none 0 (.func (.func 76) #[] #[.pointer (some ⟨kb, 0, none⟩)]) W
    change Calls Tryd.prog 75 _ _ _ at hS
    refine hS.mono fun e w' ⟨he, hw⟩ => ?_
    subst hw
    refine ⟨he, ?_, World.grownBy.refl _ _⟩
    have e2 : (sortF policy of s).map val64 = [] := List.length_eq_zero_iff.1 (by rw [hl, h0])
    have e3 : listB s = [] := List.length_eq_zero_iff.1 (by rw [hl2, h0])
    rw [e2]
    rw [e3] at hO
    exact hO
  · subst e
    rw [hl2, ← listF_map, ← enc64_eq] at hO
    rw [hl2]
    refine (wSort w0 W base policy A c of s hC hb hbase g cap hO pb qb kb hX hgq).mono fun e w' ⟨he, ho, hg⟩ => ⟨he, ?_, hg⟩
    rw [hl, ← enc64_eq]
    exact ho
theorem cRevV (W : World) (base : Nat) (l : List Int) (hlm : l.length ≤ 1000000) (v : Value) (hO : W.ownsRow base 3 1 v l.length (nums .i64 l)) :
    Calls Tryd.prog 74 #[v] W fun e w' => e = .returned (.tuple #[]) ∧ RowTo W base v l.reverse w' := by
  have hO' := hO
  rcases hO'.2 with ⟨e, hn⟩ | ⟨g, cap, cur, e, _⟩
  · subst e
    have h0 : l = [] := List.length_eq_zero_iff.1 hn
    subst h0
    refine (Tryd.slices_Reverse_int_empty none 0 W).mono fun e w' ⟨he, hw⟩ => ?_
    subst hw
    exact ⟨he, hO, World.grownBy.refl _ _⟩
  · subst e
    obtain ⟨g', cap', e0, _, hgs, _, _, _, hH⟩ := Lib.holds_of_ownsRow (enc := Value.int .i64) hO (by simp)
    injection e0 with e1 _ _
    injection e1 with e1
    injection e1 with e1 _ _
    subst e1
    refine (Tryd.slices_Reverse_int g 0 cap l W hH (by omega)).mono fun e w' ⟨he, n, hw⟩ => ?_
    have hw2 : w' = Go.Proofs.sortWorld (Value.int .i64) W g 0 n l.reverse.toArray #[] := by rw [hw]; unfold Go.Proofs.sortWorld; rw [Go.Sort.grow_empty]
    subst hw2
    refine ⟨he, ?_, sw_grown _ _⟩
    have q := sw_owns (Value.int .i64) (q := n) (os := #[]) (ys := l.reverse) hO (by simp)
    rw [List.length_reverse]
    exact q
def rankF (policy : Int) (of : List NInfo) (s : Nat) : List Int :=
  if policy = 3 then listB s else if policy = 0 then (listB s).reverse else if policy = 1 ∨ policy = 2 then (sortF policy of s).map val64 else []
end Go.Proofs.YtadepdeckapgcaaDoor
end

section
namespace Go.Proofs.YtadepdeckapgcaaDoor
open Go.RowKit Go.Proofs.YtadepdeckapgcaaDoorW.PrintWords Go.Proofs.YtadepdeckapgcaaDoorW.PrintLast Go.Proofs.YtadepdeckapgcaaDoorW.PrintMore PWitnessTells
set_option linter.unusedSimpArgs false
set_option linter.unusedVariables false
set_option maxRecDepth 100000 in
set_option maxHeartbeats 2000000 in
theorem wRank (w : World) (hT : Tb w) (policy : Int) (s : Nat) (hs : s < B64) (A : Option Addr) (c : Nat) (of : List NInfo) (hC : kInfo.C w A of.length of) :
    Calls Tryd.prog 31 #[.int .i64 policy, .int .u64 s, .slice A of.length c] w fun e w' => ∃ v, e = .returned v ∧ IntsC w' v (rankF policy of s) ∧ Quiet w w' := by
  have HT := Lib.hid hT; have HC := Lib.hid hC
  clear hT hC
  have HQ0 : Hid (Quiet w ((w.alloc (.cells #[.int .i64 policy] 3)).alloc (.cells #[.slice A of.length c] 49))) := Lib.hid (by (repeat (first | exact Fr.refl _ _ | assumption | (refine Fr.quiet ?_ (by assumption)) | refine Fr.quiet ?_ HF.out | refine Fr.quiet ?_ HF2.out | refine Fr.drew ?_ | refine Fr.drewN ?_ _ | refine Fr.alloc ?_ _ | refine Fr.setCell ?_ (.inr (by first | omega | (simp; done) | (simp; omega))) _)))
  have HX0 : Hid (Blk ((w.alloc (.cells #[.int .i64 policy] 3)).alloc (.cells #[.slice A of.length c] 49)) w.heap.size #[.int .i64 policy] 3 ∧ Blk ((w.alloc (.cells #[.int .i64 policy] 3)).alloc (.cells #[.slice A of.length c] 49)) (w.heap.size + 1) #[.slice A of.length c] 49) :=
    Lib.hid ⟨(Blk.new _ _ _).alloc _, by simpa using Blk.new (w.alloc (.cells #[.int .i64 policy] 3)) #[.slice A of.length c] 49⟩
  have LI := Lib.hid (fun (W : World) (hT : Tb W) => wList W s hs hT)
  obtain ⟨l, hl⟩ : ∃ l, l = listB s := ⟨_, rfl⟩
  have hl64 : l.length ≤ 64 := by rw [hl]; exact listB_len s
  have HL := Lib.hid hl
  rw [← hl] at LI
  clear hl
  by_cases p3 : policy = 3
  · have E : Hid (rankF policy of s = l) := Lib.hid (by unfold rankF; rw [if_pos p3, HL.out])
    have b3 : (policy == 3) = true := by simpa using p3
    clear p3
    go_enter Tryd.func31, Tryd.ntmps31
    go_wp2_with fail
    refine (LI.out _ (HT.out.quiet HQ0.out)).mono ?_
    rintro e w1 ⟨v, rfl, ho, hb⟩
    have HO := Lib.hid (IntsC.of_own ho)
    have q1 := Quiet.of hb
    have HQ1 := Lib.hid (HQ0.out.quiet q1)
    have x0 := (HX0.out.1.quiet q1).cell 0
    simp at x0
    have x0a : ∀ o, (w1.alloc o).cell? ⟨w.heap.size, 0, none⟩ = some (.int .i64 policy) := fun o => by simpa using ((HX0.out.1.quiet q1).alloc o).cell 0
    clear ho hb q1
    go_wp2
    go_ret
    exact ⟨v, rfl, by rw [E.out]; exact HO.out.quiet ((Fr.refl _ _).alloc _), HQ1.out.alloc _⟩
  have b3 : (policy == 3) = false := by simpa using p3
  by_cases p0 : policy = 0
  · have E : Hid (rankF policy of s = l.reverse) := Lib.hid (by unfold rankF; rw [if_neg p3, if_pos p0, HL.out])
    have b0 : (policy == 0) = true := by simpa using p0
    clear p3 p0
    go_enter Tryd.func31, Tryd.ntmps31
    go_wp2_with fail
    refine (LI.out _ (HT.out.quiet HQ0.out)).mono ?_
    rintro e w1 ⟨v, rfl, ho, hb⟩
    have q1 := Quiet.of hb
    have HQ1 := Lib.hid (HQ0.out.quiet q1)
    have x0 := (HX0.out.1.quiet q1).cell 0
    simp at x0
    have x0a : ∀ o, (w1.alloc o).cell? ⟨w.heap.size, 0, none⟩ = some (.int .i64 policy) := fun o => by simpa using ((HX0.out.1.quiet q1).alloc o).cell 0
    have HO := Lib.hid ho
    have HB : Hid (w.heap.size + 2 ≤ w1.heap.size) := Lib.hid (by have := q1.size; simp at this; exact this)
    have HBS : Hid (∀ k, v.ownBlock = some k → w.heap.size ≤ k) := Lib.hid (fun k hk => by have := own_base ho k hk; simp at this; omega)
    clear ho hb q1
    go_wp2_with fail
    refine (cRevV _ _ l (by omega) v (own_move HO.out (fun k hk => by
      obtain ⟨cells, hc⟩ := own_typed HO.out k hk
      exact (Below.alloc (Below.refl w1.heap.size w1) (Nat.le_refl _) _).block k (Array.getElem?_eq_some_iff.1 hc).1))).mono ?_
    rintro e w2 ⟨rfl, ho2, hg⟩
    have HO2 := Lib.hid (IntsC.of_own ho2)
    have HQ2 : Hid (Quiet w w2) := Lib.hid ((HQ1.out.alloc _).grown hg (fun k hk => .inr (HBS.out k hk)))
    clear ho2 hg
    go_wp2
    go_ret
    exact ⟨v, rfl, by rw [E.out]; exact HO2.out, HQ2.out⟩
  have b0 : (policy == 0) = false := by simpa using p0
  by_cases p1 : policy = 1 ∨ policy = 2
  · have E : Hid (rankF policy of s = (sortF policy of s).map val64) := Lib.hid (by unfold rankF; rw [if_neg p3, if_neg p0, if_pos p1])
    have b12 : ((policy == 1) = true) ∨ ((policy == 1) = false ∧ (policy == 2) = true) := by
      rcases p1 with h | h
      · exact .inl (by simpa using h)
      · exact .inr ⟨by rw [h]; rfl, by simpa using h⟩
    clear p3 p0 p1
    rcases b12 with b1 | ⟨b1, b2⟩
    all_goals
      go_enter Tryd.func31, Tryd.ntmps31
      go_wp2_with fail
      refine (LI.out _ (HT.out.quiet HQ0.out)).mono ?_
      rintro e w1 ⟨v, rfl, ho, hb⟩
      have q1 := Quiet.of hb
      have HQ1 := Lib.hid (HQ0.out.quiet q1)
      have x0 := (HX0.out.1.quiet q1).cell 0
      simp at x0
      have x0a : ∀ o, (w1.alloc o).cell? ⟨w.heap.size, 0, none⟩ = some (.int .i64 policy) := fun o => by simpa using ((HX0.out.1.quiet q1).alloc o).cell 0
      have HX1 : Hid (Blk w1 w.heap.size #[.int .i64 policy] 3 ∧ Blk w1 (w.heap.size + 1) #[.slice A of.length c] 49) := Lib.hid ⟨HX0.out.1.quiet q1, HX0.out.2.quiet q1⟩
      have HO : Hid (w1.ownsRow (w.heap.size + 2) 3 1 v (listB s).length (nums .i64 (listB s))) := Lib.hid (by rw [← HL.out]; simpa using ho)
      have HBS : Hid (∀ k, v.ownBlock = some k → w.heap.size ≤ k) := Lib.hid (fun k hk => by have := own_base ho k hk; simp at this; omega)
      have HKV : Hid (Boxes (w1.alloc (.cells #[keyV (w.heap.size + 1) w.heap.size] 60)) (w.heap.size + 1) w.heap.size w1.heap.size A of.length c policy) := Lib.hid ⟨HX1.out.2.alloc _, HX1.out.1.alloc _, Blk.new _ _ _⟩
      unfold keyV at HKV
      clear ho hb q1
      go_wp2_with fail
      refine (cSortV w _ (w.heap.size + 2) policy A c of s HC.out (Quiet.bel (HQ1.out.alloc _)) (by omega) v (own_move HO.out (fun k hk => by
        obtain ⟨cells, hc⟩ := own_typed HO.out k hk
        exact (Below.alloc (Below.refl w1.heap.size w1) (Nat.le_refl _) _).block k (Array.getElem?_eq_some_iff.1 hc).1)) _ _ _ HKV.out (by omega)).mono ?_
      rintro e w2 ⟨rfl, ho2, hg⟩
      have HO2 := Lib.hid (IntsC.of_own ho2)
      have HQ2 : Hid (Quiet w w2) := Lib.hid ((HQ1.out.alloc _).grown hg (fun k hk => .inr (HBS.out k hk)))
      clear ho2 hg
      go_wp2
      go_ret
      exact ⟨v, rfl, by rw [E.out]; exact HO2.out, HQ2.out⟩
  · have E : Hid (rankF policy of s = []) := Lib.hid (by unfold rankF; rw [if_neg p3, if_neg p0, if_neg p1])
    have b1 : (policy == 1) = false := by rw [beq_eq_false_iff_ne]; exact fun h => p1 (.inl h)
    have b2 : (policy == 2) = false := by rw [beq_eq_false_iff_ne]; exact fun h => p1 (.inr h)
    clear p3 p0 p1
    go_enter Tryd.func31, Tryd.ntmps31
    go_wp2_with fail
    refine (LI.out _ (HT.out.quiet HQ0.out)).mono ?_
    rintro e w1 ⟨v, rfl, ho, hb⟩
    have q1 := Quiet.of hb
    have HQ1 := Lib.hid (HQ0.out.quiet q1)
    have x0 := (HX0.out.1.quiet q1).cell 0
    simp at x0
    have x0a : ∀ o, (w1.alloc o).cell? ⟨w.heap.size, 0, none⟩ = some (.int .i64 policy) := fun o => by simpa using ((HX0.out.1.quiet q1).alloc o).cell 0
    clear ho hb q1
    go_wp2
    go_ret
    exact ⟨_, rfl, by rw [E.out]; exact ⟨none, 0, rfl, ⟨rfl, Nat.zero_le _, fun q => absurd q (by simp)⟩, Nat.le_refl _⟩, HQ1.out.alloc _⟩
end Go.Proofs.YtadepdeckapgcaaDoor
end

section
namespace Go.Proofs.YtadepdeckapgcaaDoor
open Go.RowKit Go.Proofs.YtadepdeckapgcaaDoorW.PrintWords Go.Proofs.YtadepdeckapgcaaDoorW.PrintLast Go.Proofs.YtadepdeckapgcaaDoorW.PrintMore PWitnessTells
set_option linter.unusedSimpArgs false
set_option linter.unusedVariables false
def drawI (draw : Int) : Int := if draw < 0 then -1 - draw else draw
def pickF (policy : Int) (of : List NInfo) (s : Nat) (draw : Int) : Int :=
  if (rankF policy of s).length = 0 then -1 else if policy = 3 then (rankF policy of s).getD ((drawI draw) % ((rankF policy of s).length : Int)).toNat 0 else (rankF policy of s).getD 0 0
theorem rank_le (policy : Int) (of : List NInfo) (s : Nat) : (rankF policy of s).length ≤ 64 := by
  have h := listB_len s
  unfold rankF
  split
  · exact h
  · split
    · rw [List.length_reverse]; exact h
    · split
      · rw [List.length_map, sortF_len]; exact listF_len s
      · simp
set_option maxRecDepth 100000 in
set_option maxHeartbeats 2000000 in
theorem wPick (w : World) (hT : Tb w) (policy : Int) (s : Nat) (hs : s < B64) (A : Option Addr) (c : Nat) (of : List NInfo) (hC : kInfo.C w A of.length of) (draw : Int) (hd : -9223372036854775808 ≤ draw ∧ draw ≤ 9223372036854775807) :
    Calls Tryd.prog 33 #[.int .i64 policy, .int .u64 s, .slice A of.length c, .int .i64 draw] w fun e w' => e = .returned (.int .i64 (pickF policy of s draw)) ∧ Quiet w w' := by
  have RK := Lib.hid (wRank w hT policy s hs A c of hC)
  have hle := rank_le policy of s
  obtain ⟨hd1, hd2⟩ := hd
  have EP : Hid (pickF policy of s draw = if (rankF policy of s).length = 0 then -1 else if policy = 3 then (rankF policy of s).getD ((drawI draw) % ((rankF policy of s).length : Int)).toNat 0 else (rankF policy of s).getD 0 0) := Lib.hid rfl
  generalize rankF policy of s = l at *
  clear hC
  by_cases h0 : l.length = 0
  · have h0' := List.length_eq_zero_iff.1 h0
    subst h0'
    rw [if_pos h0] at EP
    clear h0
    go_enter Tryd.func33, Tryd.ntmps33
    go_wp2_with fail
    refine RK.out.mono ?_
    rintro e w1 ⟨v, rfl, ⟨Al, cl, rfl, hL, hcl⟩, q1⟩
    have HQ := Lib.hid q1
    clear hL q1
    go_wp2
    go_ret
    rw [EP.out]; exact ⟨rfl, HQ.out⟩
  rw [if_neg h0] at EP
  have hn0 : ((l.length : Int) == 0) = false := by rw [beq_eq_false_iff_ne]; omega
  by_cases p3 : policy = 3
  · rw [if_pos p3] at EP
    have b3 : (policy != 3) = false := by simpa using p3
    clear p3
    by_cases hneg : draw < 0
    · have EX : Hid (drawI draw = -1 - draw) := Lib.hid (if_pos hneg)
      rw [EX.out] at EP
      have hm1 : 0 ≤ (-1 - draw) % (l.length : Int) := Int.emod_nonneg _ (by omega)
      have hm2 : (-1 - draw) % (l.length : Int) < (l.length : Int) := Int.emod_lt_of_pos _ (by omega)
      have bn : decide (draw < 0) = true := decide_eq_true hneg
      have hx0 : 0 ≤ -1 - draw := by omega
      go_enter Tryd.func33, Tryd.ntmps33
      go_wp2_with fail
      refine RK.out.mono ?_
      rintro e w1 ⟨v, rfl, ⟨Al, cl, rfl, hL, hcl⟩, q1⟩
      have HQ := Lib.hid q1
      obtain ⟨ad, rfl, g⟩ := at_ints hL ((-1 - draw) % (l.length : Int)).toNat (by omega)
      generalize l.getD ((-1 - draw) % (l.length : Int)).toNat 0 = x at g EP
      clear hL q1
      go_wp2
      go_ret
      rw [EP.out]; exact ⟨rfl, HQ.out⟩
    · have EX : Hid (drawI draw = draw) := Lib.hid (if_neg hneg)
      rw [EX.out] at EP
      have hm1 : 0 ≤ draw % (l.length : Int) := Int.emod_nonneg _ (by omega)
      have hm2 : draw % (l.length : Int) < (l.length : Int) := Int.emod_lt_of_pos _ (by omega)
      have bn : decide (draw < 0) = false := decide_eq_false hneg
      have hx0 : 0 ≤ draw := by omega
      go_enter Tryd.func33, Tryd.ntmps33
      go_wp2_with fail
      refine RK.out.mono ?_
      rintro e w1 ⟨v, rfl, ⟨Al, cl, rfl, hL, hcl⟩, q1⟩
      have HQ := Lib.hid q1
      obtain ⟨ad, rfl, g⟩ := at_ints hL (draw % (l.length : Int)).toNat (by omega)
      generalize l.getD (draw % (l.length : Int)).toNat 0 = x at g EP
      clear hL q1
      go_wp2
      go_ret
      rw [EP.out]; exact ⟨rfl, HQ.out⟩
  · rw [if_neg p3] at EP
    have b3 : (policy != 3) = true := by simpa using p3
    clear p3
    have hp1 : (0 : Int) < (l.length : Int) := by omega
    go_enter Tryd.func33, Tryd.ntmps33
    go_wp2_with fail
    refine RK.out.mono ?_
    rintro e w1 ⟨v, rfl, ⟨Al, cl, rfl, hL, hcl⟩, q1⟩
    have HQ := Lib.hid q1
    obtain ⟨ad, rfl, g⟩ := at_ints hL 0 (by omega)
    have g' : w1.cell? ad = some (.int .i64 (l.getD 0 0)) := g
    clear hL q1 g
    go_wp2
    go_ret
    rw [EP.out]; exact ⟨rfl, HQ.out⟩
def ofL5 : List NInfo := [⟨0, 0⟩, ⟨1, 2⟩, ⟨0, 9⟩, ⟨0, 0⟩, ⟨0, 8⟩]
theorem lv_list : listF 22 = [1, 2, 4] := by decide +kernel
theorem lv_sort2 : sortF 2 ofL5 22 = [1, 4, 2] := by
  unfold sortF
  rw [lv_list]
  simp (decide := true) [List.mergeSort, List.MergeSort.Internal.splitInTwo, List.merge]
theorem lv_sort1 : sortF 1 ofL5 22 = [4, 2, 1] := by
  unfold sortF
  rw [lv_list]
  simp (decide := true) [List.mergeSort, List.MergeSort.Internal.splitInTwo, List.merge]
theorem lv_rank2 : rankF 2 ofL5 22 = [1, 4, 2] := by unfold rankF; rw [lv_sort2]; decide
theorem lv_pick1 : pickF 1 ofL5 22 0 = 4 := by
  have e : rankF 1 ofL5 22 = [4, 2, 1] := by unfold rankF; rw [lv_sort1]; decide
  unfold pickF; rw [e]; decide
theorem lv_pick0 : pickF 0 ofL5 6 0 = 2 := by
  have e : rankF 0 ofL5 6 = [2, 1] := by unfold rankF; decide +kernel
  unfold pickF; rw [e]; decide
theorem lv_pick3 : pickF 3 ofL5 22 4 = 2 := by
  have e : rankF 3 ofL5 22 = [1, 2, 4] := by unfold rankF; decide +kernel
  unfold pickF; rw [e]; decide
end Go.Proofs.YtadepdeckapgcaaDoor
end

section
namespace Go.Proofs.YtadepdeckapgcaaDoor
open Go.RowKit Go.Proofs.YtadepdeckapgcaaDoorW.PrintWords Go.Proofs.YtadepdeckapgcaaDoorW.PrintLast Go.Proofs.YtadepdeckapgcaaDoorW.PrintMore PWitnessTells
set_option linter.unusedSimpArgs false
set_option linter.unusedVariables false
open Go.ChangeShapes Go.WideShapes Go.ChangeAt in
theorem val_u64 {P : Program} {t : TypeId} {w : World} {r : Reach} {b0 : Nat} {v : Value} {B : Nat} {a : Int} (ht : P.underlying t = some (.int .u64)) (hval : Value.okWide P w r b0 t v) (h : shU64.rd w B a v.cells.toList) : v = .int .u64 a := by
  obtain ⟨n, rfl⟩ := okWide_int ht hval
  have := h.1
  simp [Value.cells] at this
  rw [this]
set_option maxRecDepth 100000 in
set_option maxHeartbeats 2000000 in
theorem cLives33 (w : World) (hT : Tb w) : Calls Tryd.prog 35 #[] w fun e w' => e = .returned (.bool true) ∧ Quiet w w' := by
  have HT := Lib.hid hT; clear hT
  obtain ⟨W1, hW1⟩ : ∃ W, W = w.alloc (.cells #[.int .i64 0, .int .i64 0, .int .i64 1, .int .i64 2, .int .i64 0, .int .i64 9, .int .i64 0, .int .i64 0, .int .i64 0, .int .i64 8] 53) := ⟨_, rfl⟩
  have HB : Hid (Blk W1 w.heap.size #[.int .i64 0, .int .i64 0, .int .i64 1, .int .i64 2, .int .i64 0, .int .i64 9, .int .i64 0, .int .i64 0, .int .i64 0, .int .i64 8] 53) := Lib.hid (by rw [hW1]; exact Blk.new _ _ _)
  have HQ1 : Hid (Quiet w W1) := Lib.hid (by rw [hW1]; exact (Fr.refl _ _).alloc _)
  have HI : Hid (∀ W, Quiet W1 W → kInfo.C W (some ⟨w.heap.size, 0, none⟩) ofL5.length ofL5) := Lib.hid (fun W q =>
    C_of_blk kInfo [(⟨0, 0⟩, [.int .i64 0, .int .i64 0]), (⟨1, 2⟩, [.int .i64 1, .int .i64 2]), (⟨0, 9⟩, [.int .i64 0, .int .i64 9]), (⟨0, 0⟩, [.int .i64 0, .int .i64 0]), (⟨0, 8⟩, [.int .i64 0, .int .i64 8])] (HB.out.quiet q)
      (fun p hp => by simp at hp; rcases hp with rfl | rfl | rfl | rfl | rfl <;> exact k108_mk _ _) (by decide))
  go_enter Tryd.func35, Tryd.ntmps35
  go_wp2_with fail
  rw [← hW1]
  clear hW1
  refine (wRank W1 (HT.out.quiet HQ1.out) 2 22 (by decide) (some ⟨w.heap.size, 0, none⟩) 5 ofL5 (HI.out _ (Fr.refl _ _))).mono ?_
  rw [lv_rank2]
  rintro e w2 ⟨v2, rfl, ⟨Al, cl, rfl, hL, hcl⟩, q2⟩
  obtain ⟨al, rfl, g0⟩ := at_ints hL 0 (by decide)
  obtain ⟨al2, e2, g1⟩ := at_ints hL 1 (by decide)
  injection e2 with e2
  subst e2
  have g0' : w2.cell? al = some (.int .i64 1) := g0
  have g1' : w2.cell? ⟨al.block, al.off + 1, none⟩ = some (.int .i64 4) := g1
  have HG0 := Lib.hid g0'; have HG1 := Lib.hid g1'; have HQ2 := Lib.hid q2
  clear hL g0 g1 g0' g1' q2
  go_wp2_with fail
  refine (wPick w2 (HT.out.quiet (HQ1.out.quiet HQ2.out)) 1 22 (by decide) (some ⟨w.heap.size, 0, none⟩) 5 ofL5 (HI.out _ HQ2.out) 0 (by decide)).mono ?_
  rw [lv_pick1]
  rintro e w3 ⟨rfl, q3⟩
  have HQ3 := Lib.hid (HQ2.out.quiet q3); have HG0' := Lib.hid (Quiet.cellA q3 HG0.out); have HG1' := Lib.hid (Quiet.cellA q3 HG1.out)
  clear q3 HG0 HG1 HQ2
  go_wp2_with fail
  refine (wPick w3 (HT.out.quiet (HQ1.out.quiet HQ3.out)) 0 6 (by decide) (some ⟨w.heap.size, 0, none⟩) 5 ofL5 (HI.out _ HQ3.out) 0 (by decide)).mono ?_
  rw [lv_pick0]
  rintro e w4 ⟨rfl, q4⟩
  have HQ4 := Lib.hid (HQ3.out.quiet q4); have g0 := Quiet.cellA q4 HG0'.out; have g1 := Quiet.cellA q4 HG1'.out
  clear q4 HG0' HG1' HQ3
  go_wp2_with fail
  refine (wPick w4 (HT.out.quiet (HQ1.out.quiet HQ4.out)) 3 22 (by decide) (some ⟨w.heap.size, 0, none⟩) 5 ofL5 (HI.out _ HQ4.out) 4 (by decide)).mono ?_
  rw [lv_pick3]
  rintro e w5 ⟨rfl, q5⟩
  have HQ5 := Lib.hid (HQ1.out.quiet (HQ4.out.quiet q5))
  clear q5 HQ4 g0 g1
  go_wp2
  go_ret
  exact ⟨rfl, HQ5.out⟩
def policyOk (p : Int) : Prop := 0 ≤ p ∧ p ≤ 3
instance (p : Int) : Decidable (policyOk p) := by unfold policyOk; infer_instance
theorem rank_bad (p : Int) (of : List NInfo) (s : Nat) (h : ¬ policyOk p) : rankF p of s = [] := by
  unfold policyOk at h; unfold rankF
  rw [if_neg (by omega), if_neg (by omega), if_neg (by omega)]
theorem rank_perm (p : Int) (of : List NInfo) (s : Nat) (h : policyOk p) : (rankF p of s).Perm (listB s) := by
  unfold policyOk at h; unfold rankF
  split
  · exact List.Perm.refl _
  · split
    · exact List.reverse_perm _
    · rw [if_pos (by omega)]
      have q := (List.mergeSort_perm (listF s) (fun x y => !(Go.Proofs.ltOf (cfF p of)) y x)).map val64
      rw [listF_map] at q
      exact q
end Go.Proofs.YtadepdeckapgcaaDoor
end

section
namespace Go.Proofs.YtadepdeckapgcaaDoor
open Go.RowKit Go.Proofs.YtadepdeckapgcaaDoorW.PrintWords Go.Proofs.YtadepdeckapgcaaDoorW.PrintLast Go.Proofs.YtadepdeckapgcaaDoorW.PrintMore PWitnessTells
set_option linter.unusedSimpArgs false
set_option linter.unusedVariables false
structure ArrI (cs : Array Value) (all : List NInfo) : Prop where
  sz : cs.size = 128
  len : all.length = 64
  fst : ∀ i, i < 64 → cs[i * 2]? = some (.int .i64 (all.getD i z108).f0)
  snd : ∀ i, i < 64 → cs[i * 2 + 1]? = some (.int .i64 (all.getD i z108).f1)
def askF (policy : Int) (all : List NInfo) (t : Int) : Int := if policy = 1 then (all.getD t.toNat z108).f0 else if policy = 2 then (all.getD t.toNat z108).f1 else 0
def aheadF (policy : Int) (all : List NInfo) (a b : Int) : Bool :=
  if policy = 3 then decide (a < b) else decide (askF policy all a < askF policy all b) || (decide (askF policy all a = askF policy all b) && decide (b < a))
theorem ahead_tail (x y a b : Int) : Hid (∀ q : Bool, q = (decide (x < y) || (decide (x = y) && decide (b < a))) → (x < y ∧ q = true) ∨ (¬ x < y ∧ x = y ∧ q = decide (b < a)) ∨ (¬ x < y ∧ x ≠ y ∧ q = false)) := Lib.hid (fun q hq => by
  by_cases h1 : x < y
  · exact .inl ⟨h1, by rw [hq, decide_eq_true h1]; rfl⟩
  · by_cases h2 : x = y
    · exact .inr (.inl ⟨h1, h2, by rw [hq, decide_eq_false h1, decide_eq_true h2]; simp⟩)
    · exact .inr (.inr ⟨h1, h2, by rw [hq, decide_eq_false h1, decide_eq_false h2]; rfl⟩))
set_option maxRecDepth 100000 in
set_option maxHeartbeats 2000000 in
theorem wAhead (w : World) (policy a b : Int) (ha : 0 ≤ a ∧ a < 64) (hb : 0 ≤ b ∧ b < 64) (cs : Array Value) (all : List NInfo) (hA : ArrI cs all) :
    Calls Tryd.prog 79 #[.int .i64 policy, .int .i64 a, .int .i64 b, .agg cs] w fun e w' => e = .returned (.bool (aheadF policy all a b)) ∧ Quiet w w' := by
  have HB : Hid (Blk (w.alloc (.cells cs 52)) w.heap.size cs 52) := Lib.hid (Blk.new _ _ _)
  obtain ⟨ha0, ha1⟩ := ha
  obtain ⟨hb0, hb1⟩ := hb
  have HQ : Hid (Quiet w (w.alloc (.cells cs 52))) := Lib.hid (by (repeat (first | exact Fr.refl _ _ | assumption | (refine Fr.quiet ?_ (by assumption)) | refine Fr.quiet ?_ HF.out | refine Fr.quiet ?_ HF2.out | refine Fr.drew ?_ | refine Fr.drewN ?_ _ | refine Fr.alloc ?_ _ | refine Fr.setCell ?_ (.inr (by first | omega | (simp; done) | (simp; omega))) _)))
  by_cases p3 : policy = 3
  · have E : Hid (aheadF policy all a b = decide (a < b)) := Lib.hid (if_pos p3)
    have b1 : (policy == 1) = false := by rw [p3]; rfl
    have b2 : (policy == 2) = false := by rw [p3]; rfl
    have b3 : (policy == 3) = true := by simpa using p3
    clear p3
    go_enter Tryd.func79, Tryd.ntmps79
    go_wp2
    go_ret
    rw [E.out]; exact ⟨rfl, HQ.out⟩
  have E : Hid (aheadF policy all a b = (decide (askF policy all a < askF policy all b) || (decide (askF policy all a = askF policy all b) && decide (b < a)))) := Lib.hid (if_neg p3)
  have b3 : (policy == 3) = false := by simpa using p3
  have T := (ahead_tail (askF policy all a) (askF policy all b) a b).out _ E.out
  by_cases p1 : policy = 1
  · have x1 : askF policy all a = (all.getD a.toNat z108).f0 := if_pos p1
    have x2 : askF policy all b = (all.getD b.toNat z108).f0 := if_pos p1
    rw [x1, x2] at T
    have c1 := (HB.out.cell (a.toNat * 2)).trans (hA.fst a.toNat (by omega))
    have c2 := (HB.out.cell (b.toNat * 2)).trans (hA.fst b.toNat (by omega))
    generalize (all.getD a.toNat z108).f0 = x at *
    generalize (all.getD b.toNat z108).f0 = y at *
    have b1 : (policy == 1) = true := by simpa using p1
    have b2 : (policy == 2) = false := by rw [p1]; rfl
    have HC1 := Lib.hid c1; have HC2 := Lib.hid c2
    clear p1 p3 x1 x2 c1 c2 E
    have c1 := HC1.out; have c2 := HC2.out
    rcases T with ⟨h1, e⟩ | ⟨h1, h2, e⟩ | ⟨h1, h2, e⟩
    · have d1 : decide (x < y) = true := decide_eq_true h1
      have E := Lib.hid e
      clear h1 e
      go_enter Tryd.func79, Tryd.ntmps79
      go_wp2_with fail
      go_quiet (fail)
      go_wp2
      go_ret
      rw [E.out]; exact ⟨rfl, by have q := HQ.out; (repeat (first | exact Fr.refl _ _ | assumption | (refine Fr.quiet ?_ (by assumption)) | refine Fr.quiet ?_ HF.out | refine Fr.quiet ?_ HF2.out | refine Fr.drew ?_ | refine Fr.drewN ?_ _ | refine Fr.alloc ?_ _ | refine Fr.setCell ?_ (.inr (by first | omega | (simp; done) | (simp; omega))) _))⟩
    · have d1 : decide (x < y) = false := decide_eq_false h1
      have d2 : (x == y) = true := by simpa using h2
      have E := Lib.hid e
      clear h1 h2 e
      go_enter Tryd.func79, Tryd.ntmps79
      go_wp2_with fail
      go_quiet (fail)
      go_wp2
      go_ret
      rw [E.out]; exact ⟨rfl, by have q := HQ.out; (repeat (first | exact Fr.refl _ _ | assumption | (refine Fr.quiet ?_ (by assumption)) | refine Fr.quiet ?_ HF.out | refine Fr.quiet ?_ HF2.out | refine Fr.drew ?_ | refine Fr.drewN ?_ _ | refine Fr.alloc ?_ _ | refine Fr.setCell ?_ (.inr (by first | omega | (simp; done) | (simp; omega))) _))⟩
    · have d1 : decide (x < y) = false := decide_eq_false h1
      have d2 : (x == y) = false := by simpa using h2
      have E := Lib.hid e
      clear h1 h2 e
      go_enter Tryd.func79, Tryd.ntmps79
      go_wp2_with fail
      go_quiet (fail)
      go_wp2
      go_ret
      rw [E.out]; exact ⟨rfl, by have q := HQ.out; (repeat (first | exact Fr.refl _ _ | assumption | (refine Fr.quiet ?_ (by assumption)) | refine Fr.quiet ?_ HF.out | refine Fr.quiet ?_ HF2.out | refine Fr.drew ?_ | refine Fr.drewN ?_ _ | refine Fr.alloc ?_ _ | refine Fr.setCell ?_ (.inr (by first | omega | (simp; done) | (simp; omega))) _))⟩
  by_cases p2 : policy = 2
  · have x1 : askF policy all a = (all.getD a.toNat z108).f1 := by unfold askF; rw [if_neg p1, if_pos p2]
    have x2 : askF policy all b = (all.getD b.toNat z108).f1 := by unfold askF; rw [if_neg p1, if_pos p2]
    rw [x1, x2] at T
    have c1 := (HB.out.cell (a.toNat * 2 + 1)).trans (hA.snd a.toNat (by omega))
    have c2 := (HB.out.cell (b.toNat * 2 + 1)).trans (hA.snd b.toNat (by omega))
    generalize (all.getD a.toNat z108).f1 = x at *
    generalize (all.getD b.toNat z108).f1 = y at *
    have b1 : (policy == 1) = false := by simpa using p1
    have b2 : (policy == 2) = true := by simpa using p2
    have HC1 := Lib.hid c1; have HC2 := Lib.hid c2
    clear p1 p2 p3 x1 x2 c1 c2 E
    have c1 := HC1.out; have c2 := HC2.out
    rcases T with ⟨h1, e⟩ | ⟨h1, h2, e⟩ | ⟨h1, h2, e⟩
    · have d1 : decide (x < y) = true := decide_eq_true h1
      have E := Lib.hid e
      clear h1 e
      go_enter Tryd.func79, Tryd.ntmps79
      go_wp2_with fail
      go_quiet (fail)
      go_wp2
      go_ret
      rw [E.out]; exact ⟨rfl, by have q := HQ.out; (repeat (first | exact Fr.refl _ _ | assumption | (refine Fr.quiet ?_ (by assumption)) | refine Fr.quiet ?_ HF.out | refine Fr.quiet ?_ HF2.out | refine Fr.drew ?_ | refine Fr.drewN ?_ _ | refine Fr.alloc ?_ _ | refine Fr.setCell ?_ (.inr (by first | omega | (simp; done) | (simp; omega))) _))⟩
    · have d1 : decide (x < y) = false := decide_eq_false h1
      have d2 : (x == y) = true := by simpa using h2
      have E := Lib.hid e
      clear h1 h2 e
      go_enter Tryd.func79, Tryd.ntmps79
      go_wp2_with fail
      go_quiet (fail)
      go_wp2
      go_ret
      rw [E.out]; exact ⟨rfl, by have q := HQ.out; (repeat (first | exact Fr.refl _ _ | assumption | (refine Fr.quiet ?_ (by assumption)) | refine Fr.quiet ?_ HF.out | refine Fr.quiet ?_ HF2.out | refine Fr.drew ?_ | refine Fr.drewN ?_ _ | refine Fr.alloc ?_ _ | refine Fr.setCell ?_ (.inr (by first | omega | (simp; done) | (simp; omega))) _))⟩
    · have d1 : decide (x < y) = false := decide_eq_false h1
      have d2 : (x == y) = false := by simpa using h2
      have E := Lib.hid e
      clear h1 h2 e
      go_enter Tryd.func79, Tryd.ntmps79
      go_wp2_with fail
      go_quiet (fail)
      go_wp2
      go_ret
      rw [E.out]; exact ⟨rfl, by have q := HQ.out; (repeat (first | exact Fr.refl _ _ | assumption | (refine Fr.quiet ?_ (by assumption)) | refine Fr.quiet ?_ HF.out | refine Fr.quiet ?_ HF2.out | refine Fr.drew ?_ | refine Fr.drewN ?_ _ | refine Fr.alloc ?_ _ | refine Fr.setCell ?_ (.inr (by first | omega | (simp; done) | (simp; omega))) _))⟩
  · have x1 : askF policy all a = 0 := by unfold askF; rw [if_neg p1, if_neg p2]
    have x2 : askF policy all b = 0 := by unfold askF; rw [if_neg p1, if_neg p2]
    have e : aheadF policy all a b = decide (b < a) := by rw [E.out, x1, x2]; simp
    have b1 : (policy == 1) = false := by simpa using p1
    have b2 : (policy == 2) = false := by simpa using p2
    have E2 := Lib.hid e
    clear p1 p2 p3 x1 x2 e E T
    go_enter Tryd.func79, Tryd.ntmps79
    go_wp2
    go_ret
    rw [E2.out]; exact ⟨rfl, HQ.out⟩
end Go.Proofs.YtadepdeckapgcaaDoor
end

section
namespace Go.Proofs.YtadepdeckapgcaaDoor
open Go.RowKit Go.Proofs.YtadepdeckapgcaaDoorW.PrintWords Go.Proofs.YtadepdeckapgcaaDoorW.PrintLast Go.Proofs.YtadepdeckapgcaaDoorW.PrintMore PWitnessTells
set_option linter.unusedSimpArgs false
set_option linter.unusedVariables false
structure OfAll (of all : List NInfo) : Prop where
  le : of.length ≤ 64
  len : all.length = 64
  old : ∀ i, i < of.length → all.getD i z108 = of.getD i z108
  new : ∀ i, of.length ≤ i → i < 64 → all.getD i z108 = ⟨0, 0⟩
theorem key_ask {of all : List NInfo} (h : OfAll of all) (p : Int) (hp : p = 1 ∨ p = 2) (t : Int) (ht : 0 ≤ t ∧ t ≤ 63) : keyF p of t = askF p all t := by
  unfold keyF askF
  by_cases q : (of.length : Int) ≤ t
  · rw [if_pos q, h.new t.toNat (by omega) (by omega)]
    split
    · rfl
    · split <;> rfl
  · rw [if_neg q, h.old t.toNat (by omega)]
    split
    · rfl
    · rw [if_pos (by omega)]
theorem ahead_irr (p : Int) (all : List NInfo) (a : Int) : aheadF p all a a = false := by
  unfold aheadF; split <;> simp
theorem ahead_asym (p : Int) (all : List NInfo) (a b : Int) (h : aheadF p all a b = true) : aheadF p all b a = false := by
  unfold aheadF at *
  by_cases p3 : p = 3
  · rw [if_pos p3] at h ⊢; simp at h ⊢; omega
  · rw [if_neg p3] at h ⊢; simp at h ⊢; omega
theorem mem_range (s : Nat) (x : Int) (h : x ∈ listB s) : 0 ≤ x ∧ x ≤ 63 := by
  have := hasB_vt ((mem_listB s x).1 h)
  unfold vt at this; exact this
theorem listF_nodup (s : Nat) : (listF s).Nodup := by
  have h := listB_sorted s
  rw [← listF_map, List.pairwise_map] at h
  exact h.imp (fun {a b} q e => by subst e; omega)
theorem rank_pairwise {of all : List NInfo} (h : OfAll of all) (p : Int) (s : Nat) (hp : policyOk p) : (rankF p of s).Pairwise (fun x y => aheadF p all x y = true) := by
  unfold policyOk at hp
  unfold rankF
  by_cases p3 : p = 3
  · rw [if_pos p3]
    refine (listB_sorted s).imp (fun {a b} q => ?_)
    unfold aheadF; rw [if_pos p3]; simpa using q
  rw [if_neg p3]
  by_cases p0 : p = 0
  · rw [if_pos p0, List.pairwise_reverse]
    refine (listB_sorted s).imp (fun {a b} q => ?_)
    unfold aheadF askF; rw [if_neg p3, if_neg (by omega), if_neg (by omega), if_neg (by omega), if_neg (by omega)]
    simpa using q
  rw [if_neg p0, if_pos (by omega), List.pairwise_map]
  have hs : (sortF p of s).Pairwise (fun x y => (!(Go.Proofs.ltOf (cfF p of)) y x) = true) := by
    refine List.pairwise_mergeSort (fun a b c h1 h2 => ?_) (fun a b => ?_) _
    · have q := (cf_swo p of).ntrans c b a (by simpa using h2) (by simpa using h1)
      simpa using q
    · cases h1 : Go.Proofs.ltOf (cfF p of) b a
      · rfl
      · cases h2 : Go.Proofs.ltOf (cfF p of) a b
        · rfl
        · have q := (cf_swo p of).trans a b a h2 h1
          rw [(cf_swo p of).irrefl] at q; cases q
  have hn : (sortF p of s).Nodup := (List.mergeSort_perm (listF s) _).nodup_iff.2 (listF_nodup s)
  refine (hs.and hn).imp (fun {a b} q => ?_)
  have hlt : Go.Proofs.ltOf (cfF p of) a b = true := by
    cases h1 : Go.Proofs.ltOf (cfF p of) a b
    · exact absurd (cf_tot p of a b h1 (by simpa using q.1)) q.2
    · rfl
  have hk := (cf_lt p of a b).1 hlt
  unfold ltK at hk
  have ha : 0 ≤ val64 a ∧ val64 a ≤ 63 := by unfold val64; omega
  have hb : 0 ≤ val64 b ∧ val64 b ≤ 63 := by unfold val64; omega
  rw [key_ask h p (by omega) _ ha, key_ask h p (by omega) _ hb] at hk
  unfold aheadF
  rw [if_neg p3]
  simpa using hk
def placeF (p : Int) (all : List NInfo) (l : List Int) (x : Int) : Nat := l.countP (fun y => aheadF p all y x)
theorem place_at (p : Int) (all : List NInfo) : ∀ (L : List Int), L.Pairwise (fun x y => aheadF p all x y = true) → ∀ i, i < L.length → placeF p all L (L.getD i 0) = i
  | [], _, i, hi => by simp at hi
  | a :: r, h, i, hi => by
    obtain ⟨h1, h2⟩ := List.pairwise_cons.1 h
    unfold placeF
    rw [List.countP_cons]
    cases i with
    | zero =>
      rw [List.getD_cons_zero, ahead_irr, if_neg (by simp), Nat.add_zero, List.countP_eq_zero]
      intro y hy q
      rw [ahead_asym p all a y (h1 y hy)] at q; cases q
    | succ i =>
      have ih := place_at p all r h2 i (by simpa using hi)
      rw [List.getD_cons_succ]
      have hm : r.getD i 0 ∈ r := getD_mem 0 r i (by simpa using hi)
      rw [h1 _ hm, if_pos rfl]
      unfold placeF at ih
      omega
theorem place_rank {of all : List NInfo} (h : OfAll of all) (p : Int) (s : Nat) (hp : policyOk p) (i : Nat) (hi : i < (rankF p of s).length) : placeF p all (listB s) ((rankF p of s).getD i 0) = i := by
  have q := place_at p all _ (rank_pairwise h p s hp) i hi
  unfold placeF at *
  rw [← (rank_perm p of s hp).countP_eq]
  exact q
theorem rank_place {of all : List NInfo} (h : OfAll of all) (p : Int) (s : Nat) (hp : policyOk p) (x : Int) (hx : x ∈ listB s) : placeF p all (listB s) x < (listB s).length ∧ (rankF p of s).getD (placeF p all (listB s) x) 0 = x := by
  have hx' := (rank_perm p of s hp).mem_iff.2 hx
  obtain ⟨i, hi, e⟩ := List.getElem_of_mem hx'
  have e2 : (rankF p of s).getD i 0 = x := by rw [← e]; simp [hi]
  have hpl := place_rank h p s hp i hi
  rw [e2] at hpl
  rw [hpl]
  exact ⟨by rw [← (rank_perm p of s hp).length_eq]; exact hi, e2⟩
def Placed (p : Int) (all : List NInfo) (l out : List Int) (k : Nat) : Prop := out.length = l.length ∧ ∀ j, j < k → out.getD (placeF p all l (l.getD j 0)) 0 = l.getD j 0
theorem placed_done {of all : List NInfo} (h : OfAll of all) (p : Int) (s : Nat) (hp : policyOk p) (out : List Int) (hP : Placed p all (listB s) out (listB s).length) : out = rankF p of s := by
  have hl := (rank_perm p of s hp).length_eq
  refine List.ext_getElem (by rw [hP.1, hl]) (fun i h1 h2 => ?_)
  have hx : (rankF p of s).getD i 0 ∈ listB s := (rank_perm p of s hp).mem_iff.1 (getD_mem 0 _ i h2)
  obtain ⟨j, hj, e⟩ := List.getElem_of_mem hx
  have e2 : (listB s).getD j 0 = (rankF p of s).getD i 0 := by rw [← e]; simp [hj]
  have q := hP.2 j hj
  rw [e2, place_rank h p s hp i h2] at q
  simpa [h1, h2] using q
theorem placed_step {of all : List NInfo} (h : OfAll of all) (p : Int) (s : Nat) (hp : policyOk p) (out : List Int) (k : Nat) (hk : k < (listB s).length) (hP : Placed p all (listB s) out k) :
    Placed p all (listB s) (out.set (placeF p all (listB s) ((listB s).getD k 0)) ((listB s).getD k 0)) (k + 1) := by
  refine ⟨by rw [List.length_set]; exact hP.1, fun j hj => ?_⟩
  have hmk := getD_mem 0 (listB s) k hk
  have hmj := getD_mem 0 (listB s) j (by omega)
  obtain ⟨b1, e1⟩ := rank_place h p s hp _ hmk
  obtain ⟨b2, e2⟩ := rank_place h p s hp _ hmj
  by_cases e : placeF p all (listB s) ((listB s).getD k 0) = placeF p all (listB s) ((listB s).getD j 0)
  · have ex : (listB s).getD k 0 = (listB s).getD j 0 := by rw [← e1, ← e2, e]
    rw [← ex, List.getD_eq_getElem?_getD, List.getElem?_set_self (by rw [hP.1]; exact b1)]
    rfl
  · have hjk : j < k := by
      rcases Nat.lt_or_ge j k with q | q
      · exact q
      · have : j = k := by omega
        subst this; exact absurd rfl e
    have q := hP.2 j hjk
    rw [List.getD_eq_getElem?_getD, List.getElem?_set_ne e, ← List.getD_eq_getElem?_getD]
    exact q
end Go.Proofs.YtadepdeckapgcaaDoor
end

section
namespace Go.Proofs.YtadepdeckapgcaaDoor
open Go.RowKit Go.Proofs.YtadepdeckapgcaaDoorW.PrintWords Go.Proofs.YtadepdeckapgcaaDoorW.PrintLast Go.Proofs.YtadepdeckapgcaaDoorW.PrintMore PWitnessTells
set_option linter.unusedSimpArgs false
set_option linter.unusedVariables false
section
variable {P : Program}
theorem load_agg {o : Oper} {a : Act} {w : World} {ty t : TypeId} {x : Operand} {b : Nat} {cs : Array Value} {d : TypeDesc} (ho : o.op = .load ty x) (hx : a.eval x = .pointer (some ⟨b, 0, none⟩)) (h : Blk w b cs t)
    (hu : P.underlying ty = some d) (hd : (match d with | .struct _ | .array _ _ => true | _ => false) = true) (hi : (P.info? ty).map (·.size) = some cs.size) : (execOp a.eval o).run P w = .ok (.value (.agg cs)) w := by
  unfold execOp
  simp only [ho, hx, Instr.loadAt, Instr.sureAddr, Sem.run_bind, Sem.run_pure, Result.andThen_ok, run_loadVar_row w b t ty cs (0, 0) d h hu hd hi]
end
structure RkLv (w : World) (cs : Array Value) (b1 g : Nat) (vl : Value) (l out : List Int) (wz : World) : Prop where
  x : Blk wz w.heap.size cs 52
  l : (Kd.int .i64).R 3 wz b1 (fun k => Any_ k ∧ k ≠ g) vl l
  o : wz.ownsRow (w.heap.size + 1) 3 1 (.slice (some ⟨g, 0, none⟩) out.length out.length) out.length (nums .i64 out)
  b : Below w.heap.size w wz
theorem own_quiet {w w' : World} {base : Nat} {e : TypeId} {size n : Nat} {v : Value} {xs : List Value} (h : w.ownsRow base e size v n xs) (q : Quiet w w') : w'.ownsRow base e size v n xs :=
  own_move h (fun k hk => by
    obtain ⟨cells, hc⟩ := own_typed h k hk
    exact q.block k (Array.getElem?_eq_some_iff.1 hc).1 (fun x => x))
theorem RkLv.quiet {w : World} {cs : Array Value} {b1 g : Nat} {vl : Value} {l out : List Int} {wz wy : World} (h : RkLv w cs b1 g vl l out wz) (q : Quiet wz wy) : RkLv w cs b1 g vl l out wy :=
  ⟨h.x.quiet q, Kd.R_below h.l q.bel, own_quiet h.o q, below_then h.b h.b.size q.bel⟩
theorem RkLv.set {w : World} {cs : Array Value} {b1 g : Nat} {vl : Value} {l out : List Int} {wz : World} (h : RkLv w cs b1 g vl l out wz) (hg : w.heap.size + 1 ≤ g) (i : Nat) (x : Int) : RkLv w cs b1 g vl l (out.set i x) (wz.setCell ⟨g, i, none⟩ (.int .i64 x)) := by
  refine ⟨h.x.set_other (by show g ≠ _; omega) _, Kd.R_far h.l (fun k hk => hk.2) _, ?_, h.b.setCell (by show w.heap.size ≤ g; omega) _⟩
  have q := own_put h.o (i : Int) x
  simp only [Int.toNat_natCast] at q
  rw [List.length_set] at q ⊢
  exact q
def RkOut (w : World) (cs : Array Value) (b1 g : Nat) (vl : Value) (p : Int) (all : List NInfo) (l : List Int) (i : Value) (wz : World) : Prop :=
  ∃ (k : Nat) (out : List Int), k ≤ l.length ∧ i = .int .i64 k ∧ Placed p all l out k ∧ RkLv w cs b1 g vl l out wz
def RkIn (w : World) (cs : Array Value) (b1 g : Nat) (vl : Value) (p : Int) (all : List NInfo) (l out : List Int) (x : Int) (n i : Value) (wz : World) : Prop :=
  ∃ (j m : Nat), j ≤ l.length ∧ i = .int .i64 j ∧ n = .int .i64 m ∧ m + (l.drop j).countP (fun y => aheadF p all y x) = placeF p all l x ∧ RkLv w cs b1 g vl l out wz
set_option maxRecDepth 100000 in
set_option maxHeartbeats 4000000 in
theorem wRRank (w : World) (p : Int) (s : Nat) (hs : s < B64) (cs : Array Value) (of all : List NInfo) (hA : ArrI cs all) (hO : OfAll of all) :
    Calls Tryd.prog 32 #[.int .i64 p, .int .u64 s, .agg cs] w fun e w' => ∃ v, e = .returned v ∧ IntsC w' v (rankF p of s) ∧ Quiet w w' := by
  have HA := Lib.hid hA; have HOf := Lib.hid hO
  have HB : Hid (Blk (w.alloc (.cells cs 52)) w.heap.size cs 52) := Lib.hid (Blk.new _ _ _)
  have HQ0 : Hid (Quiet w (w.alloc (.cells cs 52))) := Lib.hid (by (repeat (first | exact Fr.refl _ _ | assumption | (refine Fr.quiet ?_ (by assumption)) | refine Fr.quiet ?_ HF.out | refine Fr.quiet ?_ HF2.out | refine Fr.drew ?_ | refine Fr.drewN ?_ _ | refine Fr.alloc ?_ _ | refine Fr.setCell ?_ (.inr (by first | omega | (simp; done) | (simp; omega))) _)))
  clear hA hO
  by_cases hp : policyOk p
  case neg =>
    have E : Hid (rankF p of s = []) := Lib.hid (rank_bad p of s hp)
    have hb : (decide (p < 0) = true) ∨ (decide (p < 0) = false ∧ decide (3 < p) = true) := by
      unfold policyOk at hp
      by_cases q : p < 0
      · exact .inl (decide_eq_true q)
      · exact .inr ⟨decide_eq_false q, decide_eq_true (by omega)⟩
    clear hp
    rcases hb with b1 | ⟨b1, b2⟩
    all_goals
      go_enter Tryd.func32, Tryd.ntmps32
      go_wp2
      go_ret
      exact ⟨_, rfl, by rw [E.out]; exact ⟨none, 0, rfl, ⟨rfl, Nat.zero_le _, fun q => absurd q (by simp)⟩, Nat.le_refl _⟩, HQ0.out⟩
  have hb1 : decide (p < 0) = false := decide_eq_false (by unfold policyOk at hp; omega)
  have hb2 : decide (3 < p) = false := decide_eq_false (by unfold policyOk at hp; omega)
  have HP := Lib.hid hp
  clear hp
  have hlen := listB_len s
  have LI : Hid (∀ W, Calls Tryd.prog 36 #[.int .u64 s] W fun e w' => ∃ v, e = .returned v ∧ (Kd.int .i64).R 3 w' W.heap.size (fun _ => True) v (listB s) ∧ Below W.heap.size W w') := Lib.hid (fun W => by
    obtain ⟨k, hk⟩ := (ev_list s hs).rounds
    exact logjamref02_List.calls k (s : Int) _ W hk)
  obtain ⟨l, hl⟩ : ∃ l, l = listB s := ⟨_, rfl⟩
  have HL := Lib.hid hl
  rw [← hl] at LI hlen
  obtain ⟨i0, hi, hz⟩ := Option.map_eq_some_iff.1 info_int
  simp only [Prod.mk.injEq] at hz
  obtain ⟨hz0, hz1, hz2⟩ := hz
  have mk : Hid (∀ W : World, (Instr.makeSlice 22 (.int .i64 (l.length : Int)) (.int .i64 (l.length : Int))).run Tryd.prog W = .ok (.slice (some ⟨W.heap.size, 0, none⟩) l.length l.length) (W.alloc (.cells (madeCells #[.int .i64 0] l.length) 3))) := Lib.hid (fun W => by
    have q := run_make (P := Tryd.prog) W 22 3 i0 _ Tryd.underlying22 hi hz0 .i64 .i64 l.length l.length (by omega) (by omega) (by rw [hz2]; omega) (by omega)
    simp only [hz1, Int.toNat_natCast, Nat.mul_one] at q
    exact q)
  clear hi hz0 hz1 hz2 hl
  go_enter Tryd.func32, Tryd.ntmps32
  go_wp2_with fail
  refine (LI.out _).mono ?_
  rintro e w1 ⟨vl, rfl, hR, hb⟩
  obtain ⟨Al, cl, rfl⟩ := Kd.R_slice hR
  have q1 := Quiet.of hb
  have hmk := mk.out w1
  have HR := Lib.hid (Kd.R_elderB hR w1.heap.size (Nat.le_refl _))
  have hg1 : w.heap.size + 1 ≤ w1.heap.size := by have := q1.size; simp at this; exact this
  have HV : Hid (RkLv w cs (w.alloc (.cells cs 52)).heap.size w1.heap.size (.slice Al l.length cl) l (List.replicate l.length 0) (w1.alloc (.cells (madeCells #[.int .i64 0] l.length) 3))) := Lib.hid (by
    have q2 : Quiet w1 (w1.alloc (.cells (madeCells #[.int .i64 0] l.length) 3)) := (Fr.refl _ _).alloc _
    have q3 := own_made_of' (enc := Value.int .i64) (d := (0 : Int)) w1 (w.heap.size + 1) 3 l.length hg1 (by omega)
    refine ⟨(HB.out.quiet q1).quiet q2, Kd.R_below HR.out q2.bel, ?_, Quiet.bel ((HQ0.out.quiet q1).quiet q2)⟩
    rw [List.length_replicate] at q3 ⊢
    exact q3)
  clear hR hb q1 HR LI mk HB HQ0
  generalize (w.alloc (.cells cs 52)).heap.size = b1 at HV
  go_wp2
  clear hmk
  generalize w1.alloc (.cells (madeCells #[.int .i64 0] l.length) 3) = w2 at HV ⊢
  generalize w1.heap.size = g at *
  go_loopw [9] (fun i wr => RkOut w cs b1 g (.slice Al l.length cl) p all l i wr) (fun i _ => l.length - (intOf i).toNat)
  case atStart => exact ⟨0, _, Nat.zero_le _, rfl, ⟨by simp, fun j hj => by omega⟩, HV.out⟩
  case round =>
    obtain ⟨k, out, hk, rfl, hP, hv⟩ := hrel
    obtain ⟨wo, hwo⟩ : ∃ x, x = wr := ⟨_, rfl⟩
    subst hwo
    have hol := hP.1
    by_cases hlt : k < l.length
    · have hmem := getD_mem 0 l k hlt
      have hpl := rank_place HOf.out p s HP.out (l.getD k 0) (by rw [← HL.out]; exact hmem)
      have hst := placed_step HOf.out p s HP.out out k (by rw [← HL.out]; exact hlt) (by rw [← HL.out]; exact hP)
      have hrx := mem_range s (l.getD k 0) (by rw [← HL.out]; exact hmem)
      rw [← HL.out] at hpl hst
      obtain ⟨hpl1, _⟩ := hpl
      obtain ⟨_, _, hC0⟩ := Kd.R_reads' hv.l
      obtain ⟨al, rfl, _⟩ := at_ints hC0 k hlt
      have HC : Hid (∀ W out, RkLv w cs b1 g (.slice (some al) l.length cl) l out W → ∀ i, i < l.length → W.cell? (al.add i) = some (.int .i64 (l.getD i 0))) := Lib.hid (fun W out h i hi => by
        obtain ⟨_, _, hC⟩ := Kd.R_reads' h.l
        obtain ⟨a2, e2, q⟩ := at_ints hC i hi
        injection e2 with e2
        rw [e2]; exact q)
      have hx : 0 ≤ l.getD k 0 ∧ l.getD k 0 < 64 := by omega
      have HSt := Lib.hid hst; have HPl := Lib.hid hpl1
      generalize hgx : l.getD k 0 = x at *
      have HGX := Lib.hid hgx
      have HV := Lib.hid hv
      have HP2 := Lib.hid hP
      clear hv hmem hrx hst hpl1 hC0 hgx hP
      go_wp2
      go_loopw [10, 11] (fun n i wz => RkIn w cs b1 g (.slice (some al) l.length cl) p all l out x n i wz) (fun _ i _ => l.length - (intOf i).toNat)
      case atStart => exact ⟨0, 0, Nat.zero_le _, rfl, rfl, by simp [placeF], HV.out⟩
      case round =>
        obtain ⟨wz, hwz⟩ : ∃ x, x = wr := ⟨_, rfl⟩
        subst hwz
        obtain ⟨j, m, hj, rfl, rfl, hn, hv⟩ := hrel
        by_cases hlj : j < l.length
        · have hry := mem_range s (l.getD j 0) (by rw [← HL.out]; exact getD_mem 0 l j hlj)
          have hy : 0 ≤ l.getD j 0 ∧ l.getD j 0 < 64 := by omega
          rw [drop_cons 0 l j hlj, List.countP_cons] at hn
          have HS : Hid (∀ W, RkLv w cs b1 g (.slice (some al) l.length cl) l out W → Blk W w.heap.size cs 52 ∧ W.cell? (al.add j) = some (.int .i64 (l.getD j 0)) ∧ W.cell? (al.add k) = some (.int .i64 x)) := Lib.hid (fun W h => ⟨h.x, HC.out W out h j hlj, by rw [← HGX.out]; exact HC.out W out h k hlt⟩)
          have HEQ : Hid (j = k → l.getD j 0 = x) := Lib.hid (fun e => by rw [e, HGX.out])
          have hmb : m ≤ 64 := by
            have q1 : placeF p all l x ≤ l.length := List.countP_le_length
            omega
          generalize l.getD j 0 = y at *
          have HV := Lib.hid hv
          have HN := Lib.hid hn
          have hk0 : (0 : Int) ≤ (k : Int) := by omega
          have hk1 : (k : Int) < (l.length : Int) := by omega
          have hj0 : (0 : Int) ≤ (j : Int) := by omega
          have hj1 : (j : Int) < (l.length : Int) := by omega
          clear hv hry hn
          by_cases hjk : j = k
          · have bjk : ((j : Int) != (k : Int)) = false := by rw [bne_eq_false_iff_eq]; omega
            have HN2 : Hid (m + (l.drop (j + 1)).countP (fun y => aheadF p all y x) = placeF p all l x) := Lib.hid (by
              have q := HN.out
              rw [HEQ.out hjk, ahead_irr, if_neg (by simp), Nat.add_zero] at q
              exact q)
            clear hjk
            go_wp2_with fail
            go_quiet (fail)
            go_wp2
            go_roundw
            case rel => exact ⟨j + 1, m, by omega, by go_num, rfl, HN2.out, HV.out.quiet ((Fr.refl _ _).drewN _)⟩
            case measure => simp [intOf]; omega
          · have bjk : ((j : Int) != (k : Int)) = true := by rw [bne_iff_ne]; omega
            have HJ := Lib.hid (HS.out _ HV.out)
            clear hjk HEQ
            go_wp2_with fail
            have Hn := Lib.hid (HV.out.quiet (Fr.drew (Fr.refl _ wz)))
            clear HV HJ
            have HV := Hn
            clear Hn
            have HJ := Lib.hid (HS.out _ HV.out)
            refine start_ (n := 16) (S := fun w' => Blk w' w.heap.size cs 52 ∧ w'.cell? (al.add j) = some (.int .i64 y) ∧ w'.cell? (al.add k) = some (.int .i64 x)) (ds := []) #[false, false, false, false, false, false, false, false, false, false, false, false, false, false, false, false] (by kernel_rfl) rfl rfl ⟨HJ.out.1, HJ.out.2.1, HJ.out.2.2⟩ (fun hHeld => ?_)
            generalize wz.drew = wA at HV HJ hHeld ⊢
            refine pure_ (i := 0) (N := some 35) (v := ?_) (a' := ?_) #[true, false, false, false, false, false, false, false, false, false, false, false, false, false, false, false] rfl rfl (by kernel_rfl) (fun _ _ _ h => h) (Or.inl ⟨by rfl, ?_⟩) ?_ ?_
            rotate_left
            · intro w'
              go_simp
              with_reducible rfl
            rotate_left
            · simp only [Act.put, List.setIfInBounds_toArray, List.set_cons_zero, List.set_cons_succ, i64_w, i32_w]
              rfl
            refine pure_ (i := 1) (N := some 36) (v := ?_) (a' := ?_) #[true, true, false, false, false, false, false, false, false, false, false, false, false, false, false, false] rfl rfl (by kernel_rfl) (fun _ _ _ h => h) (Or.inl ⟨by rfl, ?_⟩) ?_ ?_
            rotate_left
            · intro w'
              go_simp
              with_reducible rfl
            rotate_left
            · simp only [Act.put, List.setIfInBounds_toArray, List.set_cons_zero, List.set_cons_succ, i64_w, i32_w]
              rfl
            refine pure_ (i := 2) (N := some 37) (v := ?_) (a' := ?_) #[true, true, true, false, false, false, false, false, false, false, false, false, false, false, false, false] rfl rfl (by kernel_rfl) (fun _ _ _ h => h) (Or.inl ⟨by rfl, ?_⟩) ?_ ?_
            rotate_left
            · intro w'
              go_simp
              with_reducible rfl
            rotate_left
            · simp only [Act.put, List.setIfInBounds_toArray, List.set_cons_zero, List.set_cons_succ, i64_w, i32_w]
              rfl
            refine pure_ (i := 3) (N := some 38) (v := ?_) (a' := ?_) #[true, true, true, true, false, false, false, false, false, false, false, false, false, false, false, false] rfl rfl (by kernel_rfl) (fun _ _ _ h => h) (Or.inl ⟨by rfl, ?_⟩) ?_ ?_
            rotate_left
            · intro w'
              go_simp
              with_reducible rfl
            rotate_left
            · simp only [Act.put, List.setIfInBounds_toArray, List.set_cons_zero, List.set_cons_succ, i64_w, i32_w]
              rfl
            refine pure_ (i := 4) (N := some 39) (v := ?_) (a' := ?_) #[true, true, true, true, true, false, false, false, false, false, false, false, false, false, false, false] rfl rfl (by kernel_rfl) (fun _ _ _ h => h) (Or.inl ⟨by rfl, ?_⟩) ?_ ?_
            rotate_left
            · intro w'
              go_simp
              with_reducible rfl
            rotate_left
            · simp only [Act.put, List.setIfInBounds_toArray, List.set_cons_zero, List.set_cons_succ, i64_w, i32_w]
              rfl
            refine pure_ (i := 5) (N := some 40) (v := ?_) (a' := ?_) #[true, true, true, true, true, true, false, false, false, false, false, false, false, false, false, false] rfl rfl (by kernel_rfl) (fun _ _ _ h => h) (Or.inl ⟨by rfl, ?_⟩) ?_ ?_
            rotate_left
            · intro w'
              go_simp
              with_reducible rfl
            rotate_left
            · simp only [Act.put, List.setIfInBounds_toArray, List.set_cons_zero, List.set_cons_succ, i64_w, i32_w]
              rfl
            refine pure_ (i := 6) (N := some 41) (v := ?_) (a' := ?_) #[true, true, true, true, true, true, true, false, false, false, false, false, false, false, false, false] rfl rfl (by kernel_rfl) (fun _ _ _ h => h) (Or.inl ⟨by rfl, ?_⟩) ?_ ?_
            rotate_left
            · intro w'
              go_simp
              with_reducible rfl
            rotate_left
            · simp only [Act.put, List.setIfInBounds_toArray, List.set_cons_zero, List.set_cons_succ, i64_w, i32_w]
              rfl
            refine pure_ (i := 7) (N := some 42) (v := ?_) (a' := ?_) #[true, true, true, true, true, true, true, true, false, false, false, false, false, false, false, false] rfl rfl (by kernel_rfl) (fun _ _ _ h => h) (Or.inl ⟨by rfl, ?_⟩) ?_ ?_
            rotate_left
            · intro w'
              go_simp
              with_reducible rfl
            rotate_left
            · simp only [Act.put, List.setIfInBounds_toArray, List.set_cons_zero, List.set_cons_succ, i64_w, i32_w]
              rfl
            refine pure_ (i := 9) (N := some 44) (v := ?_) (a' := ?_) #[true, true, true, true, true, true, true, true, false, true, false, false, false, false, false, false] rfl rfl (by kernel_rfl) (fun _ _ _ h => h) (Or.inl ⟨by rfl, ?_⟩) ?_ ?_
            rotate_left
            · intro w'
              go_simp
              with_reducible rfl
            rotate_left
            · simp only [Act.put, List.setIfInBounds_toArray, List.set_cons_zero, List.set_cons_succ, i64_w, i32_w]
              rfl
            refine pure_ (i := 10) (N := some 45) (v := ?_) (a' := ?_) #[true, true, true, true, true, true, true, true, false, true, true, false, false, false, false, false] rfl rfl (by kernel_rfl) (fun _ _ _ h => h) (Or.inl ⟨by rfl, ?_⟩) ?_ ?_
            rotate_left
            · intro w'
              go_simp
              with_reducible rfl
            rotate_left
            · simp only [Act.put, List.setIfInBounds_toArray, List.set_cons_zero, List.set_cons_succ, i64_w, i32_w]
              rfl
            refine pure_ (i := 11) (N := some 46) (v := ?_) (a' := ?_) #[true, true, true, true, true, true, true, true, false, true, true, true, false, false, false, false] rfl rfl (by kernel_rfl) (fun _ _ _ h => h) (Or.inl ⟨by rfl, ?_⟩) ?_ ?_
            rotate_left
            · intro w'
              go_simp
              with_reducible rfl
            rotate_left
            · simp only [Act.put, List.setIfInBounds_toArray, List.set_cons_zero, List.set_cons_succ, i64_w, i32_w]
              rfl
            refine take_ (i := 8) (N := some 43) (v := ?_) (a' := ?_) #[true, true, true, true, true, true, true, true, true, true, true, true, false, false, false, false] rfl rfl (by kernel_rfl) (fun _ _ _ h => h) (Or.inl ⟨by rfl, ?_⟩) hHeld ?_ ?_
            rotate_left
            · rintro w' ⟨s0, s1, s2⟩
              go_simp
              with_reducible rfl
            rotate_left
            · simp only [Act.put, List.setIfInBounds_toArray, List.set_cons_zero, List.set_cons_succ, i64_w, i32_w]
              rfl
            refine take_ (i := 12) (N := some 47) (v := ?_) (a' := ?_) #[true, true, true, true, true, true, true, true, true, true, true, true, true, false, false, false] rfl rfl (by kernel_rfl) (fun _ _ _ h => h) (Or.inl ⟨by rfl, ?_⟩) hHeld ?_ ?_
            rotate_left
            · rintro w' ⟨s0, s1, s2⟩
              go_simp
              with_reducible rfl
            rotate_left
            · simp only [Act.put, List.setIfInBounds_toArray, List.set_cons_zero, List.set_cons_succ, i64_w, i32_w]
              rfl
            refine take_ (i := 13) (N := some 48) (v := ?_) (a' := ?_) #[true, true, true, true, true, true, true, true, true, true, true, true, true, true, false, false] rfl rfl (by kernel_rfl) (fun _ _ _ h => h) (Or.inl ⟨by rfl, ?_⟩) hHeld ?_ ?_
            rotate_left
            · rintro w' ⟨s0, s1, s2⟩
              refine Eq.trans (load_agg (by rfl) (by rfl) s0 Tryd.underlying52 rfl (by rw [HA.out.sz]; kernel_rfl)) ?_
              with_reducible rfl
            rotate_left
            · simp only [Act.put, List.setIfInBounds_toArray, List.set_cons_zero, List.set_cons_succ, i64_w, i32_w]
              rfl
            refine one_ (i := 14) (N := some 49) #[true, true, true, true, true, true, true, true, true, true, true, true, true, true, true, false] rfl rfl (by kernel_rfl) (by decide) (fun K hK => ?_)
            refine goes_ Tryd.func79 (by kernel_rfl) rfl #[.int .i64 p, .int .i64 y, .int .i64 x, .agg cs] (by rfl) rfl rfl (by simp only [List.map_toArray, List.map_cons, List.map_nil]; rfl) ?_
            with_reducible refine (wAhead _ p y x hy hx cs all HA.out).mono ?_
            rintro e w9 ⟨rfl, hq⟩
            refine ⟨_, rfl, ?_⟩
            have Hn := Lib.hid (HV.out.quiet hq)
            clear HV hq HJ
            have HV := Hn
            clear Hn
            have HJ := Lib.hid (HS.out _ HV.out)
            refine hK.out _ _ ⟨HJ.out.1, HJ.out.2.1, HJ.out.2.2⟩ (fun hHeld => ?_)
            clear hK K
            refine norm_ (a' := ?_) ?_ ?_
            rotate_left
            · show Act.put _ (some 49) _ = _
              simp only [Act.put, List.setIfInBounds_toArray, List.set_cons_zero, List.set_cons_succ, i64_w, i32_w]
              rfl
            refine pure_ (i := 15) (N := some 50) (v := ?_) (a' := ?_) #[true, true, true, true, true, true, true, true, true, true, true, true, true, true, true, true] rfl rfl (by kernel_rfl) (fun _ _ _ h => h) (Or.inl ⟨by rfl, ?_⟩) ?_ ?_
            rotate_left
            · intro w'
              go_simp
              with_reducible rfl
            rotate_left
            · simp only [Act.put, List.setIfInBounds_toArray, List.set_cons_zero, List.set_cons_succ, i64_w, i32_w]
              rfl
            refine done_ (by kernel_rfl) ?_
            cases hah : aheadF p all y x
            · have HN2 : Hid (m + (l.drop (j + 1)).countP (fun y => aheadF p all y x) = placeF p all l x) := Lib.hid (by
                have q := HN.out
                rw [hah, if_neg (by simp), Nat.add_zero] at q
                exact q)
              clear hah
              go_wp2
              go_roundw
              case rel => exact ⟨j + 1, m, by omega, by go_num, rfl, HN2.out, HV.out⟩
              case measure => simp [intOf]; omega
            · have HN2 : Hid (m + 1 + (l.drop (j + 1)).countP (fun y => aheadF p all y x) = placeF p all l x) := Lib.hid (by
                have q := HN.out
                rw [hah, if_pos rfl] at q
                omega)
              clear hah
              go_wp2
              go_roundw
              case rel => exact ⟨j + 1, m + 1, by omega, by go_num, by go_num, HN2.out, HV.out⟩
              case measure => simp [intOf]; omega
        · have hm : m = placeF p all l x := by rw [← hn, List.drop_of_length_le (by omega)]; simp
          subst hm
          have hpl2 := HPl.out
          have g1 := HC.out _ _ hv k hlt
          rw [HGX.out] at g1
          obtain ⟨g2, g3⟩ := own_at hv.o ((placeF p all l x : Nat) : Int) (by omega) (by omega)
          simp only [Int.toNat_natCast] at g2 g3
          have hgk : w.heap.size + 1 ≤ g := own_base hv.o g (by simp [Value.ownBlock])
          have HV2 := Lib.hid (RkLv.set hv hgk (placeF p all l x) x)
          have hb0 : ((placeF p all l x : Nat) : Int) < (out.length : Int) := by omega
          clear hv hn
          generalize placeF p all l x = m at *
          go_wp2
          go_roundw
          case rel => exact ⟨k + 1, out.set m x, by omega, by go_num, HSt.out, by simpa using HV2.out⟩
          case measure => simp [intOf]; omega
    · have e0 : k = (listB s).length := by rw [← HL.out]; omega
      have hP' : Placed p all (listB s) out (listB s).length := by rw [← e0, ← HL.out]; exact hP
      have hd := placed_done HOf.out p s HP.out out hP'
      clear hP' e0
      have HD := Lib.hid hd
      have hol2 : ∀ n, n = out.length → wo.ownsRow (w.heap.size + 1) 3 1 (.slice (some ⟨g, 0, none⟩) n n) out.length (nums .i64 out) := by rintro n rfl; exact hv.o
      have HO := Lib.hid (hol2 l.length hP.1.symm)
      have HV := Lib.hid hv
      clear hd hv hP hol2
      go_wp2
      go_ret
      exact ⟨_, rfl, by rw [← HD.out]; exact IntsC.of_own HO.out, Quiet.of HV.out.b⟩
end Go.Proofs.YtadepdeckapgcaaDoor
end

section
namespace Go.Proofs.YtadepdeckapgcaaDoor
open Go.RowKit Go.Proofs.YtadepdeckapgcaaDoorW.PrintWords Go.Proofs.YtadepdeckapgcaaDoorW.PrintLast Go.Proofs.YtadepdeckapgcaaDoorW.PrintMore PWitnessTells
set_option linter.unusedSimpArgs false
set_option linter.unusedVariables false
section
variable {P : Program}
theorem wp_load_agg {o : Oper} {a : Act} {w : World} {ty t : TypeId} {x : Operand} {b : Nat} {cs : Array Value} {d : TypeDesc} {K : Act → World → Prop} {Q : Exit → Act → World → Prop} (h : Blk w b cs t) (ho : o.op = .load ty x) (hx : a.eval x = .pointer (some ⟨b, 0, none⟩))
    (hu : P.underlying ty = some d) (hd : (match d with | .struct _ | .array _ _ => true | _ => false) = true) (hi : (P.info? ty).map (·.size) = some cs.size) (hk : K (a.put o.dst (.agg cs)) w) : o.wp P a w K Q := by
  unfold Oper.wp
  rw [load_agg ho hx h hu hd hi]
  exact hk
end
set_option maxRecDepth 100000 in
set_option maxHeartbeats 1000000 in
theorem wRPick (w : World) (policy : Int) (s : Nat) (hs : s < B64) (cs : Array Value) (of all : List NInfo) (hA : ArrI cs all) (hO : OfAll of all) (draw : Int) (hd : -9223372036854775808 ≤ draw ∧ draw ≤ 9223372036854775807) :
    Calls Tryd.prog 34 #[.int .i64 policy, .int .u64 s, .agg cs, .int .i64 draw] w fun e w' => e = .returned (.int .i64 (pickF policy of s draw)) ∧ Quiet w w' := by
  obtain ⟨W1, hW1⟩ : ∃ W, W = w.alloc (.cells cs 52) := ⟨_, rfl⟩
  have HQ0 : Hid (Quiet w W1) := Lib.hid (by rw [hW1]; exact (Fr.refl _ _).alloc _)
  have HB : Hid (Blk W1 w.heap.size cs 52) := Lib.hid (by rw [hW1]; exact Blk.new _ _ _)
  have HZ : Hid ((Tryd.prog.info? 52).map (·.size) = some cs.size) := Lib.hid (by rw [hA.sz]; kernel_rfl)
  have RK := Lib.hid (wRRank W1 policy s hs cs of all hA hO)
  have hle := rank_le policy of s
  obtain ⟨hd1, hd2⟩ := hd
  have EP : Hid (pickF policy of s draw = if (rankF policy of s).length = 0 then -1 else if policy = 3 then (rankF policy of s).getD ((drawI draw) % ((rankF policy of s).length : Int)).toNat 0 else (rankF policy of s).getD 0 0) := Lib.hid rfl
  generalize rankF policy of s = l at *
  clear hA hO
  go_enter Tryd.func34, Tryd.ntmps34
  go_wp2_with fail
  rw [← hW1]
  clear hW1
  refine wp_load_agg HB.out rfl rfl Tryd.underlying52 rfl HZ.out ?_
  go_wp2_with fail
  refine RK.out.mono ?_
  rintro e w1 ⟨v, rfl, ⟨Al, cl, rfl, hL, hcl⟩, q1⟩
  have HQ := Lib.hid (HQ0.out.quiet q1)
  clear q1
  by_cases h0 : l.length = 0
  · have h0' := List.length_eq_zero_iff.1 h0
    subst h0'
    rw [if_pos h0] at EP
    clear h0
    clear hL
    go_wp2
    go_ret
    rw [EP.out]; exact ⟨rfl, HQ.out⟩
  rw [if_neg h0] at EP
  have hn0 : ((l.length : Int) == 0) = false := by rw [beq_eq_false_iff_ne]; omega
  by_cases p3 : policy = 3
  · rw [if_pos p3] at EP
    have b3 : (policy == 3) = true := by simpa using p3
    clear p3
    by_cases hneg : draw < 0
    · have EX : Hid (drawI draw = -1 - draw) := Lib.hid (if_pos hneg)
      rw [EX.out] at EP
      have hm1 : 0 ≤ (-1 - draw) % (l.length : Int) := Int.emod_nonneg _ (by omega)
      have hm2 : (-1 - draw) % (l.length : Int) < (l.length : Int) := Int.emod_lt_of_pos _ (by omega)
      have bn : decide (draw < 0) = true := decide_eq_true hneg
      have hx0 : 0 ≤ -1 - draw := by omega
      obtain ⟨ad, rfl, g⟩ := at_ints hL ((-1 - draw) % (l.length : Int)).toNat (by omega)
      generalize l.getD ((-1 - draw) % (l.length : Int)).toNat 0 = x at g EP
      clear hL
      go_wp2
      go_ret
      rw [EP.out]; exact ⟨rfl, HQ.out⟩
    · have EX : Hid (drawI draw = draw) := Lib.hid (if_neg hneg)
      rw [EX.out] at EP
      have hm1 : 0 ≤ draw % (l.length : Int) := Int.emod_nonneg _ (by omega)
      have hm2 : draw % (l.length : Int) < (l.length : Int) := Int.emod_lt_of_pos _ (by omega)
      have bn : decide (draw < 0) = false := decide_eq_false hneg
      have hx0 : 0 ≤ draw := by omega
      obtain ⟨ad, rfl, g⟩ := at_ints hL (draw % (l.length : Int)).toNat (by omega)
      generalize l.getD (draw % (l.length : Int)).toNat 0 = x at g EP
      clear hL
      go_wp2
      go_ret
      rw [EP.out]; exact ⟨rfl, HQ.out⟩
  · rw [if_neg p3] at EP
    have b3 : (policy == 3) = false := by simpa using p3
    clear p3
    have hp1 : (0 : Int) < (l.length : Int) := by omega
    obtain ⟨ad, rfl, g⟩ := at_ints hL 0 (by omega)
    have g' : w1.cell? ad = some (.int .i64 (l.getD 0 0)) := g
    clear hL g
    generalize l.getD 0 0 = x at g' EP
    by_cases hneg : draw < 0
    · have bn : decide (draw < 0) = true := decide_eq_true hneg
      go_wp2
      go_ret
      rw [EP.out]; exact ⟨rfl, HQ.out⟩
    · have bn : decide (draw < 0) = false := decide_eq_false hneg
      go_wp2
      go_ret
      rw [EP.out]; exact ⟨rfl, HQ.out⟩
end Go.Proofs.YtadepdeckapgcaaDoor
end

section
namespace Go.Proofs.YtadepdeckapgcaaDoor
open Go.RowKit Go.Proofs.YtadepdeckapgcaaDoorW.PrintWords Go.Proofs.YtadepdeckapgcaaDoorW.PrintLast Go.Proofs.YtadepdeckapgcaaDoorW.PrintMore PWitnessTells
set_option linter.unusedSimpArgs false
set_option linter.unusedVariables false
def padF (xs : List NInfo) (k : Nat) : List NInfo := (List.range 64).map fun i => if i < k then xs.getD i z108 else ⟨0, 0⟩
theorem pad_len (xs : List NInfo) (k : Nat) : (padF xs k).length = 64 := by simp [padF]
theorem pad_at (xs : List NInfo) (k i : Nat) (h : i < 64) : (padF xs k).getD i z108 = if i < k then xs.getD i z108 else ⟨0, 0⟩ := by
  unfold padF
  rw [List.getD_eq_getElem?_getD, List.getElem?_map, List.getElem?_range h]
  rfl
theorem arr_zero (xs : List NInfo) : ArrI (Array.replicate 128 (.int .i64 0)) (padF xs 0) where
  sz := by simp
  len := pad_len xs 0
  fst := fun i h => by rw [pad_at xs 0 i h, if_neg (by omega), Array.getElem?_replicate, if_pos (by omega)]
  snd := fun i h => by rw [pad_at xs 0 i h, if_neg (by omega), Array.getElem?_replicate, if_pos (by omega)]
theorem arr_step {cs : Array Value} {xs : List NInfo} {k : Nat} (h : ArrI cs (padF xs k)) (hk : k < 64) :
    ArrI ((cs.setIfInBounds (k * 2) (.int .i64 (xs.getD k z108).f0)).setIfInBounds (k * 2 + 1) (.int .i64 (xs.getD k z108).f1)) (padF xs (k + 1)) where
  sz := by simp [h.sz]
  len := pad_len xs (k + 1)
  fst := fun i hi => by
    have hz := h.sz
    rw [pad_at xs (k + 1) i hi, Array.getElem?_setIfInBounds_ne (by omega)]
    by_cases e : i = k
    · subst e
      rw [if_pos (by omega), Array.getElem?_setIfInBounds_self_of_lt (by omega)]
    · rw [Array.getElem?_setIfInBounds_ne (by omega), h.fst i hi, pad_at xs k i hi]
      by_cases q : i < k
      · rw [if_pos q, if_pos (by omega)]
      · rw [if_neg q, if_neg (by omega)]
  snd := fun i hi => by
    have hz := h.sz
    rw [pad_at xs (k + 1) i hi]
    by_cases e : i = k
    · subst e
      rw [if_pos (by omega), Array.getElem?_setIfInBounds_self_of_lt (by rw [Array.size_setIfInBounds]; omega)]
    · rw [Array.getElem?_setIfInBounds_ne (by omega), Array.getElem?_setIfInBounds_ne (by omega), h.snd i hi, pad_at xs k i hi]
      by_cases q : i < k
      · rw [if_pos q, if_pos (by omega)]
      · rw [if_neg q, if_neg (by omega)]
theorem pad_all (xs : List NInfo) (k : Nat) (h1 : k ≤ xs.length) (h2 : k ≤ 64) : OfAll (xs.take k) (padF xs k) where
  le := by rw [List.length_take]; omega
  len := pad_len xs k
  old := fun i hi => by
    rw [List.length_take] at hi
    rw [pad_at xs k i (by omega), if_pos (by omega), List.getD_eq_getElem?_getD, List.getD_eq_getElem?_getD, List.getElem?_take, if_pos (by omega)]
  new := fun i hi h => by
    rw [List.length_take] at hi
    rw [pad_at xs k i h, if_neg (by omega)]
structure VpSt (w : World) (told cs : Array Value) (v : Value) (of : List NInfo) (wz : World) : Prop where
  x : Blk wz w.heap.size told 48
  y : Blk wz (w.heap.size + 1 + 1) cs 52
  o : kInfo.R 53 wz w.heap.size Any_ v of
  b : Below w.heap.size w wz
theorem VpSt.quiet {w : World} {told cs : Array Value} {v : Value} {of : List NInfo} {wz wy : World} (h : VpSt w told cs v of wz) (q : Quiet wz wy) : VpSt w told cs v of wy :=
  ⟨h.x.quiet q, h.y.quiet q, Kd.R_below h.o q.bel, below_then h.b h.b.size q.bel⟩
theorem zeros52 : Tryd.zeroCells52 = Array.replicate 128 (.int .i64 0) := by kernel_rfl
theorem VpSt.start (w : World) (told : Array Value) : VpSt w told Tryd.zeroCells52 (.slice (some ⟨w.heap.size + 1, 0, none⟩) 0 0) []
    (((w.alloc (.cells told 48)).alloc (.cells #[] 53)).alloc (.cells Tryd.zeroCells52 52)) := by
  have q1 : (w.alloc (.cells told 48)).heap.size = w.heap.size + 1 := by simp
  have q2 : ((w.alloc (.cells told 48)).alloc (.cells #[] 53)).heap.size = w.heap.size + 1 + 1 := by simp
  have o := OwnRow.lit (R := kInfo.M (w.alloc (.cells told 48)) w.heap.size Any_) (e := 53) (size := kInfo.sz) (ps := []) (w.alloc (.cells told 48)) w.heap.size (inner := []) (Reps.none _ _) (by omega) (by decide)
  rw [q1] at o
  have y := Blk.new ((w.alloc (.cells told 48)).alloc (.cells #[] 53)) Tryd.zeroCells52 52
  rw [q2] at y
  refine ⟨((Blk.new w told 48).alloc _).alloc _, y, Kd.R_alloc ⟨fun _ _ => trivial, ?_⟩ _, (((Below.refl _ w).alloc (Nat.le_refl _) _).alloc (by omega) _).alloc (by omega) _⟩
  obtain ⟨inner, ho, hr⟩ := o
  exact ⟨inner, ho, hr.1, fun j p hj => by simp at hj⟩
theorem VpSt.grow {w : World} {told cs : Array Value} {v v1 : Value} {of of1 : List NInfo} {wz wy : World} (h : VpSt w told cs v of wz) (hg : wz.grownBy wy v.ownBlock) (ho : kInfo.R 53 wy w.heap.size Any_ v1 of1) : VpSt w told cs v1 of1 wy := by
  obtain ⟨inner, own⟩ := Kd.R_own h.o
  exact ⟨grown_blk hg h.x (own_not_blk h.x own (by decide)), grown_blk hg h.y (own_not_blk h.y own (by decide)), ho, h.b.grown hg h.b.size (fun k hk => own_base own k hk)⟩
def VpRel (w : World) (told : Array Value) (xs : List NInfo) (v i : Value) (wz : World) : Prop :=
  ∃ (k : Nat) (cs : Array Value), k ≤ xs.length ∧ k ≤ 64 ∧ i = .int .i64 k ∧ ArrI cs (padF xs k) ∧ VpSt w told cs v (xs.take k) wz
theorem VpSt.put {w : World} {told cs : Array Value} {v : Value} {of : List NInfo} {wz : World} (h : VpSt w told cs v of wz) (i : Nat) (u : Value) : VpSt w told (cs.setIfInBounds i u) v of (wz.setCell ⟨w.heap.size + 1 + 1, i, none⟩ u) :=
  ⟨h.x.set_other (by show w.heap.size + 1 + 1 ≠ _; omega) _, h.y.set i u, Kd.R_set h.o h.y (by decide) i u, h.b.setCell (by show w.heap.size ≤ w.heap.size + 1 + 1; omega) _⟩
structure VpD (w : World) (tv : Value) (draw : Int) (cs : Array Value) (Ao : Option Addr) (of : List NInfo) (wz : World) : Prop where
  x : Blk wz w.heap.size #[tv, .int .i64 draw] 48
  y : Blk wz (w.heap.size + 1 + 1) cs 52
  c : kInfo.C wz Ao of.length of
  t : Tb wz
  q : Quiet w wz
theorem VpD.quiet {w : World} {tv : Value} {draw : Int} {cs : Array Value} {Ao : Option Addr} {of : List NInfo} {wz wy : World} (h : VpD w tv draw cs Ao of wz) (q : Quiet wz wy) : VpD w tv draw cs Ao of wy :=
  ⟨h.x.quiet q, h.y.quiet q, Kd.C_below h.c q.bel, h.t.quiet q, h.q.quiet q⟩
def VpLp (w : World) (tv : Value) (draw : Int) (cs : Array Value) (Ao : Option Addr) (of : List NInfo) (A5 : Option Addr) (c5 : Nat) (A6 : Option Addr) (c6 : Nat) (l : List Int) (i : Value) (wz : World) : Prop :=
  ∃ k : Nat, k ≤ l.length ∧ i = .int .i64 k ∧ VpD w tv draw cs Ao of wz ∧ IntsC wz (.slice A5 l.length c5) l ∧ IntsC wz (.slice A6 l.length c6) l
theorem infoInfo : (Tryd.prog.info? 53).map (fun i => (i.zero, i.size, i.bytes)) = some (some (.agg #[.int .i64 0, .int .i64 0]), 2, 16) := by kernel_rfl
set_option maxRecDepth 100000 in
set_option maxHeartbeats 400000 in
theorem victimPicksCore (w : World) (hT : Tb w) (p : Int) (s : Nat) (hs : s < B64) (A : Option Addr) (c : Nat) (xs : List NInfo) (hC : kInfo.C w A xs.length xs) (draw : Int) (hd : -9223372036854775808 ≤ draw ∧ draw ≤ 9223372036854775807) :
    Calls Tryd.prog 6 #[.int .i64 p, .int .u64 s, .agg #[.slice A xs.length c, .int .i64 draw]] w fun e w' => e = .returned (.bool true) ∧ Quiet w w' := by
  have HT := Lib.hid hT; have HC := Lib.hid hC
  clear hT hC
  have HS : Hid (VpSt w #[.slice A xs.length c, .int .i64 draw] Tryd.zeroCells52 (.slice (some ⟨w.heap.size + 1, 0, none⟩) 0 0) [] (((w.alloc (.cells #[.slice A xs.length c, .int .i64 draw] 48)).alloc (.cells #[] 53)).alloc (.cells Tryd.zeroCells52 52))) := Lib.hid (VpSt.start w _)
  have hst : (storeCells ⟨w.heap.size + 1 + 1, 0, none⟩ Tryd.zeroCells52.toList).run Tryd.prog (((w.alloc (.cells #[.slice A xs.length c, .int .i64 draw] 48)).alloc (.cells #[] 53)).alloc (.cells Tryd.zeroCells52 52)) = .ok () (((w.alloc (.cells #[.slice A xs.length c, .int .i64 draw] 48)).alloc (.cells #[] 53)).alloc (.cells Tryd.zeroCells52 52)) := by
    have q := run_storeCells_new (P := Tryd.prog) ((w.alloc (.cells #[.slice A xs.length c, .int .i64 draw] 48)).alloc (.cells #[] 53)) 52 Tryd.zeroCells52 Tryd.zeroCells52 (by kernel_rfl) rfl (by kernel_rfl)
    rw [show ((w.alloc (.cells #[.slice A xs.length c, .int .i64 draw] 48)).alloc (.cells #[] 53)).heap.size = w.heap.size + 1 + 1 by simp] at q
    exact q
  go_enter Tryd.func6, Tryd.ntmps6
  go_wp2
  clear hst
  generalize ((w.alloc (.cells #[.slice A xs.length c, .int .i64 draw] 48)).alloc (.cells #[] 53)).alloc (.cells Tryd.zeroCells52 52) = w2 at HS ⊢
  go_loopw [7, 9] (fun v i wr => VpRel w #[.slice A xs.length c, .int .i64 draw] xs v i wr) (fun _ i _ => xs.length - (intOf i).toNat)
  case atStart => exact ⟨0, _, by omega, by omega, rfl, by rw [zeros52]; exact arr_zero xs, HS.out⟩
  case round =>
    obtain ⟨wo, hwo⟩ : ∃ x, x = wr := ⟨_, rfl⟩
    subst hwo
    obtain ⟨k, cs, hk, hk2, rfl, hA, hv⟩ := hrel
    by_cases hlt : k < xs.length ∧ k < 64
    · obtain ⟨hlt1, hlt2⟩ := hlt
      have HCe : Hid (∀ W, Below w.heap.size w W → ∃ al, A = some al ∧ W.cell? (al.add (k * 2)) = some (.int .i64 (xs.getD k z108).f0) ∧ W.cell? ⟨(al.add (k * 2)).block, (al.add (k * 2)).off + 1, none⟩ = some (.int .i64 (xs.getD k z108).f1)) := Lib.hid (fun W hb => by
        have q := at_T108 (Kd.C_below HC.out hb) (k : Int) (by omega) (by omega)
        simp only [Int.toNat_natCast] at q
        exact q)
      obtain ⟨al, rfl, g1, g2⟩ := HCe.out wo hv.b
      have hA2 := arr_step hA hlt2
      have e1 := hv.y.cell (k * 2)
      rw [hA.fst k hlt2] at e1
      have f1 := hv.y.free (k * 2)
      have hv1 := hv.put (k * 2) (.int .i64 (xs.getD k z108).f0)
      have e2 := hv1.y.cell (k * 2 + 1)
      rw [Array.getElem?_setIfInBounds_ne (by omega), hA.snd k hlt2] at e2
      have f2 := hv1.y.free (k * 2 + 1)
      have hv2 := hv1.put (k * 2 + 1) (.int .i64 (xs.getD k z108).f1)
      have c0 := hv.x.cell 0
      simp at c0
      generalize hgx : xs.getD k z108 = x at *
      have HX := Lib.hid hgx
      clear hgx
      generalize (padF xs k).getD k z108 = y at *
      obtain ⟨x0, x1⟩ := x
      obtain ⟨y0, y1⟩ := y
      dsimp only at hA2 hv2 g1 g2 e1 e2 hv1 HCe f2
      have HA2 := Lib.hid hA2
      have HV := Lib.hid hv2
      clear hv hv1 hv2 hA hA2
      go_upto_region 6 with fail
      generalize (wo.setCell ⟨w.heap.size + 1 + 1, k * 2, none⟩ (.int .i64 x0)).setCell ⟨w.heap.size + 1 + 1, k * 2 + 1, none⟩ (.int .i64 x1) = wz at HV ⊢
      have HS3 : Hid (∀ W v of, VpSt w #[.slice (some al) xs.length c, .int .i64 draw] ((cs.setIfInBounds (k * 2) (.int .i64 x0)).setIfInBounds (k * 2 + 1) (.int .i64 x1)) v of W → W.cell? ⟨w.heap.size, 0, none⟩ = some (.slice (some al) xs.length c) ∧ W.cell? (al.add (k * 2)) = some (.int .i64 x0) ∧ W.cell? ⟨(al.add (k * 2)).block, (al.add (k * 2)).off + 1, none⟩ = some (.int .i64 x1)) := Lib.hid (fun W v of h => by
        obtain ⟨al2, e, q1, q2⟩ := HCe.out W h.b
        injection e with e
        subst e
        have c0 := h.x.cell 0
        simp at c0
        exact ⟨c0, q1, q2⟩)
      clear g1 g2 e1 e2 f1 f2 c0
      have TK : Hid (xs.take (k + 1) = xs.take k ++ [⟨x0, x1⟩]) := Lib.hid (by rw [List.take_add_one, List.getElem?_eq_getElem hlt1]; simp [← HX.out, hlt1])
      have hlen : (xs.take k).length = k := by rw [List.length_take]; omega
      generalize (cs.setIfInBounds (k * 2) (.int .i64 x0)).setIfInBounds (k * 2 + 1) (.int .i64 x1) = cs2 at *
      generalize xs.take k = of at HV TK hlen
      have hk0 : (0 : Int) ≤ (k : Int) := by omega
      have hk1 : (k : Int) < (xs.length : Int) := by omega
      have HJ := Lib.hid (HS3.out _ _ _ HV.out)
      have Hn := Lib.hid (HV.out.quiet (Fr.drew (Fr.refl _ wz)))
      clear HV HJ
      have HV := Hn
      clear Hn
      have HJ := Lib.hid (HS3.out _ _ _ HV.out)
      refine start_ (n := 17) (S := fun w' => w'.cell? ⟨w.heap.size, 0, none⟩ = some (.slice (some al) xs.length c) ∧ w'.cell? (al.add (k * 2)) = some (.int .i64 x0) ∧ w'.cell? ⟨(al.add (k * 2)).block, (al.add (k * 2)).off + 1, none⟩ = some (.int .i64 x1)) (ds := []) #[false, false, false, false, false, false, false, false, false, false, false, false, false, false, false, false, false] (by kernel_rfl) rfl rfl ⟨HJ.out.1, HJ.out.2.1, HJ.out.2.2⟩ (fun hHeld => ?_)
      generalize wz.drew = wA at HV HJ hHeld ⊢
      refine pure_ (i := 0) (N := some 33) (v := ?_) (a' := ?_) #[true, false, false, false, false, false, false, false, false, false, false, false, false, false, false, false, false] rfl rfl (by kernel_rfl) (fun _ _ _ h => h) (Or.inl ⟨by rfl, ?_⟩) ?_ ?_
      rotate_left
      · intro w'
        go_simp
        with_reducible rfl
      rotate_left
      · simp only [Act.put, List.setIfInBounds_toArray, List.set_cons_zero, List.set_cons_succ, i64_w, i32_w]
        rfl
      refine pure_ (i := 1) (N := some 34) (v := ?_) (a' := ?_) #[true, true, false, false, false, false, false, false, false, false, false, false, false, false, false, false, false] rfl rfl (by kernel_rfl) (fun _ _ _ h => h) (Or.inl ⟨by rfl, ?_⟩) ?_ ?_
      rotate_left
      · intro w'
        go_simp
        with_reducible rfl
      rotate_left
      · simp only [Act.put, List.setIfInBounds_toArray, List.set_cons_zero, List.set_cons_succ, i64_w, i32_w]
        rfl
      refine pure_ (i := 3) (N := some 36) (v := ?_) (a' := ?_) #[true, true, false, true, false, false, false, false, false, false, false, false, false, false, false, false, false] rfl rfl (by kernel_rfl) (fun _ _ _ h => h) (Or.inl ⟨by rfl, ?_⟩) ?_ ?_
      rotate_left
      · intro w'
        go_simp
        with_reducible rfl
      rotate_left
      · simp only [Act.put, List.setIfInBounds_toArray, List.set_cons_zero, List.set_cons_succ, i64_w, i32_w]
        rfl
      refine pure_ (i := 7) (N := some 40) (v := ?_) (a' := ?_) #[true, true, false, true, false, false, false, true, false, false, false, false, false, false, false, false, false] rfl rfl (by kernel_rfl) (fun _ _ _ h => h) (Or.inl ⟨by rfl, ?_⟩) ?_ ?_
      rotate_left
      · intro w'
        go_simp
        with_reducible rfl
      rotate_left
      · simp only [Act.put, List.setIfInBounds_toArray, List.set_cons_zero, List.set_cons_succ, i64_w, i32_w]
        rfl
      refine pure_ (i := 9) (N := some 42) (v := ?_) (a' := ?_) #[true, true, false, true, false, false, false, true, false, true, false, false, false, false, false, false, false] rfl rfl (by kernel_rfl) (fun _ _ _ h => h) (Or.inl ⟨by rfl, ?_⟩) ?_ ?_
      rotate_left
      · intro w'
        go_simp
        with_reducible rfl
      rotate_left
      · simp only [Act.put, List.setIfInBounds_toArray, List.set_cons_zero, List.set_cons_succ, i64_w, i32_w]
        rfl
      refine take_ (i := 2) (N := some 35) (v := ?_) (a' := ?_) #[true, true, true, true, false, false, false, true, false, true, false, false, false, false, false, false, false] rfl rfl (by kernel_rfl) (fun _ _ _ h => h) (Or.inl ⟨by rfl, ?_⟩) hHeld ?_ ?_
      rotate_left
      · rintro w' ⟨s0, s1, s2⟩
        go_simp
        with_reducible rfl
      rotate_left
      · simp only [Act.put, List.setIfInBounds_toArray, List.set_cons_zero, List.set_cons_succ, i64_w, i32_w]
        rfl
      refine pure_ (i := 4) (N := some 37) (v := ?_) (a' := ?_) #[true, true, true, true, true, false, false, true, false, true, false, false, false, false, false, false, false] rfl rfl (by kernel_rfl) (fun _ _ _ h => h) (Or.inl ⟨by rfl, ?_⟩) ?_ ?_
      rotate_left
      · intro w'
        go_simp
        with_reducible rfl
      rotate_left
      · simp only [Act.put, List.setIfInBounds_toArray, List.set_cons_zero, List.set_cons_succ, i64_w, i32_w]
        rfl
      refine pure_ (i := 5) (N := some 38) (v := ?_) (a' := ?_) #[true, true, true, true, true, true, false, true, false, true, false, false, false, false, false, false, false] rfl rfl (by kernel_rfl) (fun _ _ _ h => h) (Or.inl ⟨by rfl, ?_⟩) ?_ ?_
      rotate_left
      · intro w'
        go_simp
        with_reducible rfl
      rotate_left
      · simp only [Act.put, List.setIfInBounds_toArray, List.set_cons_zero, List.set_cons_succ, i64_w, i32_w]
        rfl
      refine take_ (i := 6) (N := some 39) (v := ?_) (a' := ?_) #[true, true, true, true, true, true, true, true, false, true, false, false, false, false, false, false, false] rfl rfl (by kernel_rfl) (fun _ _ _ h => h) (Or.inl ⟨by rfl, ?_⟩) hHeld ?_ ?_
      rotate_left
      · rintro w' ⟨s0, s1, s2⟩
        go_simp
        with_reducible rfl
      rotate_left
      · simp only [Act.put, List.setIfInBounds_toArray, List.set_cons_zero, List.set_cons_succ, i64_w, i32_w]
        rfl
      refine take_ (i := 8) (N := some 41) (v := ?_) (a' := ?_) #[true, true, true, true, true, true, true, true, true, true, false, false, false, false, false, false, false] rfl rfl (by kernel_rfl) (fun _ _ _ h => h) (Or.inl ⟨by rfl, ?_⟩) hHeld ?_ ?_
      rotate_left
      · rintro w' ⟨s0, s1, s2⟩
        go_simp
        with_reducible rfl
      rotate_left
      · simp only [Act.put, List.setIfInBounds_toArray, List.set_cons_zero, List.set_cons_succ, i64_w, i32_w]
        rfl
      refine pure_ (i := 10) (N := some 43) (v := ?_) (a' := ?_) #[true, true, true, true, true, true, true, true, true, true, true, false, false, false, false, false, false] rfl rfl (by kernel_rfl) (fun _ _ _ h => h) (Or.inl ⟨by rfl, ?_⟩) ?_ ?_
      rotate_left
      · intro w'
        go_simp
        with_reducible rfl
      rotate_left
      · simp only [Act.put, List.setIfInBounds_toArray, List.set_cons_zero, List.set_cons_succ, i64_w, i32_w]
        rfl
      refine pure_ (i := 11) (N := some 44) (v := ?_) (a' := ?_) #[true, true, true, true, true, true, true, true, true, true, true, true, false, false, false, false, false] rfl rfl (by kernel_rfl) (fun _ _ _ h => h) (Or.inl ⟨by rfl, ?_⟩) ?_ ?_
      rotate_left
      · intro w'
        go_simp
        with_reducible rfl
      rotate_left
      · simp only [Act.put, List.setIfInBounds_toArray, List.set_cons_zero, List.set_cons_succ, i64_w, i32_w]
        rfl
      refine take_ (i := 12) (N := some 45) (v := ?_) (a' := ?_) #[true, true, true, true, true, true, true, true, true, true, true, true, true, false, false, false, false] rfl rfl (by kernel_rfl) (fun _ _ _ h => h) (Or.inl ⟨by rfl, ?_⟩) hHeld ?_ ?_
      rotate_left
      · rintro w' ⟨s0, s1, s2⟩
        go_simp
        with_reducible rfl
      rotate_left
      · simp only [Act.put, List.setIfInBounds_toArray, List.set_cons_zero, List.set_cons_succ, i64_w, i32_w]
        rfl
      refine pure_ (i := 13) (N := some 46) (v := ?_) (a' := ?_) #[true, true, true, true, true, true, true, true, true, true, true, true, true, true, false, false, false] rfl rfl (by kernel_rfl) (fun _ _ _ h => h) (Or.inl ⟨by rfl, ?_⟩) ?_ ?_
      rotate_left
      · intro w'
        go_simp
        with_reducible rfl
      rotate_left
      · simp only [Act.put, List.setIfInBounds_toArray, List.set_cons_zero, List.set_cons_succ, i64_w, i32_w]
        rfl
      refine one_ (i := 14) (N := some 47) #[true, true, true, true, true, true, true, true, true, true, true, true, true, true, true, false, false] rfl rfl (by kernel_rfl) (by decide) (fun K hK => ?_)
      refine value_ (w1 := ?_) (v := ?_) (by rfl) rfl ?_ ?_
      rotate_left 2
      · go_simp
        constructor
        · rfl
        · rfl
      have HB14 : Hid (Blk (wA.alloc (.cells #[.int .i64 x0, .int .i64 x1] 53)) wA.heap.size #[.int .i64 x0, .int .i64 x1] 53) := Lib.hid (Blk.new _ _ _)
      have Hn := Lib.hid (HV.out.quiet (Fr.alloc (Fr.refl _ wA) (.cells #[.int .i64 x0, .int .i64 x1] 53)))
      clear HV HJ
      have HV := Hn
      clear Hn
      have HJ := Lib.hid (HS3.out _ _ _ HV.out)
      refine hK.out _ _ ⟨HJ.out.1, HJ.out.2.1, HJ.out.2.2⟩ (fun hHeld => ?_)
      clear hK K
      refine norm_ (a' := ?_) ?_ ?_
      rotate_left
      · show Act.put _ (some 47) _ = _
        simp only [Act.put, List.setIfInBounds_toArray, List.set_cons_zero, List.set_cons_succ, i64_w, i32_w]
        rfl
      refine one_ (i := 15) (N := some 48) #[true, true, true, true, true, true, true, true, true, true, true, true, true, true, true, true, false] rfl rfl (by kernel_rfl) (by decide) (fun K hK => ?_)
      refine rAppAt kInfo (w0 := w) w.heap.size (by rfl) (.tmp 33) (.tmp 47) 49 53 _ 16 (by rfl) Tryd.underlying49 infoInfo rfl (by decide) (by decide) u7 of ⟨x0, x1⟩ [.int .i64 x0, .int .i64 x1] _ (by rfl) (by rfl) HB14.out rfl (k108_mkM _ _ _ _) (by intro q hq; cases hq) HV.out.o HV.out.b HV.out.b.size (by omega) ?_
      intro v1 w8 ho _ hg _
      have Hn := Lib.hid (VpSt.grow HV.out hg ho)
      clear HV HJ HB14 ho hg
      have HV := Hn
      clear Hn
      have HJ := Lib.hid (HS3.out _ _ _ HV.out)
      refine hK.out _ _ ⟨HJ.out.1, HJ.out.2.1, HJ.out.2.2⟩ (fun hHeld => ?_)
      clear hK K
      refine norm_ (a' := ?_) ?_ ?_
      rotate_left
      · show Act.put _ (some 48) _ = _
        simp only [Act.put, List.setIfInBounds_toArray, List.set_cons_zero, List.set_cons_succ, i64_w, i32_w]
        rfl
      refine pure_ (i := 16) (N := some 7) (v := ?_) (a' := ?_) #[true, true, true, true, true, true, true, true, true, true, true, true, true, true, true, true, true] rfl rfl (by kernel_rfl) (fun _ _ _ h => h) (Or.inl ⟨by rfl, ?_⟩) ?_ ?_
      rotate_left
      · intro w'
        go_simp
        with_reducible rfl
      rotate_left
      · simp only [Act.put, List.setIfInBounds_toArray, List.set_cons_zero, List.set_cons_succ, i64_w, i32_w]
        rfl
      refine done_ (by kernel_rfl) ?_
      go_wp2
      go_roundw
      case rel => exact ⟨k + 1, cs2, by omega, by omega, by go_num, HA2.out, by rw [TK.out]; exact HV.out⟩
      case measure => simp [intOf]; omega
    · have hall := pad_all xs k hk hk2
      have hR := Kd.R_reads hv.o
      obtain ⟨Ao, co, rfl, hco, hCo⟩ := hR
      have HT2 := Lib.hid (HT.out.quiet (Quiet.of hv.b))
      have HAl := Lib.hid hall; have HAr := Lib.hid hA
      have HZ : Hid ((Tryd.prog.info? 52).map (·.size) = some cs.size) := Lib.hid (by rw [hA.sz]; kernel_rfl)
      have HV : Hid (VpD w (.slice A xs.length c) draw cs Ao (xs.take k) wo) := Lib.hid ⟨hv.x, hv.y, hCo, HT2.out, Quiet.of hv.b⟩
      have c0 := hv.x.cell 0
      simp at c0
      clear hv hall hA hCo HT2
      generalize xs.take k = of at *
      generalize padF xs k = all at *
      have HS4 : Hid (∀ W, VpD w (.slice A xs.length c) draw cs Ao of W → Blk W (w.heap.size + 1 + 1) cs 52 ∧ W.cell? ⟨w.heap.size, 1, none⟩ = some (.int .i64 draw)) := Lib.hid (fun W h => ⟨h.y, by have c1 := h.x.cell 1; simp at c1; exact c1⟩)
      by_cases hk3 : k < xs.length
      · have h64 : (64 : Int) ≤ (k : Int) := by omega
        clear hlt hk hk2
        go_upto_region 7 with fail
        clear hk3 h64
        have HJ := Lib.hid (HS4.out _ HV.out)
        have Hn := Lib.hid (HV.out.quiet (Fr.drew (Fr.refl _ wo)))
        clear HV HJ
        have HV := Hn
        clear Hn
        have HJ := Lib.hid (HS4.out _ HV.out)
        refine start_ (n := 10) (S := fun w' => Blk w' (w.heap.size + 1 + 1) cs 52 ∧ w'.cell? ⟨w.heap.size, 1, none⟩ = some (.int .i64 draw)) (ds := []) #[false, false, false, false, false, false, false, false, false, false] (by kernel_rfl) rfl rfl ⟨HJ.out.1, HJ.out.2⟩ (fun hHeld => ?_)
        generalize wo.drew = wA at HV HJ hHeld ⊢
        refine pure_ (i := 0) (N := some 49) (v := ?_) (a' := ?_) #[true, false, false, false, false, false, false, false, false, false] rfl rfl (by kernel_rfl) (fun _ _ _ h => h) (Or.inl ⟨by rfl, ?_⟩) ?_ ?_
        rotate_left
        · intro w'
          go_simp
          with_reducible rfl
        rotate_left
        · simp only [Act.put, List.setIfInBounds_toArray, List.set_cons_zero, List.set_cons_succ, i64_w, i32_w]
          rfl
        refine pure_ (i := 1) (N := some 50) (v := ?_) (a' := ?_) #[true, true, false, false, false, false, false, false, false, false] rfl rfl (by kernel_rfl) (fun _ _ _ h => h) (Or.inl ⟨by rfl, ?_⟩) ?_ ?_
        rotate_left
        · intro w'
          go_simp
          with_reducible rfl
        rotate_left
        · simp only [Act.put, List.setIfInBounds_toArray, List.set_cons_zero, List.set_cons_succ, i64_w, i32_w]
          rfl
        refine pure_ (i := 2) (N := some 51) (v := ?_) (a' := ?_) #[true, true, true, false, false, false, false, false, false, false] rfl rfl (by kernel_rfl) (fun _ _ _ h => h) (Or.inl ⟨by rfl, ?_⟩) ?_ ?_
        rotate_left
        · intro w'
          go_simp
          with_reducible rfl
        rotate_left
        · simp only [Act.put, List.setIfInBounds_toArray, List.set_cons_zero, List.set_cons_succ, i64_w, i32_w]
          rfl
        refine pure_ (i := 4) (N := some 53) (v := ?_) (a' := ?_) #[true, true, true, false, true, false, false, false, false, false] rfl rfl (by kernel_rfl) (fun _ _ _ h => h) (Or.inl ⟨by rfl, ?_⟩) ?_ ?_
        rotate_left
        · intro w'
          go_simp
          with_reducible rfl
        rotate_left
        · simp only [Act.put, List.setIfInBounds_toArray, List.set_cons_zero, List.set_cons_succ, i64_w, i32_w]
          rfl
        refine pure_ (i := 5) (N := some 54) (v := ?_) (a' := ?_) #[true, true, true, false, true, true, false, false, false, false] rfl rfl (by kernel_rfl) (fun _ _ _ h => h) (Or.inl ⟨by rfl, ?_⟩) ?_ ?_
        rotate_left
        · intro w'
          go_simp
          with_reducible rfl
        rotate_left
        · simp only [Act.put, List.setIfInBounds_toArray, List.set_cons_zero, List.set_cons_succ, i64_w, i32_w]
          rfl
        refine take_ (i := 6) (N := some 55) (v := ?_) (a' := ?_) #[true, true, true, false, true, true, true, false, false, false] rfl rfl (by kernel_rfl) (fun _ _ _ h => h) (Or.inl ⟨by rfl, ?_⟩) hHeld ?_ ?_
        rotate_left
        · rintro w' ⟨s0, s1⟩
          refine Eq.trans (load_agg (by rfl) (by rfl) s0 Tryd.underlying52 rfl HZ.out) ?_
          with_reducible rfl
        rotate_left
        · simp only [Act.put, List.setIfInBounds_toArray, List.set_cons_zero, List.set_cons_succ, i64_w, i32_w]
          rfl
        refine one_ (i := 3) (N := some 52) #[true, true, true, true, true, true, true, false, false, false] rfl rfl (by kernel_rfl) (by decide) (fun K hK => ?_)
        refine goes_ Tryd.func31 (by kernel_rfl) rfl #[.int .i64 p, .int .u64 s, .slice Ao of.length co] (by rfl) rfl rfl (by simp only [List.map_toArray, List.map_cons, List.map_nil]; rfl) ?_
        with_reducible refine (wRank _ HV.out.t p s hs Ao co of HV.out.c).mono ?_
        rintro e w5 ⟨v52, rfl, hi, hq⟩
        refine ⟨_, rfl, ?_⟩
        have HI52 := Lib.hid hi
        clear hi
        have Hn := Lib.hid (HV.out.quiet hq)
        clear HV HJ
        have HV := Hn
        clear Hn
        have HJ := Lib.hid (HS4.out _ HV.out)
        clear hq
        refine hK.out _ _ ⟨HJ.out.1, HJ.out.2⟩ (fun hHeld => ?_)
        clear hK K
        refine norm_ (a' := ?_) ?_ ?_
        rotate_left
        · show Act.put _ (some 52) _ = _
          simp only [Act.put, List.setIfInBounds_toArray, List.set_cons_zero, List.set_cons_succ, i64_w, i32_w]
          rfl
        refine one_ (i := 7) (N := some 56) #[true, true, true, true, true, true, true, true, false, false] rfl rfl (by kernel_rfl) (by decide) (fun K hK => ?_)
        refine goes_ Tryd.func32 (by kernel_rfl) rfl #[.int .i64 p, .int .u64 s, .agg cs] (by rfl) rfl rfl (by simp only [List.map_toArray, List.map_cons, List.map_nil]; rfl) ?_
        with_reducible refine (wRRank _ p s hs cs of all HAr.out HAl.out).mono ?_
        rintro e w6 ⟨v56, rfl, hi, hq⟩
        refine ⟨_, rfl, ?_⟩
        have HI56 := Lib.hid hi
        clear hi
        have Hn := Lib.hid (HV.out.quiet hq)
        clear HV HJ
        have HV := Hn
        clear Hn
        have HJ := Lib.hid (HS4.out _ HV.out)
        have HI5 := Lib.hid (HI52.out.quiet hq)
        clear hq HI52
        refine hK.out _ _ ⟨HJ.out.1, HJ.out.2⟩ (fun hHeld => ?_)
        clear hK K
        refine norm_ (a' := ?_) ?_ ?_
        rotate_left
        · show Act.put _ (some 56) _ = _
          simp only [Act.put, List.setIfInBounds_toArray, List.set_cons_zero, List.set_cons_succ, i64_w, i32_w]
          rfl
        refine pure_ (i := 8) (N := some 10) (v := ?_) (a' := ?_) #[true, true, true, true, true, true, true, true, true, false] rfl rfl (by kernel_rfl) (fun _ _ _ h => h) (Or.inl ⟨by rfl, ?_⟩) ?_ ?_
        rotate_left
        · intro w'
          go_simp
          with_reducible rfl
        rotate_left
        · simp only [Act.put, List.setIfInBounds_toArray, List.set_cons_zero, List.set_cons_succ, i64_w, i32_w]
          rfl
        refine pure_ (i := 9) (N := some 11) (v := ?_) (a' := ?_) #[true, true, true, true, true, true, true, true, true, true] rfl rfl (by kernel_rfl) (fun _ _ _ h => h) (Or.inl ⟨by rfl, ?_⟩) ?_ ?_
        rotate_left
        · intro w'
          go_simp
          with_reducible rfl
        rotate_left
        · simp only [Act.put, List.setIfInBounds_toArray, List.set_cons_zero, List.set_cons_succ, i64_w, i32_w]
          rfl
        refine done_ (by kernel_rfl) ?_
        obtain ⟨A5, c5, rfl, h5, hc5⟩ := HI5.out
        obtain ⟨A6, c6, rfl, h6, hc6⟩ := HI56.out
        clear h5 h6
        obtain ⟨l, hl⟩ : ∃ l, l = rankF p of s := ⟨_, rfl⟩
        have HI5 := HI5; have HI56 := HI56
        have hle := rank_le p of s
        rw [← hl] at HI5 HI56 hc5 hc6 hle ⊢
        clear hl
        go_upto_region 8 with fail
        have Hn := Lib.hid (HV.out.quiet (Fr.drew (Fr.refl _ w6)))
        clear HV HJ
        have HV := Hn
        clear Hn
        have HJ := Lib.hid (HS4.out _ HV.out)
        have hq : Quiet w6 w6.drew := Fr.drew (Fr.refl _ w6)
        have HI5n := Lib.hid (HI5.out.quiet hq)
        have HI6n := Lib.hid (HI56.out.quiet hq)
        clear HI5 HI56 hq
        have HI5 := HI5n
        have HI56 := HI6n
        clear HI5n HI6n
        refine start_ (n := 20) (S := fun w' => Blk w' (w.heap.size + 1 + 1) cs 52 ∧ w'.cell? ⟨w.heap.size, 1, none⟩ = some (.int .i64 draw)) (ds := []) #[false, false, false, false, false, false, false, false, false, false, false, false, false, false, false, false, false, false, false, false] (by kernel_rfl) rfl rfl ⟨HJ.out.1, HJ.out.2⟩ (fun hHeld => ?_)
        generalize w6.drew = wA at HV HJ HI5 HI56 hHeld ⊢
        refine pure_ (i := 0) (N := some 57) (v := ?_) (a' := ?_) #[true, false, false, false, false, false, false, false, false, false, false, false, false, false, false, false, false, false, false, false] rfl rfl (by kernel_rfl) (fun _ _ _ h => h) (Or.inl ⟨by rfl, ?_⟩) ?_ ?_
        rotate_left
        · intro w'
          go_simp
          with_reducible rfl
        rotate_left
        · simp only [Act.put, List.setIfInBounds_toArray, List.set_cons_zero, List.set_cons_succ, i64_w, i32_w]
          rfl
        refine pure_ (i := 1) (N := some 58) (v := ?_) (a' := ?_) #[true, true, false, false, false, false, false, false, false, false, false, false, false, false, false, false, false, false, false, false] rfl rfl (by kernel_rfl) (fun _ _ _ h => h) (Or.inl ⟨by rfl, ?_⟩) ?_ ?_
        rotate_left
        · intro w'
          go_simp
          with_reducible rfl
        rotate_left
        · simp only [Act.put, List.setIfInBounds_toArray, List.set_cons_zero, List.set_cons_succ, i64_w, i32_w]
          rfl
        refine pure_ (i := 2) (N := some 59) (v := ?_) (a' := ?_) #[true, true, true, false, false, false, false, false, false, false, false, false, false, false, false, false, false, false, false, false] rfl rfl (by kernel_rfl) (fun _ _ _ h => h) (Or.inl ⟨by rfl, ?_⟩) ?_ ?_
        rotate_left
        · intro w'
          go_simp
          with_reducible rfl
        rotate_left
        · simp only [Act.put, List.setIfInBounds_toArray, List.set_cons_zero, List.set_cons_succ, i64_w, i32_w]
          rfl
        refine pure_ (i := 3) (N := some 60) (v := ?_) (a' := ?_) #[true, true, true, true, false, false, false, false, false, false, false, false, false, false, false, false, false, false, false, false] rfl rfl (by kernel_rfl) (fun _ _ _ h => h) (Or.inl ⟨by rfl, ?_⟩) ?_ ?_
        rotate_left
        · intro w'
          go_simp
          with_reducible rfl
        rotate_left
        · simp only [Act.put, List.setIfInBounds_toArray, List.set_cons_zero, List.set_cons_succ, i64_w, i32_w]
          rfl
        refine pure_ (i := 4) (N := some 61) (v := ?_) (a' := ?_) #[true, true, true, true, true, false, false, false, false, false, false, false, false, false, false, false, false, false, false, false] rfl rfl (by kernel_rfl) (fun _ _ _ h => h) (Or.inl ⟨by rfl, ?_⟩) ?_ ?_
        rotate_left
        · intro w'
          go_simp
          with_reducible rfl
        rotate_left
        · simp only [Act.put, List.setIfInBounds_toArray, List.set_cons_zero, List.set_cons_succ, i64_w, i32_w]
          rfl
        refine pure_ (i := 5) (N := some 62) (v := ?_) (a' := ?_) #[true, true, true, true, true, true, false, false, false, false, false, false, false, false, false, false, false, false, false, false] rfl rfl (by kernel_rfl) (fun _ _ _ h => h) (Or.inl ⟨by rfl, ?_⟩) ?_ ?_
        rotate_left
        · intro w'
          go_simp
          with_reducible rfl
        rotate_left
        · simp only [Act.put, List.setIfInBounds_toArray, List.set_cons_zero, List.set_cons_succ, i64_w, i32_w]
          rfl
        refine pure_ (i := 6) (N := some 63) (v := ?_) (a' := ?_) #[true, true, true, true, true, true, true, false, false, false, false, false, false, false, false, false, false, false, false, false] rfl rfl (by kernel_rfl) (fun _ _ _ h => h) (Or.inl ⟨by rfl, ?_⟩) ?_ ?_
        rotate_left
        · intro w'
          go_simp
          with_reducible rfl
        rotate_left
        · simp only [Act.put, List.setIfInBounds_toArray, List.set_cons_zero, List.set_cons_succ, i64_w, i32_w]
          rfl
        refine pure_ (i := 7) (N := some 64) (v := ?_) (a' := ?_) #[true, true, true, true, true, true, true, true, false, false, false, false, false, false, false, false, false, false, false, false] rfl rfl (by kernel_rfl) (fun _ _ _ h => h) (Or.inl ⟨by rfl, ?_⟩) ?_ ?_
        rotate_left
        · intro w'
          go_simp
          with_reducible rfl
        rotate_left
        · simp only [Act.put, List.setIfInBounds_toArray, List.set_cons_zero, List.set_cons_succ, i64_w, i32_w]
          rfl
        refine pure_ (i := 8) (N := some 65) (v := ?_) (a' := ?_) #[true, true, true, true, true, true, true, true, true, false, false, false, false, false, false, false, false, false, false, false] rfl rfl (by kernel_rfl) (fun _ _ _ h => h) (Or.inl ⟨by rfl, ?_⟩) ?_ ?_
        rotate_left
        · intro w'
          go_simp
          with_reducible rfl
        rotate_left
        · simp only [Act.put, List.setIfInBounds_toArray, List.set_cons_zero, List.set_cons_succ, i64_w, i32_w]
          rfl
        refine pure_ (i := 9) (N := some 66) (v := ?_) (a' := ?_) #[true, true, true, true, true, true, true, true, true, true, false, false, false, false, false, false, false, false, false, false] rfl rfl (by kernel_rfl) (fun _ _ _ h => h) (Or.inl ⟨by rfl, ?_⟩) ?_ ?_
        rotate_left
        · intro w'
          go_simp
          with_reducible rfl
        rotate_left
        · simp only [Act.put, List.setIfInBounds_toArray, List.set_cons_zero, List.set_cons_succ, i64_w, i32_w]
          rfl
        refine pure_ (i := 12) (N := some 69) (v := ?_) (a' := ?_) #[true, true, true, true, true, true, true, true, true, true, false, false, true, false, false, false, false, false, false, false] rfl rfl (by kernel_rfl) (fun _ _ _ h => h) (Or.inl ⟨by rfl, ?_⟩) ?_ ?_
        rotate_left
        · intro w'
          go_simp
          with_reducible rfl
        rotate_left
        · simp only [Act.put, List.setIfInBounds_toArray, List.set_cons_zero, List.set_cons_succ, i64_w, i32_w]
          rfl
        refine pure_ (i := 13) (N := some 70) (v := ?_) (a' := ?_) #[true, true, true, true, true, true, true, true, true, true, false, false, true, true, false, false, false, false, false, false] rfl rfl (by kernel_rfl) (fun _ _ _ h => h) (Or.inl ⟨by rfl, ?_⟩) ?_ ?_
        rotate_left
        · intro w'
          go_simp
          with_reducible rfl
        rotate_left
        · simp only [Act.put, List.setIfInBounds_toArray, List.set_cons_zero, List.set_cons_succ, i64_w, i32_w]
          rfl
        refine pure_ (i := 15) (N := some 72) (v := ?_) (a' := ?_) #[true, true, true, true, true, true, true, true, true, true, false, false, true, true, false, true, false, false, false, false] rfl rfl (by kernel_rfl) (fun _ _ _ h => h) (Or.inl ⟨by rfl, ?_⟩) ?_ ?_
        rotate_left
        · intro w'
          go_simp
          with_reducible rfl
        rotate_left
        · simp only [Act.put, List.setIfInBounds_toArray, List.set_cons_zero, List.set_cons_succ, i64_w, i32_w]
          rfl
        refine take_ (i := 10) (N := some 67) (v := ?_) (a' := ?_) #[true, true, true, true, true, true, true, true, true, true, true, false, true, true, false, true, false, false, false, false] rfl rfl (by kernel_rfl) (fun _ _ _ h => h) (Or.inl ⟨by rfl, ?_⟩) hHeld ?_ ?_
        rotate_left
        · rintro w' ⟨s0, s1⟩
          go_simp
          with_reducible rfl
        rotate_left
        · simp only [Act.put, List.setIfInBounds_toArray, List.set_cons_zero, List.set_cons_succ, i64_w, i32_w]
          rfl
        refine take_ (i := 14) (N := some 71) (v := ?_) (a' := ?_) #[true, true, true, true, true, true, true, true, true, true, true, false, true, true, true, true, false, false, false, false] rfl rfl (by kernel_rfl) (fun _ _ _ h => h) (Or.inl ⟨by rfl, ?_⟩) hHeld ?_ ?_
        rotate_left
        · rintro w' ⟨s0, s1⟩
          refine Eq.trans (load_agg (by rfl) (by rfl) s0 Tryd.underlying52 rfl HZ.out) ?_
          with_reducible rfl
        rotate_left
        · simp only [Act.put, List.setIfInBounds_toArray, List.set_cons_zero, List.set_cons_succ, i64_w, i32_w]
          rfl
        refine take_ (i := 16) (N := some 73) (v := ?_) (a' := ?_) #[true, true, true, true, true, true, true, true, true, true, true, false, true, true, true, true, true, false, false, false] rfl rfl (by kernel_rfl) (fun _ _ _ h => h) (Or.inl ⟨by rfl, ?_⟩) hHeld ?_ ?_
        rotate_left
        · rintro w' ⟨s0, s1⟩
          go_simp
          with_reducible rfl
        rotate_left
        · simp only [Act.put, List.setIfInBounds_toArray, List.set_cons_zero, List.set_cons_succ, i64_w, i32_w]
          rfl
        refine one_ (i := 11) (N := some 68) #[true, true, true, true, true, true, true, true, true, true, true, true, true, true, true, true, true, false, false, false] rfl rfl (by kernel_rfl) (by decide) (fun K hK => ?_)
        refine goes_ Tryd.func33 (by kernel_rfl) rfl #[.int .i64 p, .int .u64 s, .slice Ao of.length co, .int .i64 draw] (by rfl) rfl rfl (by simp only [List.map_toArray, List.map_cons, List.map_nil]; rfl) ?_
        with_reducible refine (wPick _ HV.out.t p s hs Ao co of HV.out.c draw hd).mono ?_
        rintro e w7 ⟨rfl, hq⟩
        refine ⟨_, rfl, ?_⟩
        have Hn := Lib.hid (HV.out.quiet hq)
        clear HV HJ
        have HV := Hn
        clear Hn
        have HJ := Lib.hid (HS4.out _ HV.out)
        have HI5n := Lib.hid (HI5.out.quiet hq)
        have HI6n := Lib.hid (HI56.out.quiet hq)
        clear HI5 HI56 hq
        have HI5 := HI5n
        have HI56 := HI6n
        clear HI5n HI6n
        refine hK.out _ _ ⟨HJ.out.1, HJ.out.2⟩ (fun hHeld => ?_)
        clear hK K
        refine norm_ (a' := ?_) ?_ ?_
        rotate_left
        · show Act.put _ (some 68) _ = _
          simp only [Act.put, List.setIfInBounds_toArray, List.set_cons_zero, List.set_cons_succ, i64_w, i32_w]
          rfl
        refine one_ (i := 17) (N := some 74) #[true, true, true, true, true, true, true, true, true, true, true, true, true, true, true, true, true, true, false, false] rfl rfl (by kernel_rfl) (by decide) (fun K hK => ?_)
        refine goes_ Tryd.func34 (by kernel_rfl) rfl #[.int .i64 p, .int .u64 s, .agg cs, .int .i64 draw] (by rfl) rfl rfl (by simp only [List.map_toArray, List.map_cons, List.map_nil]; rfl) ?_
        with_reducible refine (wRPick _ p s hs cs of all HAr.out HAl.out draw hd).mono ?_
        rintro e w8 ⟨rfl, hq⟩
        refine ⟨_, rfl, ?_⟩
        have Hn := Lib.hid (HV.out.quiet hq)
        clear HV HJ
        have HV := Hn
        clear Hn
        have HJ := Lib.hid (HS4.out _ HV.out)
        have HI5n := Lib.hid (HI5.out.quiet hq)
        have HI6n := Lib.hid (HI56.out.quiet hq)
        clear HI5 HI56 hq
        have HI5 := HI5n
        have HI56 := HI6n
        clear HI5n HI6n
        refine hK.out _ _ ⟨HJ.out.1, HJ.out.2⟩ (fun hHeld => ?_)
        clear hK K
        refine norm_ (a' := ?_) ?_ ?_
        rotate_left
        · show Act.put _ (some 74) _ = _
          simp only [Act.put, List.setIfInBounds_toArray, List.set_cons_zero, List.set_cons_succ, i64_w, i32_w]
          rfl
        refine pure_ (i := 18) (N := some 75) (v := ?_) (a' := ?_) #[true, true, true, true, true, true, true, true, true, true, true, true, true, true, true, true, true, true, true, false] rfl rfl (by kernel_rfl) (fun _ _ _ h => h) (Or.inl ⟨by rfl, ?_⟩) ?_ ?_
        rotate_left
        · intro w'
          go_simp
          with_reducible rfl
        rotate_left
        · simp only [Act.put, List.setIfInBounds_toArray, List.set_cons_zero, List.set_cons_succ, i64_w, i32_w]
          rfl
        refine pure_ (i := 19) (N := some 76) (v := ?_) (a' := ?_) #[true, true, true, true, true, true, true, true, true, true, true, true, true, true, true, true, true, true, true, true] rfl rfl (by kernel_rfl) (fun _ _ _ h => h) (Or.inl ⟨by rfl, ?_⟩) ?_ ?_
        rotate_left
        · intro w'
          go_simp
          with_reducible rfl
        rotate_left
        · simp only [Act.put, List.setIfInBounds_toArray, List.set_cons_zero, List.set_cons_succ, i64_w, i32_w]
          rfl
        refine done_ (by kernel_rfl) ?_
        clear HC HZ HAl HAr HS4 HJ hd hc5 hc6 hco
        have HP : Hid (VpLp w (.slice A xs.length c) draw cs Ao of A5 c5 A6 c6 l (.int .i64 0) w8) := Lib.hid ⟨0, Nat.zero_le _, rfl, HV.out, HI5.out, HI56.out⟩
        clear HV HI5 HI56
        have hpk : (pickF p of s draw != pickF p of s draw) = false := bne_self_eq_false _
        go_wp2
        clear hpk
        go_loopw [12] (fun i wr => VpLp w (.slice A xs.length c) draw cs Ao of A5 c5 A6 c6 l i wr) (fun i _ => l.length - (intOf i).toNat)
        case atStart => exact HP.out
        case round =>
          obtain ⟨wy, hwy⟩ : ∃ x, x = wr := ⟨_, rfl⟩
          subst hwy
          obtain ⟨k, hk, rfl, hv, hi5, hi6⟩ := hrel
          clear HP
          by_cases hlt : k < l.length
          · have HV := Lib.hid hv; have HI5 := Lib.hid hi5; have HI6 := Lib.hid hi6
            obtain ⟨A5', c5', e5, h5, _⟩ := hi5
            injection e5 with e5 _ e5c
            subst e5 e5c
            obtain ⟨A6', c6', e6, h6, _⟩ := hi6
            injection e6 with e6 _ e6c
            subst e6 e6c
            obtain ⟨a5, rfl, g5⟩ := at_ints h5 k hlt
            obtain ⟨a6, rfl, g6⟩ := at_ints h6 k hlt
            generalize l.getD k 0 = y at *
            have hyy : (y != y) = false := bne_self_eq_false _
            have hk0 : (0 : Int) ≤ (k : Int) := by omega
            have hk1 : (k : Int) < (l.length : Int) := by omega
            clear h5 h6 hv
            go_wp2_with fail
            go_quiet (fail)
            go_wp2
            go_roundw
            case rel => exact ⟨k + 1, by omega, by go_num, HV.out.quiet ((Fr.refl _ _).drewN _), HI5.out.quiet ((Fr.refl _ _).drewN _), HI6.out.quiet ((Fr.refl _ _).drewN _)⟩
            case measure => simp [intOf]; omega
          · have HV := Lib.hid hv
            clear hv hi5 hi6
            go_wp2_with fail
            refine (cLives33 _ HV.out.t).mono ?_
            rintro e w9 ⟨rfl, hq⟩
            have HQ := Lib.hid (HV.out.q.quiet hq)
            clear hq
            go_wp2
            go_ret
            exact ⟨rfl, HQ.out⟩
      · clear hlt hk hk2
        go_upto_region 7 with fail
        clear hk3
        have HJ := Lib.hid (HS4.out _ HV.out)
        have Hn := Lib.hid (HV.out.quiet (Fr.drew (Fr.refl _ wo)))
        clear HV HJ
        have HV := Hn
        clear Hn
        have HJ := Lib.hid (HS4.out _ HV.out)
        refine start_ (n := 10) (S := fun w' => Blk w' (w.heap.size + 1 + 1) cs 52 ∧ w'.cell? ⟨w.heap.size, 1, none⟩ = some (.int .i64 draw)) (ds := []) #[false, false, false, false, false, false, false, false, false, false] (by kernel_rfl) rfl rfl ⟨HJ.out.1, HJ.out.2⟩ (fun hHeld => ?_)
        generalize wo.drew = wA at HV HJ hHeld ⊢
        refine pure_ (i := 0) (N := some 49) (v := ?_) (a' := ?_) #[true, false, false, false, false, false, false, false, false, false] rfl rfl (by kernel_rfl) (fun _ _ _ h => h) (Or.inl ⟨by rfl, ?_⟩) ?_ ?_
        rotate_left
        · intro w'
          go_simp
          with_reducible rfl
        rotate_left
        · simp only [Act.put, List.setIfInBounds_toArray, List.set_cons_zero, List.set_cons_succ, i64_w, i32_w]
          rfl
        refine pure_ (i := 1) (N := some 50) (v := ?_) (a' := ?_) #[true, true, false, false, false, false, false, false, false, false] rfl rfl (by kernel_rfl) (fun _ _ _ h => h) (Or.inl ⟨by rfl, ?_⟩) ?_ ?_
        rotate_left
        · intro w'
          go_simp
          with_reducible rfl
        rotate_left
        · simp only [Act.put, List.setIfInBounds_toArray, List.set_cons_zero, List.set_cons_succ, i64_w, i32_w]
          rfl
        refine pure_ (i := 2) (N := some 51) (v := ?_) (a' := ?_) #[true, true, true, false, false, false, false, false, false, false] rfl rfl (by kernel_rfl) (fun _ _ _ h => h) (Or.inl ⟨by rfl, ?_⟩) ?_ ?_
        rotate_left
        · intro w'
          go_simp
          with_reducible rfl
        rotate_left
        · simp only [Act.put, List.setIfInBounds_toArray, List.set_cons_zero, List.set_cons_succ, i64_w, i32_w]
          rfl
        refine pure_ (i := 4) (N := some 53) (v := ?_) (a' := ?_) #[true, true, true, false, true, false, false, false, false, false] rfl rfl (by kernel_rfl) (fun _ _ _ h => h) (Or.inl ⟨by rfl, ?_⟩) ?_ ?_
        rotate_left
        · intro w'
          go_simp
          with_reducible rfl
        rotate_left
        · simp only [Act.put, List.setIfInBounds_toArray, List.set_cons_zero, List.set_cons_succ, i64_w, i32_w]
          rfl
        refine pure_ (i := 5) (N := some 54) (v := ?_) (a' := ?_) #[true, true, true, false, true, true, false, false, false, false] rfl rfl (by kernel_rfl) (fun _ _ _ h => h) (Or.inl ⟨by rfl, ?_⟩) ?_ ?_
        rotate_left
        · intro w'
          go_simp
          with_reducible rfl
        rotate_left
        · simp only [Act.put, List.setIfInBounds_toArray, List.set_cons_zero, List.set_cons_succ, i64_w, i32_w]
          rfl
        refine take_ (i := 6) (N := some 55) (v := ?_) (a' := ?_) #[true, true, true, false, true, true, true, false, false, false] rfl rfl (by kernel_rfl) (fun _ _ _ h => h) (Or.inl ⟨by rfl, ?_⟩) hHeld ?_ ?_
        rotate_left
        · rintro w' ⟨s0, s1⟩
          refine Eq.trans (load_agg (by rfl) (by rfl) s0 Tryd.underlying52 rfl HZ.out) ?_
          with_reducible rfl
        rotate_left
        · simp only [Act.put, List.setIfInBounds_toArray, List.set_cons_zero, List.set_cons_succ, i64_w, i32_w]
          rfl
        refine one_ (i := 3) (N := some 52) #[true, true, true, true, true, true, true, false, false, false] rfl rfl (by kernel_rfl) (by decide) (fun K hK => ?_)
        refine goes_ Tryd.func31 (by kernel_rfl) rfl #[.int .i64 p, .int .u64 s, .slice Ao of.length co] (by rfl) rfl rfl (by simp only [List.map_toArray, List.map_cons, List.map_nil]; rfl) ?_
        with_reducible refine (wRank _ HV.out.t p s hs Ao co of HV.out.c).mono ?_
        rintro e w5 ⟨v52, rfl, hi, hq⟩
        refine ⟨_, rfl, ?_⟩
        have HI52 := Lib.hid hi
        clear hi
        have Hn := Lib.hid (HV.out.quiet hq)
        clear HV HJ
        have HV := Hn
        clear Hn
        have HJ := Lib.hid (HS4.out _ HV.out)
        clear hq
        refine hK.out _ _ ⟨HJ.out.1, HJ.out.2⟩ (fun hHeld => ?_)
        clear hK K
        refine norm_ (a' := ?_) ?_ ?_
        rotate_left
        · show Act.put _ (some 52) _ = _
          simp only [Act.put, List.setIfInBounds_toArray, List.set_cons_zero, List.set_cons_succ, i64_w, i32_w]
          rfl
        refine one_ (i := 7) (N := some 56) #[true, true, true, true, true, true, true, true, false, false] rfl rfl (by kernel_rfl) (by decide) (fun K hK => ?_)
        refine goes_ Tryd.func32 (by kernel_rfl) rfl #[.int .i64 p, .int .u64 s, .agg cs] (by rfl) rfl rfl (by simp only [List.map_toArray, List.map_cons, List.map_nil]; rfl) ?_
        with_reducible refine (wRRank _ p s hs cs of all HAr.out HAl.out).mono ?_
        rintro e w6 ⟨v56, rfl, hi, hq⟩
        refine ⟨_, rfl, ?_⟩
        have HI56 := Lib.hid hi
        clear hi
        have Hn := Lib.hid (HV.out.quiet hq)
        clear HV HJ
        have HV := Hn
        clear Hn
        have HJ := Lib.hid (HS4.out _ HV.out)
        have HI5 := Lib.hid (HI52.out.quiet hq)
        clear hq HI52
        refine hK.out _ _ ⟨HJ.out.1, HJ.out.2⟩ (fun hHeld => ?_)
        clear hK K
        refine norm_ (a' := ?_) ?_ ?_
        rotate_left
        · show Act.put _ (some 56) _ = _
          simp only [Act.put, List.setIfInBounds_toArray, List.set_cons_zero, List.set_cons_succ, i64_w, i32_w]
          rfl
        refine pure_ (i := 8) (N := some 10) (v := ?_) (a' := ?_) #[true, true, true, true, true, true, true, true, true, false] rfl rfl (by kernel_rfl) (fun _ _ _ h => h) (Or.inl ⟨by rfl, ?_⟩) ?_ ?_
        rotate_left
        · intro w'
          go_simp
          with_reducible rfl
        rotate_left
        · simp only [Act.put, List.setIfInBounds_toArray, List.set_cons_zero, List.set_cons_succ, i64_w, i32_w]
          rfl
        refine pure_ (i := 9) (N := some 11) (v := ?_) (a' := ?_) #[true, true, true, true, true, true, true, true, true, true] rfl rfl (by kernel_rfl) (fun _ _ _ h => h) (Or.inl ⟨by rfl, ?_⟩) ?_ ?_
        rotate_left
        · intro w'
          go_simp
          with_reducible rfl
        rotate_left
        · simp only [Act.put, List.setIfInBounds_toArray, List.set_cons_zero, List.set_cons_succ, i64_w, i32_w]
          rfl
        refine done_ (by kernel_rfl) ?_
        obtain ⟨A5, c5, rfl, h5, hc5⟩ := HI5.out
        obtain ⟨A6, c6, rfl, h6, hc6⟩ := HI56.out
        clear h5 h6
        obtain ⟨l, hl⟩ : ∃ l, l = rankF p of s := ⟨_, rfl⟩
        have HI5 := HI5; have HI56 := HI56
        have hle := rank_le p of s
        rw [← hl] at HI5 HI56 hc5 hc6 hle ⊢
        clear hl
        go_upto_region 8 with fail
        have Hn := Lib.hid (HV.out.quiet (Fr.drew (Fr.refl _ w6)))
        clear HV HJ
        have HV := Hn
        clear Hn
        have HJ := Lib.hid (HS4.out _ HV.out)
        have hq : Quiet w6 w6.drew := Fr.drew (Fr.refl _ w6)
        have HI5n := Lib.hid (HI5.out.quiet hq)
        have HI6n := Lib.hid (HI56.out.quiet hq)
        clear HI5 HI56 hq
        have HI5 := HI5n
        have HI56 := HI6n
        clear HI5n HI6n
        refine start_ (n := 20) (S := fun w' => Blk w' (w.heap.size + 1 + 1) cs 52 ∧ w'.cell? ⟨w.heap.size, 1, none⟩ = some (.int .i64 draw)) (ds := []) #[false, false, false, false, false, false, false, false, false, false, false, false, false, false, false, false, false, false, false, false] (by kernel_rfl) rfl rfl ⟨HJ.out.1, HJ.out.2⟩ (fun hHeld => ?_)
        generalize w6.drew = wA at HV HJ HI5 HI56 hHeld ⊢
        refine pure_ (i := 0) (N := some 57) (v := ?_) (a' := ?_) #[true, false, false, false, false, false, false, false, false, false, false, false, false, false, false, false, false, false, false, false] rfl rfl (by kernel_rfl) (fun _ _ _ h => h) (Or.inl ⟨by rfl, ?_⟩) ?_ ?_
        rotate_left
        · intro w'
          go_simp
          with_reducible rfl
        rotate_left
        · simp only [Act.put, List.setIfInBounds_toArray, List.set_cons_zero, List.set_cons_succ, i64_w, i32_w]
          rfl
        refine pure_ (i := 1) (N := some 58) (v := ?_) (a' := ?_) #[true, true, false, false, false, false, false, false, false, false, false, false, false, false, false, false, false, false, false, false] rfl rfl (by kernel_rfl) (fun _ _ _ h => h) (Or.inl ⟨by rfl, ?_⟩) ?_ ?_
        rotate_left
        · intro w'
          go_simp
          with_reducible rfl
        rotate_left
        · simp only [Act.put, List.setIfInBounds_toArray, List.set_cons_zero, List.set_cons_succ, i64_w, i32_w]
          rfl
        refine pure_ (i := 2) (N := some 59) (v := ?_) (a' := ?_) #[true, true, true, false, false, false, false, false, false, false, false, false, false, false, false, false, false, false, false, false] rfl rfl (by kernel_rfl) (fun _ _ _ h => h) (Or.inl ⟨by rfl, ?_⟩) ?_ ?_
        rotate_left
        · intro w'
          go_simp
          with_reducible rfl
        rotate_left
        · simp only [Act.put, List.setIfInBounds_toArray, List.set_cons_zero, List.set_cons_succ, i64_w, i32_w]
          rfl
        refine pure_ (i := 3) (N := some 60) (v := ?_) (a' := ?_) #[true, true, true, true, false, false, false, false, false, false, false, false, false, false, false, false, false, false, false, false] rfl rfl (by kernel_rfl) (fun _ _ _ h => h) (Or.inl ⟨by rfl, ?_⟩) ?_ ?_
        rotate_left
        · intro w'
          go_simp
          with_reducible rfl
        rotate_left
        · simp only [Act.put, List.setIfInBounds_toArray, List.set_cons_zero, List.set_cons_succ, i64_w, i32_w]
          rfl
        refine pure_ (i := 4) (N := some 61) (v := ?_) (a' := ?_) #[true, true, true, true, true, false, false, false, false, false, false, false, false, false, false, false, false, false, false, false] rfl rfl (by kernel_rfl) (fun _ _ _ h => h) (Or.inl ⟨by rfl, ?_⟩) ?_ ?_
        rotate_left
        · intro w'
          go_simp
          with_reducible rfl
        rotate_left
        · simp only [Act.put, List.setIfInBounds_toArray, List.set_cons_zero, List.set_cons_succ, i64_w, i32_w]
          rfl
        refine pure_ (i := 5) (N := some 62) (v := ?_) (a' := ?_) #[true, true, true, true, true, true, false, false, false, false, false, false, false, false, false, false, false, false, false, false] rfl rfl (by kernel_rfl) (fun _ _ _ h => h) (Or.inl ⟨by rfl, ?_⟩) ?_ ?_
        rotate_left
        · intro w'
          go_simp
          with_reducible rfl
        rotate_left
        · simp only [Act.put, List.setIfInBounds_toArray, List.set_cons_zero, List.set_cons_succ, i64_w, i32_w]
          rfl
        refine pure_ (i := 6) (N := some 63) (v := ?_) (a' := ?_) #[true, true, true, true, true, true, true, false, false, false, false, false, false, false, false, false, false, false, false, false] rfl rfl (by kernel_rfl) (fun _ _ _ h => h) (Or.inl ⟨by rfl, ?_⟩) ?_ ?_
        rotate_left
        · intro w'
          go_simp
          with_reducible rfl
        rotate_left
        · simp only [Act.put, List.setIfInBounds_toArray, List.set_cons_zero, List.set_cons_succ, i64_w, i32_w]
          rfl
        refine pure_ (i := 7) (N := some 64) (v := ?_) (a' := ?_) #[true, true, true, true, true, true, true, true, false, false, false, false, false, false, false, false, false, false, false, false] rfl rfl (by kernel_rfl) (fun _ _ _ h => h) (Or.inl ⟨by rfl, ?_⟩) ?_ ?_
        rotate_left
        · intro w'
          go_simp
          with_reducible rfl
        rotate_left
        · simp only [Act.put, List.setIfInBounds_toArray, List.set_cons_zero, List.set_cons_succ, i64_w, i32_w]
          rfl
        refine pure_ (i := 8) (N := some 65) (v := ?_) (a' := ?_) #[true, true, true, true, true, true, true, true, true, false, false, false, false, false, false, false, false, false, false, false] rfl rfl (by kernel_rfl) (fun _ _ _ h => h) (Or.inl ⟨by rfl, ?_⟩) ?_ ?_
        rotate_left
        · intro w'
          go_simp
          with_reducible rfl
        rotate_left
        · simp only [Act.put, List.setIfInBounds_toArray, List.set_cons_zero, List.set_cons_succ, i64_w, i32_w]
          rfl
        refine pure_ (i := 9) (N := some 66) (v := ?_) (a' := ?_) #[true, true, true, true, true, true, true, true, true, true, false, false, false, false, false, false, false, false, false, false] rfl rfl (by kernel_rfl) (fun _ _ _ h => h) (Or.inl ⟨by rfl, ?_⟩) ?_ ?_
        rotate_left
        · intro w'
          go_simp
          with_reducible rfl
        rotate_left
        · simp only [Act.put, List.setIfInBounds_toArray, List.set_cons_zero, List.set_cons_succ, i64_w, i32_w]
          rfl
        refine pure_ (i := 12) (N := some 69) (v := ?_) (a' := ?_) #[true, true, true, true, true, true, true, true, true, true, false, false, true, false, false, false, false, false, false, false] rfl rfl (by kernel_rfl) (fun _ _ _ h => h) (Or.inl ⟨by rfl, ?_⟩) ?_ ?_
        rotate_left
        · intro w'
          go_simp
          with_reducible rfl
        rotate_left
        · simp only [Act.put, List.setIfInBounds_toArray, List.set_cons_zero, List.set_cons_succ, i64_w, i32_w]
          rfl
        refine pure_ (i := 13) (N := some 70) (v := ?_) (a' := ?_) #[true, true, true, true, true, true, true, true, true, true, false, false, true, true, false, false, false, false, false, false] rfl rfl (by kernel_rfl) (fun _ _ _ h => h) (Or.inl ⟨by rfl, ?_⟩) ?_ ?_
        rotate_left
        · intro w'
          go_simp
          with_reducible rfl
        rotate_left
        · simp only [Act.put, List.setIfInBounds_toArray, List.set_cons_zero, List.set_cons_succ, i64_w, i32_w]
          rfl
        refine pure_ (i := 15) (N := some 72) (v := ?_) (a' := ?_) #[true, true, true, true, true, true, true, true, true, true, false, false, true, true, false, true, false, false, false, false] rfl rfl (by kernel_rfl) (fun _ _ _ h => h) (Or.inl ⟨by rfl, ?_⟩) ?_ ?_
        rotate_left
        · intro w'
          go_simp
          with_reducible rfl
        rotate_left
        · simp only [Act.put, List.setIfInBounds_toArray, List.set_cons_zero, List.set_cons_succ, i64_w, i32_w]
          rfl
        refine take_ (i := 10) (N := some 67) (v := ?_) (a' := ?_) #[true, true, true, true, true, true, true, true, true, true, true, false, true, true, false, true, false, false, false, false] rfl rfl (by kernel_rfl) (fun _ _ _ h => h) (Or.inl ⟨by rfl, ?_⟩) hHeld ?_ ?_
        rotate_left
        · rintro w' ⟨s0, s1⟩
          go_simp
          with_reducible rfl
        rotate_left
        · simp only [Act.put, List.setIfInBounds_toArray, List.set_cons_zero, List.set_cons_succ, i64_w, i32_w]
          rfl
        refine take_ (i := 14) (N := some 71) (v := ?_) (a' := ?_) #[true, true, true, true, true, true, true, true, true, true, true, false, true, true, true, true, false, false, false, false] rfl rfl (by kernel_rfl) (fun _ _ _ h => h) (Or.inl ⟨by rfl, ?_⟩) hHeld ?_ ?_
        rotate_left
        · rintro w' ⟨s0, s1⟩
          refine Eq.trans (load_agg (by rfl) (by rfl) s0 Tryd.underlying52 rfl HZ.out) ?_
          with_reducible rfl
        rotate_left
        · simp only [Act.put, List.setIfInBounds_toArray, List.set_cons_zero, List.set_cons_succ, i64_w, i32_w]
          rfl
        refine take_ (i := 16) (N := some 73) (v := ?_) (a' := ?_) #[true, true, true, true, true, true, true, true, true, true, true, false, true, true, true, true, true, false, false, false] rfl rfl (by kernel_rfl) (fun _ _ _ h => h) (Or.inl ⟨by rfl, ?_⟩) hHeld ?_ ?_
        rotate_left
        · rintro w' ⟨s0, s1⟩
          go_simp
          with_reducible rfl
        rotate_left
        · simp only [Act.put, List.setIfInBounds_toArray, List.set_cons_zero, List.set_cons_succ, i64_w, i32_w]
          rfl
        refine one_ (i := 11) (N := some 68) #[true, true, true, true, true, true, true, true, true, true, true, true, true, true, true, true, true, false, false, false] rfl rfl (by kernel_rfl) (by decide) (fun K hK => ?_)
        refine goes_ Tryd.func33 (by kernel_rfl) rfl #[.int .i64 p, .int .u64 s, .slice Ao of.length co, .int .i64 draw] (by rfl) rfl rfl (by simp only [List.map_toArray, List.map_cons, List.map_nil]; rfl) ?_
        with_reducible refine (wPick _ HV.out.t p s hs Ao co of HV.out.c draw hd).mono ?_
        rintro e w7 ⟨rfl, hq⟩
        refine ⟨_, rfl, ?_⟩
        have Hn := Lib.hid (HV.out.quiet hq)
        clear HV HJ
        have HV := Hn
        clear Hn
        have HJ := Lib.hid (HS4.out _ HV.out)
        have HI5n := Lib.hid (HI5.out.quiet hq)
        have HI6n := Lib.hid (HI56.out.quiet hq)
        clear HI5 HI56 hq
        have HI5 := HI5n
        have HI56 := HI6n
        clear HI5n HI6n
        refine hK.out _ _ ⟨HJ.out.1, HJ.out.2⟩ (fun hHeld => ?_)
        clear hK K
        refine norm_ (a' := ?_) ?_ ?_
        rotate_left
        · show Act.put _ (some 68) _ = _
          simp only [Act.put, List.setIfInBounds_toArray, List.set_cons_zero, List.set_cons_succ, i64_w, i32_w]
          rfl
        refine one_ (i := 17) (N := some 74) #[true, true, true, true, true, true, true, true, true, true, true, true, true, true, true, true, true, true, false, false] rfl rfl (by kernel_rfl) (by decide) (fun K hK => ?_)
        refine goes_ Tryd.func34 (by kernel_rfl) rfl #[.int .i64 p, .int .u64 s, .agg cs, .int .i64 draw] (by rfl) rfl rfl (by simp only [List.map_toArray, List.map_cons, List.map_nil]; rfl) ?_
        with_reducible refine (wRPick _ p s hs cs of all HAr.out HAl.out draw hd).mono ?_
        rintro e w8 ⟨rfl, hq⟩
        refine ⟨_, rfl, ?_⟩
        have Hn := Lib.hid (HV.out.quiet hq)
        clear HV HJ
        have HV := Hn
        clear Hn
        have HJ := Lib.hid (HS4.out _ HV.out)
        have HI5n := Lib.hid (HI5.out.quiet hq)
        have HI6n := Lib.hid (HI56.out.quiet hq)
        clear HI5 HI56 hq
        have HI5 := HI5n
        have HI56 := HI6n
        clear HI5n HI6n
        refine hK.out _ _ ⟨HJ.out.1, HJ.out.2⟩ (fun hHeld => ?_)
        clear hK K
        refine norm_ (a' := ?_) ?_ ?_
        rotate_left
        · show Act.put _ (some 74) _ = _
          simp only [Act.put, List.setIfInBounds_toArray, List.set_cons_zero, List.set_cons_succ, i64_w, i32_w]
          rfl
        refine pure_ (i := 18) (N := some 75) (v := ?_) (a' := ?_) #[true, true, true, true, true, true, true, true, true, true, true, true, true, true, true, true, true, true, true, false] rfl rfl (by kernel_rfl) (fun _ _ _ h => h) (Or.inl ⟨by rfl, ?_⟩) ?_ ?_
        rotate_left
        · intro w'
          go_simp
          with_reducible rfl
        rotate_left
        · simp only [Act.put, List.setIfInBounds_toArray, List.set_cons_zero, List.set_cons_succ, i64_w, i32_w]
          rfl
        refine pure_ (i := 19) (N := some 76) (v := ?_) (a' := ?_) #[true, true, true, true, true, true, true, true, true, true, true, true, true, true, true, true, true, true, true, true] rfl rfl (by kernel_rfl) (fun _ _ _ h => h) (Or.inl ⟨by rfl, ?_⟩) ?_ ?_
        rotate_left
        · intro w'
          go_simp
          with_reducible rfl
        rotate_left
        · simp only [Act.put, List.setIfInBounds_toArray, List.set_cons_zero, List.set_cons_succ, i64_w, i32_w]
          rfl
        refine done_ (by kernel_rfl) ?_
        clear HC HZ HAl HAr HS4 HJ hd hc5 hc6 hco
        have HP : Hid (VpLp w (.slice A xs.length c) draw cs Ao of A5 c5 A6 c6 l (.int .i64 0) w8) := Lib.hid ⟨0, Nat.zero_le _, rfl, HV.out, HI5.out, HI56.out⟩
        clear HV HI5 HI56
        have hpk : (pickF p of s draw != pickF p of s draw) = false := bne_self_eq_false _
        go_wp2
        clear hpk
        go_loopw [12] (fun i wr => VpLp w (.slice A xs.length c) draw cs Ao of A5 c5 A6 c6 l i wr) (fun i _ => l.length - (intOf i).toNat)
        case atStart => exact HP.out
        case round =>
          obtain ⟨wy, hwy⟩ : ∃ x, x = wr := ⟨_, rfl⟩
          subst hwy
          obtain ⟨k, hk, rfl, hv, hi5, hi6⟩ := hrel
          clear HP
          by_cases hlt : k < l.length
          · have HV := Lib.hid hv; have HI5 := Lib.hid hi5; have HI6 := Lib.hid hi6
            obtain ⟨A5', c5', e5, h5, _⟩ := hi5
            injection e5 with e5 _ e5c
            subst e5 e5c
            obtain ⟨A6', c6', e6, h6, _⟩ := hi6
            injection e6 with e6 _ e6c
            subst e6 e6c
            obtain ⟨a5, rfl, g5⟩ := at_ints h5 k hlt
            obtain ⟨a6, rfl, g6⟩ := at_ints h6 k hlt
            generalize l.getD k 0 = y at *
            have hyy : (y != y) = false := bne_self_eq_false _
            have hk0 : (0 : Int) ≤ (k : Int) := by omega
            have hk1 : (k : Int) < (l.length : Int) := by omega
            clear h5 h6 hv
            go_wp2_with fail
            go_quiet (fail)
            go_wp2
            go_roundw
            case rel => exact ⟨k + 1, by omega, by go_num, HV.out.quiet ((Fr.refl _ _).drewN _), HI5.out.quiet ((Fr.refl _ _).drewN _), HI6.out.quiet ((Fr.refl _ _).drewN _)⟩
            case measure => simp [intOf]; omega
          · have HV := Lib.hid hv
            clear hv hi5 hi6
            go_wp2_with fail
            refine (cLives33 _ HV.out.t).mono ?_
            rintro e w9 ⟨rfl, hq⟩
            have HQ := Lib.hid (HV.out.q.quiet hq)
            clear hq
            go_wp2
            go_ret
            exact ⟨rfl, HQ.out⟩
theorem victimPicksW (W : World) (hT : Tb W) (a0 : Int) (r0 : -9223372036854775808 ≤ a0 ∧ a0 ≤ 9223372036854775807) (a1 : Int) (r1 : 0 ≤ a1 ∧ a1 ≤ 18446744073709551615)
    (cs2 : Array Value) (a2 : List (Int × Int) × Int) (e2 : (shP (shL (shP shInt shInt)) shInt).rd W W.heap.size a2 cs2.toList) :
    Calls Tryd.prog 6 #[.int .i64 a0, .int .u64 a1, .agg cs2] W fun e w' => e = .returned (.bool true) ∧ Quiet W w' := by
  obtain ⟨s, rfl⟩ := Int.eq_ofNat_of_zero_le r1.1
  obtain ⟨d1, d2, ed, _, h1, ⟨h2, h3⟩⟩ := e2
  obtain ⟨v, rfl⟩ := one_of_sh h1
  obtain ⟨A, c, rfl, hC, _⟩ := C_of_sh (S := shShare) (d := kInfo) toS rfl share_of h1
  subst h2
  have ecs : cs2 = #[.slice A (a2.1.map toS).length c, .int .i64 a2.2] := by apply Array.ext'; rw [ed]; rfl
  rw [ecs]
  exact victimPicksCore W hT a0 s (by unfold B64; omega) A c _ hC a2.2 h3
end Go.Proofs.YtadepdeckapgcaaDoor
end
