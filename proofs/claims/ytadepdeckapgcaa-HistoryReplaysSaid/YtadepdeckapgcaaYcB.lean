/- LawHistoryReplays, part 2: what the proof stands on (merged by wip/shake.py out of the session's texts and of what the print wrote for this claim). -/
import Derived.ArgAppend
import Derived.Below
import Derived.BigQuiet
import Derived.Deep.AppendLies
import Derived.Deep.CutBlock
import Derived.Deep.DeepCutAuto
import Derived.Deep.Draws
import Derived.Deep.LoopGhost
import Derived.Deep.OwnRows
import Derived.Deep.QuietTactic
import Derived.Deep.RegionHeld3
import Derived.Ground.Names2Prog
import Derived.Ground.SlgfProg
import Derived.KernelRfl
import Derived.Laws.BitsLemmas
import Derived.Laws.BytesArg
import Derived.Laws.IdiomCopy
import Derived.Laws.MakeOwn
import Derived.Laws.OwnMore
import Derived.Laws.Rows
import Derived.Laws.Slices
import Derived.Lib.AppendStr
import Derived.Lib.ConvBytes
import Derived.Lib.Hide
import Derived.Lib.OwnBridge
import Derived.Maps.AppendAt
import Derived.Maps.OwnOps
import Derived.Maps.OwnSet
import Derived.Maps.RangeRun
import Derived.Maps.RangeWalk
import Derived.OrdersHeld
import Derived.OwnWalk
import Derived.RowKit
import Derived.RowKit3
import Derived.Shelf.SlGeneric
import Derived.Shelf.Slices.Cells
import Derived.Shelf.Slices.Delete
import Derived.Shelf.Slices.Empties
import Derived.Shelf.Slices.In.SortNone
import Derived.Shelf.Slices.SearchI
import Derived.Shelf.Slices.Turned
import Derived.Shelf.SlicesE.DeleteFunc
import Derived.Shelf.SlicesE.IndexFunc
import Derived.Shelf.Small.Bits
import Derived.Shelf.Small.Wraps
import Derived.Shelf.Sort.Plain
import Derived.Shelf.Strconv.Itoa0
import Derived.Sort.Grow
import Derived.Tactics
import Derived.Test.YtadepdeckapgcaaProg
import Derived.WalkKit
import Derived.WideLaws
import Derived.Test.YtadepdeckapgcaaYcA

section
namespace Go.Proofs.Ytadepdeckapgcaa.PHi
open Go.RowKit Go.Proofs.Ytadepdeckapgcaa.Orc Go.Proofs.YtadepdeckapgcaaW.PrintWords Go.Proofs.YtadepdeckapgcaaW.PrintLast Go.Proofs.YtadepdeckapgcaaW.PrintMore
attribute [local go_sem] max2_int min2_int max_two min_two max_three min_three max_four min_four
set_option linter.unusedVariables false
set_option linter.unusedSimpArgs false
def errW : Option Int → Value
 | none => .nilIface
 | some c => .iface 0 (.int .i64 c)
theorem errW_none : errW none = .nilIface := rfl
theorem errW_some (c : Int) : errW (some c) = .iface 0 (.int .i64 c) := rfl
theorem info3 : (Try.prog.info? 3).map (fun i => (i.zero, i.size, i.bytes)) = some (some (.int .i64 0), 1, 8) := by kernel_rfl
theorem info29 : (Try.prog.info? 29).map (fun i => (i.zero, i.size, i.bytes)) = some (some (.agg #[(.int .i64 0), (.int .i64 0), (.int .i64 0), (.int .i64 0), (.int .i64 0)]), 5, 40) := by kernel_rfl
structure S29 where
 f0 : Int
 f1 : Int
 f2 : Int
 f3 : Int
 f4 : Int
def z29 : S29 := ⟨(0 : Int), (0 : Int), (0 : Int), (0 : Int), (0 : Int)⟩
def k29 : Kd S29 := Kd.iso (Kd.pair (Kd.int .i64) (Kd.pair (Kd.int .i64) (Kd.pair (Kd.int .i64) (Kd.pair (Kd.int .i64) (Kd.int .i64))))) (fun x : S29 => (x.f0, x.f1, x.f2, x.f3, x.f4))
theorem k29_heap : Kd.Heap k29 := Kd.heap_iso _ (Kd.heap_pair (Kd.heap_int .i64) (Kd.heap_pair (Kd.heap_int .i64) (Kd.heap_pair (Kd.heap_int .i64) (Kd.heap_pair (Kd.heap_int .i64) (Kd.heap_int .i64)))))
theorem k29_open {w : World} {x : S29} {cs : List Value} (h : k29.K w x cs) : cs = [.int .i64 x.f0, .int .i64 x.f1, .int .i64 x.f2, .int .i64 x.f3, .int .i64 x.f4] := by
 obtain ⟨_, _, rfl, rfl, ⟨_, _, rfl, rfl, ⟨_, _, rfl, rfl, ⟨_, _, rfl, rfl, rfl⟩⟩⟩⟩ := h
 exact rfl
theorem k29_mk (w : World) (x : S29)  : k29.K w x [.int .i64 x.f0, .int .i64 x.f1, .int .i64 x.f2, .int .i64 x.f3, .int .i64 x.f4] := ⟨[.int .i64 x.f0], [.int .i64 x.f1, .int .i64 x.f2, .int .i64 x.f3, .int .i64 x.f4], rfl, rfl, ⟨[.int .i64 x.f1], [.int .i64 x.f2, .int .i64 x.f3, .int .i64 x.f4], rfl, rfl, ⟨[.int .i64 x.f2], [.int .i64 x.f3, .int .i64 x.f4], rfl, rfl, ⟨[.int .i64 x.f3], [.int .i64 x.f4], rfl, rfl, rfl⟩⟩⟩⟩
theorem k29_mkM (w : World) (base : Nat) (ok : Nat → Prop) (x : S29)  : k29.M w base ok x [.int .i64 x.f0, .int .i64 x.f1, .int .i64 x.f2, .int .i64 x.f3, .int .i64 x.f4] := ⟨[.int .i64 x.f0], [.int .i64 x.f1, .int .i64 x.f2, .int .i64 x.f3, .int .i64 x.f4], rfl, rfl, ⟨[.int .i64 x.f1], [.int .i64 x.f2, .int .i64 x.f3, .int .i64 x.f4], rfl, rfl, ⟨[.int .i64 x.f2], [.int .i64 x.f3, .int .i64 x.f4], rfl, rfl, ⟨[.int .i64 x.f3], [.int .i64 x.f4], rfl, rfl, rfl⟩⟩⟩⟩
def rd_T29 (xs : List S29) (i : Int) : S29 := xs.getD i.toNat z29
theorem at_T29 {w : World} {A : Option Addr} {n : Nat} {xs : List S29} (h : Kd.C k29 w A n xs) (i : Int) (h0 : 0 ≤ i) (h1 : i < n) : ∃ ad , A = some ad ∧ w.cell? (ad.add (i.toNat * 5)) = some (.int .i64 (rd_T29 xs i).f0) ∧ w.cell? ⟨(ad.add (i.toNat * 5)).block, (ad.add (i.toNat * 5)).off + 1, none⟩ = some (.int .i64 (rd_T29 xs i).f1) ∧ w.cell? ⟨(ad.add (i.toNat * 5)).block, (ad.add (i.toNat * 5)).off + 2, none⟩ = some (.int .i64 (rd_T29 xs i).f2) ∧ w.cell? ⟨(ad.add (i.toNat * 5)).block, (ad.add (i.toNat * 5)).off + 3, none⟩ = some (.int .i64 (rd_T29 xs i).f3) ∧ w.cell? ⟨(ad.add (i.toNat * 5)).block, (ad.add (i.toNat * 5)).off + 4, none⟩ = some (.int .i64 (rd_T29 xs i).f4) := by
 obtain ⟨ad, c, e, _, hK, hc0⟩ := Kd.C_get h z29 i h0 h1
 have hc : ∀ j u, c[j]? = some u → w.cell? (ad.add (i.toNat * 5 + j)) = some u := hc0
 obtain rfl := k29_open hK
 exact ⟨ad, e, hc 0 _ rfl, by rw [← add_field _ _ 1 (by omega)]; exact hc 1 _ rfl, by rw [← add_field _ _ 2 (by omega)]; exact hc 2 _ rfl, by rw [← add_field _ _ 3 (by omega)]; exact hc 3 _ rfl, by rw [← add_field _ _ 4 (by omega)]; exact hc 4 _ rfl⟩
structure S31 where
 f0 : Int
 f1 : Int
 f2 : Int
 f3 : Int
def z31 : S31 := ⟨(0 : Int), (0 : Int), (0 : Int), (0 : Int)⟩
def k31 : Kd S31 := Kd.iso (Kd.pair (Kd.int .i64) (Kd.pair (Kd.int .i64) (Kd.pair (Kd.int .i64) (Kd.int .i64)))) (fun x : S31 => (x.f0, x.f1, x.f2, x.f3))
theorem k31_open {w : World} {x : S31} {cs : List Value} (h : k31.K w x cs) : cs = [.int .i64 x.f0, .int .i64 x.f1, .int .i64 x.f2, .int .i64 x.f3] := by
 obtain ⟨_, _, rfl, rfl, ⟨_, _, rfl, rfl, ⟨_, _, rfl, rfl, rfl⟩⟩⟩ := h
 exact rfl
theorem k31_mkM (w : World) (base : Nat) (ok : Nat → Prop) (x : S31)  : k31.M w base ok x [.int .i64 x.f0, .int .i64 x.f1, .int .i64 x.f2, .int .i64 x.f3] := ⟨[.int .i64 x.f0], [.int .i64 x.f1, .int .i64 x.f2, .int .i64 x.f3], rfl, rfl, ⟨[.int .i64 x.f1], [.int .i64 x.f2, .int .i64 x.f3], rfl, rfl, ⟨[.int .i64 x.f2], [.int .i64 x.f3], rfl, rfl, rfl⟩⟩⟩
def rd_T31 (xs : List S31) (i : Int) : S31 := xs.getD i.toNat z31
theorem at_T31 {w : World} {A : Option Addr} {n : Nat} {xs : List S31} (h : Kd.C k31 w A n xs) (i : Int) (h0 : 0 ≤ i) (h1 : i < n) : ∃ ad , A = some ad ∧ w.cell? (ad.add (i.toNat * 4)) = some (.int .i64 (rd_T31 xs i).f0) ∧ w.cell? ⟨(ad.add (i.toNat * 4)).block, (ad.add (i.toNat * 4)).off + 1, none⟩ = some (.int .i64 (rd_T31 xs i).f1) ∧ w.cell? ⟨(ad.add (i.toNat * 4)).block, (ad.add (i.toNat * 4)).off + 2, none⟩ = some (.int .i64 (rd_T31 xs i).f2) ∧ w.cell? ⟨(ad.add (i.toNat * 4)).block, (ad.add (i.toNat * 4)).off + 3, none⟩ = some (.int .i64 (rd_T31 xs i).f3) := by
 obtain ⟨ad, c, e, _, hK, hc0⟩ := Kd.C_get h z31 i h0 h1
 have hc : ∀ j u, c[j]? = some u → w.cell? (ad.add (i.toNat * 4 + j)) = some u := hc0
 obtain rfl := k31_open hK
 exact ⟨ad, e, hc 0 _ rfl, by rw [← add_field _ _ 1 (by omega)]; exact hc 1 _ rfl, by rw [← add_field _ _ 2 (by omega)]; exact hc 2 _ rfl, by rw [← add_field _ _ 3 (by omega)]; exact hc 3 _ rfl⟩
end Go.Proofs.Ytadepdeckapgcaa.PHi
end

section
namespace Go.Proofs.Ytadepdeckapgcaa.Hi
open Go.RowKit Go.Proofs.YtadepdeckapgcaaW.PrintWords Go.Proofs.YtadepdeckapgcaaW.PrintLast Go.Proofs.YtadepdeckapgcaaW.PrintMore Go.Proofs.Ytadepdeckapgcaa.PHi
set_option linter.unusedVariables false
set_option linter.unusedSimpArgs false
abbrev Mk := S29
def acc (m : Mk) : Bool := m.f0 == 1 || m.f0 == 2
def isEnd (m : Mk) : Bool := decide (m.f2 > 0) && (m.f0 == 3 || m.f0 == 4)
abbrev mkV (m : Mk) : Value := .agg #[.int .i64 m.f0, .int .i64 m.f1, .int .i64 m.f2, .int .i64 m.f3, .int .i64 m.f4]
theorem wAcc (w : World) (m : Mk) : Calls Try.prog 33 #[mkV m] w fun e w' => e = .returned (.bool (acc m)) ∧ Below w.heap.size w w' := by
  have hb : Hid (∀ o, Below w.heap.size w (w.alloc o)) := Lib.hid (fun o => (Below.refl _ _).alloc (Nat.le_refl _) _)
  unfold acc
  obtain ⟨f0, f1, f2, f3, f4⟩ := m
  dsimp only
  cases c1 : f0 == 1
  · go_enter Try.func33, Try.ntmps33
    go_wp2
    go_ret
    exact ⟨by simp, hb.out _⟩
  · go_enter Try.func33, Try.ntmps33
    go_wp2
    go_ret
    exact ⟨by simp, hb.out _⟩
theorem wRacc (w : World) (m : Mk) : Calls Try.prog 35 #[mkV m] w fun e w' => e = .returned (.bool (acc m)) ∧ Below w.heap.size w w' := by
  have hb : Hid (∀ o, Below w.heap.size w (w.alloc o)) := Lib.hid (fun o => (Below.refl _ _).alloc (Nat.le_refl _) _)
  unfold acc
  obtain ⟨f0, f1, f2, f3, f4⟩ := m
  dsimp only
  cases c1 : f0 == 1
  · go_enter Try.func35, Try.ntmps35
    go_wp2
    go_ret
    exact ⟨by simp, hb.out _⟩
  · go_enter Try.func35, Try.ntmps35
    go_wp2
    go_ret
    exact ⟨by simp, hb.out _⟩
theorem wEnd (w : World) (m : Mk) : Calls Try.prog 20 #[mkV m] w fun e w' => e = .returned (.bool (isEnd m)) ∧ Below w.heap.size w w' := by
  have hb : Hid (∀ o, Below w.heap.size w (w.alloc o)) := Lib.hid (fun o => (Below.refl _ _).alloc (Nat.le_refl _) _)
  unfold isEnd
  obtain ⟨f0, f1, f2, f3, f4⟩ := m
  dsimp only
  cases c1 : decide (f2 > 0)
  · go_enter Try.func20, Try.ntmps20
    go_wp2
    go_ret
    exact ⟨by simp, hb.out _⟩
  cases c2 : f0 == 3
  · go_enter Try.func20, Try.ntmps20
    go_wp2
    go_ret
    exact ⟨by simp, hb.out _⟩
  · go_enter Try.func20, Try.ntmps20
    go_wp2
    go_ret
    exact ⟨by simp, hb.out _⟩
def rhit (b : Int) (x y : Mk) : Bool := y.f2 == b && acc y && y.f3 == x.f3 && (x.f0 == 2 || y.f0 == 2)
def rgo (a : Int) (x : Mk) : Bool := x.f2 == a && acc x
def rconf (a b : Int) : List Mk → Bool
  | [] => false
  | x :: r => (rgo a x && r.any (rhit b x)) || rconf a b r
theorem rconf_cons (a b : Int) (x : Mk) (r : List Mk) : rconf a b (x :: r) = ((rgo a x && r.any (rhit b x)) || rconf a b r) := rfl
end Go.Proofs.Ytadepdeckapgcaa.Hi
end

section
namespace Go.Proofs.Ytadepdeckapgcaa.Hi
open Go.Proofs.Ytadepdeckapgcaa Go.RowKit Go.Maps Go.Proofs.YtadepdeckapgcaaW.PrintWords Go.Proofs.YtadepdeckapgcaaW.PrintLast Go.Proofs.YtadepdeckapgcaaW.PrintMore Go.Proofs.Ytadepdeckapgcaa.PHi
set_option linter.unusedVariables false
set_option linter.unusedSimpArgs false
theorem lawI : Keyed Try.prog 3 := int_keyed Try.underlying3
theorem zeroI (w : World) : (zeroValue 3).run Try.prog w = .ok (.int .i64 0) w := by kernel_rfl
def in64 (n : Int) : Prop := -9223372036854775808 ≤ n ∧ n ≤ 9223372036854775807
def inM (m : Mk) : Prop := in64 m.f0 ∧ in64 m.f1 ∧ in64 m.f2 ∧ in64 m.f3 ∧ in64 m.f4
theorem wfI {n : Int} (h : in64 n) : (Lit.int .i64 n).wf = true := WalkArith.wf_i64 h
theorem keyI (k : Int) : WideAt.IsKeyLit (.int .i64 k) := by trivial
abbrev En := S31
def endsG : List Mk → Nat → List Int → List En
  | [], _, _ => []
  | m :: r, i, L => if isEnd m = true then (if m.f2 ∈ L then endsG r (i + 1) L else ⟨m.f2, m.f1, m.f0, i⟩ :: endsG r (i + 1) (m.f2 :: L)) else endsG r (i + 1) L
theorem infoEn : (Try.prog.info? 31).map (fun i => (i.zero, i.size, i.bytes)) = some (some (.agg #[.int .i64 0, .int .i64 0, .int .i64 0, .int .i64 0]), 4, 32) := by kernel_rfl
structure EnRel (w : World) (l : List Mk) (i : Nat) (L : List Int) (out : List En) (v : Value) (wr : World) : Prop where
  eq : out ++ endsG (l.drop i) i L = endsG l 0 []
  own : ∃ D : DataW Unit, wr.ownsMap Try.prog 3 (plainElem Try.prog 3) w.heap.size i D ∧ ∀ k, Maps.has D (.int .i64 k) = decide (k ∈ L)
  row : Kd.R k31 31 wr w.heap.size (fun b => b ≠ w.heap.size) v out
  len : out.length ≤ i
  bel : Below w.heap.size w wr
set_option maxRecDepth 100000 in
set_option maxHeartbeats 2000000 in
theorem wEnds (w : World) (A : Option Addr) (c : Nat) (l : List Mk) (hC : Kd.C k29 w A l.length l) (hl : l.length ≤ 1000000) (hm : ∀ m ∈ l, inM m) :
    Calls Try.prog 7 #[.slice A l.length c] w fun e w' => ∃ v, e = .returned v ∧ Kd.R k31 31 w' w.heap.size (fun _ => True) v (endsG l 0 []) ∧ Below w.heap.size w w' := by
  have hmm := @run_makeMap Try.prog
  have HC := Lib.hid hC
  have HM := Lib.hid hm
  clear hC hm
  go_enter Try.func7, Try.ntmps7
  go_wp2
  go_loopw [3, 12] (fun v3 v12 wr => ∃ (i : Nat) (L : List Int) (out : List En), i ≤ l.length ∧ v12 = .int .i64 i ∧ Hid (EnRel w l i L out v3 wr)) (fun _ v12 _ => l.length - (intOf v12).toNat)
  case atStart => exact ⟨0, [], [], Nat.zero_le _, rfl, Lib.hid ⟨rfl, ⟨_, World.ownsMap_made _ _ _ _, fun k => rfl⟩, Kd.R_nil _ _ _ _ _, Nat.le_refl _, (Below.refl _ _).alloc (Nat.le_refl _) _⟩⟩
  case round =>
    obtain ⟨i, L, out, hi, rfl, HR⟩ := hrel
    by_cases hlt : i < l.length
    · obtain ⟨ad, eA, x0, x1, x2, x3, x4⟩ := at_T29 HC.out (i : Int) (by omega) (by omega)
      cases eA
      have hr : rd_T29 l (i : Int) = l[i] := by unfold rd_T29; simp [hlt]
      rw [hr] at x0 x1 x2 x3 x4
      simp only [Int.toNat_natCast] at x0 x1 x2 x3 x4
      have hmi := HM.out _ (List.getElem_mem hlt)
      obtain ⟨hq, ⟨D, hown, hD⟩, hrow, hlen, hbel⟩ := HR.out
      rw [List.drop_eq_getElem_cons hlt] at hq
      generalize l[i] = m at x0 x1 x2 x3 x4 hmi hq
      obtain ⟨f0, f1, f2, f3, f4⟩ := m
      dsimp only at x0 x1 x2 x3 x4
      replace x0 := (hbel.cell (World.block_lt_of_cell? w _ x0)).trans x0
      replace x1 := (hbel.cell (World.block_lt_of_cell? w _ x1)).trans x1
      replace x2 := (hbel.cell (World.block_lt_of_cell? w _ x2)).trans x2
      replace x3 := (hbel.cell (World.block_lt_of_cell? w _ x3)).trans x3
      replace x4 := (hbel.cell (World.block_lt_of_cell? w _ x4)).trans x4
      have HQ := Lib.hid hq; have HOWN := Lib.hid hown; have HD := Lib.hid hD; have HROW := Lib.hid hrow; have HBEL := Lib.hid hbel
      clear hq hown hD hrow hbel hr HR
      have HE := Lib.hid (wEnd (wr.alloc (.cells #[.int .i64 f0, .int .i64 f1, .int .i64 f2, .int .i64 f3, .int .i64 f4] 29)) ⟨f0, f1, f2, f3, f4⟩)
      have hwl := HOWN.out.lt
      simp only [endsG] at HQ
      generalize isEnd ⟨f0, f1, f2, f3, f4⟩ = ie at HE HQ
      have HB0 : Hid (Below w.heap.size w (wr.alloc (.cells #[.int .i64 f0, .int .i64 f1, .int .i64 f2, .int .i64 f3, .int .i64 f4] 29))) := Lib.hid (HBEL.out.alloc HBEL.out.size _)
      have HN := Lib.hid (Blk.new wr #[.int .i64 f0, .int .i64 f1, .int .i64 f2, .int .i64 f3, .int .i64 f4] 29)
      go_wp2_with fail
      refine HE.out.mono ?_
      rintro e w5 ⟨rfl, hb5⟩
      have HB5 : Hid (Below w.heap.size w w5) := Lib.hid (HB0.out.trans (hb5.mono (by simp; omega)))
      have HOWN5 : Hid (w5.ownsMap Try.prog 3 (plainElem Try.prog 3) w.heap.size i D) := Lib.hid ((HOWN.out.alloc _).kept (row := none) ⟨hb5.os, hb5.tape, hb5.output, hb5.size, fun k hk _ => hb5.block k hk⟩ (by simp))
      have HROW5 := Lib.hid (Kd.R_below (Kd.R_alloc HROW.out (.cells #[.int .i64 f0, .int .i64 f1, .int .i64 f2, .int .i64 f3, .int .i64 f4] 29)) hb5)
      have hblk : Blk w5 wr.heap.size #[.int .i64 f0, .int .i64 f1, .int .i64 f2, .int .i64 f3, .int .i64 f4] 29 := (hb5.block _ (by simp)).trans HN.out
      have HBLK := Lib.hid hblk
      have y0 := hblk.cell 0; have y1 := hblk.cell 1; have y2 := hblk.cell 2
      simp at y0 y1 y2
      clear hblk hb5 HE HN HB0 x0 x1 x2 x3 x4 HOWN HROW HBEL
      cases ie
      · rw [if_neg (by simp)] at HQ
        go_wp2
        go_roundw
        case rel => exact ⟨i + 1, L, out, by omega, by go_num, Lib.hid ⟨HQ.out, ⟨D, HOWN5.out.mono (by omega), HD.out⟩, HROW5.out, by omega, HB5.out⟩⟩
        case measure => simp [intOf]; omega
      rw [if_pos rfl] at HQ
      by_cases hin : f2 ∈ L
      · rw [if_pos hin] at HQ
        have hh : Maps.has D (.int .i64 f2) = true := (HD.out f2).trans (decide_eq_true hin)
        clear hin
        go_wp2_with (at_lookup; refine wpList_lookup_own_ok_int _ rfl _ _ 44 rfl 3 3 .i64 lawI Try.underlying44 Try.underlying3 (zeroI _) w.heap.size i D rfl HOWN5.out _ _ rfl (keyOf_int_mk Try.underlying3 (wfI hmi.2.2.1)) ?_; intro c5 hat hwc)
        go_roundw
        case rel => exact ⟨i + 1, L, out, by omega, by go_num, Lib.hid ⟨HQ.out, ⟨D, HOWN5.out.mono (by omega), HD.out⟩, HROW5.out, by omega, HB5.out⟩⟩
        case measure => simp [intOf]; omega
      · rw [if_neg hin] at HQ
        have hh : Maps.has D (.int .i64 f2) = false := (HD.out f2).trans (decide_eq_false hin)
        clear hin
        have hil : i < 1000000 := by omega
        have hw5 := Nat.le_trans (show wr.heap.size ≤ wr.heap.size + 1 by omega) (show wr.heap.size + 1 ≤ w5.heap.size from HBLK.out.lt)
        go_wp2_with (first
          | (at_lookup; refine wpList_lookup_own_ok_int _ rfl _ _ 44 rfl 3 3 .i64 lawI Try.underlying44 Try.underlying3 (zeroI _) w.heap.size i D rfl HOWN5.out _ _ rfl (keyOf_int_mk Try.underlying3 (wfI hmi.2.2.1)) ?_; intro c5 hat hwc)
          | (at_mapUpdate; refine wpList_mapUpdate_own _ rfl _ _ _ 44 rfl 3 3 lawI Try.underlying44 _ w.heap.size i D rfl HOWN5.out (by unfold maxLen; omega) _ _ _ rfl rfl (keyOf_int_mk Try.underlying3 (wfI hmi.2.2.1)) _ [] (plainElem_int Try.underlying3 (WalkArith.wf_i64 (by omega))) ?_; intro w6 hown6 hg6; have HOWN6 := Lib.hid hown6; have HB6 : Hid (Below w.heap.size w w6) := Lib.hid (HB5.out.grown hg6 HB5.out.size (fun j hj => by cases hj; exact Nat.le_refl _)); have HROW6 := Lib.hid (Kd.R_grown HROW5.out hg6 (fun k hk e => hk (by injection e))); have hbl6 : Blk w6 wr.heap.size #[.int .i64 f0, .int .i64 f1, .int .i64 f2, .int .i64 f3, .int .i64 f4] 29 := (hg6.block _ HBLK.out.lt (by simp; omega)).trans HBLK.out; have z0 := hbl6.cell 0; have z1 := hbl6.cell 1; have z2 := hbl6.cell 2; simp at z0 z1 z2; have hs6 := hg6.size; clear hown6 hg6 hbl6 y0 y1 y2)
          | ((with_reducible refine gate_builtin (b := .append) (xs := #[.tmp 33, .tmp 42]) rfl ?_); at_builtin; refine Kd.R_append k31 (w0 := w) w.heap.size rfl (.tmp 33) (.tmp 42) 24 31 (.agg #[.int .i64 0, .int .i64 0, .int .i64 0, .int .i64 0]) 32 rfl Try.underlying24 infoEn rfl (by decide) (by omega) _ out ⟨f2, f1, f0, i⟩ _ (fun b => b ≠ w.heap.size) (fun _ => False) rfl rfl ?aP (fun _ hk => hk.elim) ?aF HROW6.out HB6.out ?aS ?aL ?_; (case aP => exact k31_mkM _ _ _ _); (case aF => intro k hk; omega); (case aS => omega); (case aL => omega); intro v7 w7 ho7 hb7 hg7 hat7; have HROW7 := Lib.hid ho7; have HB7 := Lib.hid hb7; have HOWN7 := Lib.hid (HOWN6.out.kept hg7 (fun e => HROW6.out.1 _ e.symm rfl)); clear ho7 hb7 hg7 hat7))
        go_roundw
        case rel => exact ⟨i + 1, f2 :: L, out ++ [⟨f2, f1, f0, i⟩], by omega, by go_num, Lib.hid ⟨by rw [← HQ.out]; simp, ⟨_, HOWN7.out, fun k => by
          by_cases hk : k = f2
          · subst hk; rw [has_put_same HOWN5.out.isMap (keyI k)]; simp
          · rw [has_put_other (by intro e; injection e with _ e; exact hk e), HD.out k]; simp [hk]⟩, HROW7.out, by simp; omega, HB7.out⟩⟩
        case measure => simp [intOf]; omega
    · have e : i = l.length := by omega
      obtain ⟨hq, _, hrow, hlen, hbel⟩ := HR.out
      rw [List.drop_of_length_le (by omega)] at hq
      simp only [endsG, List.append_nil] at hq
      rw [hq] at hrow
      have HROW := Lib.hid hrow; have HBEL := Lib.hid hbel
      clear hq hrow hbel HR
      go_wp2
      go_ret
      exact ⟨_, rfl, Kd.R_mono HROW.out (fun _ _ => trivial), HBEL.out⟩
end Go.Proofs.Ytadepdeckapgcaa.Hi
namespace Go.Proofs.Ytadepdeckapgcaa.Orc
open Go.RowKit Go.Proofs.YtadepdeckapgcaaW.PrintWords Go.Proofs.YtadepdeckapgcaaW.PrintLast Go.Proofs.YtadepdeckapgcaaW.PrintMore Go.Proofs.Ytadepdeckapgcaa.PHi Go.Proofs.Ytadepdeckapgcaa.Hi
set_option linter.unusedVariables false
def inB (n : Int) : Bool := decide (-9223372036854775808 ≤ n) && decide (n ≤ 9223372036854775807)
def okM (l : List Mk) : Bool := decide (l.length ≤ 1000000) && l.all fun m => inB m.f0 && inB m.f1 && inB m.f2 && inB m.f3 && inB m.f4
theorem inB_in {n : Int} (h : inB n = true) : Hi.in64 n := by unfold inB at h; unfold Hi.in64; simpa using h
theorem okM_in {l : List Mk} (h : okM l = true) : l.length ≤ 1000000 ∧ ∀ m ∈ l, inM m := by
  unfold okM at h
  rw [Bool.and_eq_true] at h
  refine ⟨of_decide_eq_true h.1, fun m hm => ?_⟩
  have := List.all_eq_true.1 h.2 m hm
  simp only [Bool.and_eq_true] at this
  exact ⟨inB_in this.1.1.1.1, inB_in this.1.1.1.2, inB_in this.1.1.2, inB_in this.1.2, inB_in this.2⟩
def o_Ends.f (l : List Mk) : Option (List En) := if okM l = true then some (endsG l 0 []) else none
theorem o_Ends.calls (A0 : Option Addr) (c0 : Nat) (l : List Mk) (r : List En) (w : World) (hr0 : Kd.C k29 w A0 l.length l) (hc0 : l.length ≤ c0) (h : o_Ends.f l = some r) :
    Calls Try.prog 7 #[.slice A0 l.length c0] w fun e w' => ∃ v0_ : Value, e = .returned v0_ ∧ Kd.R k31 31 w' w.heap.size (fun _ => True) v0_ r ∧ Below w.heap.size w w' := by
  unfold o_Ends.f at h
  split at h
  · rename_i hb
    injection h with h; subst h
    obtain ⟨h1, h2⟩ := okM_in hb
    exact wEnds w A0 c0 l hr0 h1 h2
  · cases h
end Go.Proofs.Ytadepdeckapgcaa.Orc
end

section
namespace Go.Proofs
open Go.Shelf
def Try.lays189_ren : Go.Shelf.Ren := ⟨fun | 189 => 49 | 125 => 59 | 257 => 58 | 128 => 71 | 129 => 72 | 294 => 62 | 295 => 63 | 296 => 64 | 297 => 65 | 298 => 66 | 299 => 67 | 216 => 68 | 300 => 69 | 301 => 70 | 328 => 73 | 329 => 74 | 330 => 75 | 331 => 76 | 332 => 77 | 215 => 78 | 343 => 79 | n => n, fun | 28 => 26 | 3 => 3 | 46 => 100 | 0 => 0 | 51 => 101 | 53 => 113 | 4 => 4 | 183 => 106 | 182 => 105 | 131 => 46 | 5 => 5 | 9 => 9 | 218 => 114 | 222 => 118 | 228 => 120 | 229 => 121 | n => n, fun | n => n⟩
theorem Try.lays189 : Go.Proofs.Lays.n189 Try.prog Try.lays189_ren := {
  mixed := by kernel_rfl
  f125 := Try.func59.trans (congrArg some (by kernel_rfl))
  f128 := Try.func71.trans (congrArg some (by kernel_rfl))
  f129 := Try.func72.trans (congrArg some (by kernel_rfl))
  f189 := Try.func49.trans (congrArg some (by kernel_rfl))
  f215 := Try.func78.trans (congrArg some (by kernel_rfl))
  f216 := Try.func68.trans (congrArg some (by kernel_rfl))
  f257 := Try.func58.trans (congrArg some (by kernel_rfl))
  f294 := Try.func62.trans (congrArg some (by kernel_rfl))
  f295 := Try.func63.trans (congrArg some (by kernel_rfl))
  f296 := Try.func64.trans (congrArg some (by kernel_rfl))
  f297 := Try.func65.trans (congrArg some (by kernel_rfl))
  f298 := Try.func66.trans (congrArg some (by kernel_rfl))
  f299 := Try.func67.trans (congrArg some (by kernel_rfl))
  f300 := Try.func69.trans (congrArg some (by kernel_rfl))
  f301 := Try.func70.trans (congrArg some (by kernel_rfl))
  f328 := Try.func73.trans (congrArg some (by kernel_rfl))
  f329 := Try.func74.trans (congrArg some (by kernel_rfl))
  f330 := Try.func75.trans (congrArg some (by kernel_rfl))
  f331 := Try.func76.trans (congrArg some (by kernel_rfl))
  f332 := Try.func77.trans (congrArg some (by kernel_rfl))
  f343 := Try.func79.trans (congrArg some (by kernel_rfl))
  t0 := Try.underlying0
  a0 := Try.isAgg0
  z0 := Try.sizeOf0
  v0 := Try.zeroValue0
  t3 := Try.underlying3
  a3 := Try.isAgg3
  z3 := Try.sizeOf3
  v3 := Try.zeroValue3
  t4 := Try.underlying4
  a4 := Try.isAgg4
  z4 := Try.sizeOf4
  v4 := Try.zeroValue4
  t5 := Try.underlying5
  a5 := Try.isAgg5
  z5 := Try.sizeOf5
  v5 := Try.zeroValue5
  t9 := Try.underlying9
  a9 := Try.isAgg9
  z9 := Try.sizeOf9
  v9 := Try.zeroValue9
  t28 := Try.underlying26
  a28 := Try.isAgg26
  z28 := Try.sizeOf26
  v28 := Try.zeroValue26
  t46 := Try.underlying100
  a46 := Try.isAgg100
  z46 := Try.sizeOf100
  v46 := Try.zeroValue100
  t51 := Try.underlying101
  a51 := Try.isAgg101
  z51 := Try.sizeOf101
  v51 := Try.zeroValue101
  t53 := Try.underlying113
  a53 := Try.isAgg113
  z53 := Try.sizeOf113
  v53 := Try.zeroValue113
  t131 := Try.underlying46
  a131 := Try.isAgg46
  z131 := Try.sizeOf46
  v131 := Try.zeroValue46
  t182 := Try.underlying105
  a182 := Try.isAgg105
  z182 := Try.sizeOf105
  v182 := Try.zeroValue105
  t183 := Try.underlying106
  a183 := Try.isAgg106
  z183 := Try.sizeOf106
  v183 := Try.zeroValue106
  t218 := Try.underlying114
  a218 := Try.isAgg114
  z218 := Try.sizeOf114
  v218 := Try.zeroValue114
  t222 := Try.underlying118
  a222 := Try.isAgg118
  z222 := Try.sizeOf118
  v222 := Try.zeroValue118
  t228 := Try.underlying120
  a228 := Try.isAgg120
  z228 := Try.sizeOf120
  v228 := Try.zeroValue120
  t229 := Try.underlying121
  a229 := Try.isAgg121
  z229 := Try.sizeOf121
  v229 := Try.zeroValue121 }
open Go.Sort Go.RowKit in
theorem Try.slices_Sort_int (blk off cap : Nat) (zs : List Int) (w : World) (hH : Holds (Value.int .i64) w blk off zs.toArray) (hblk : blk < w.heap.size) (hsz : zs.length < 4611686018427387904) :
    Calls Try.prog 49 #[.slice (some ⟨blk, off, none⟩) zs.length cap] w fun e w' =>
      e = .returned (.tuple #[]) ∧ ∃ n os, w' = grow (putRow (Value.int .i64) (Sort.ahead w n) blk off (zs.mergeSort fun x y => decide (x ≤ y)).toArray) os := Any.slices_Sort_int Try.lays189 blk off cap zs w hH hblk hsz
def Try.laysNm223_ren : Go.Shelf.Ren := ⟨fun | 23 => 27 | n => n, fun | 22 => 26 | 3 => 3 | 4 => 4 | 0 => 0 | n => n, fun | n => n⟩
theorem Try.laysNm223 : Go.Proofs.Lays2.n23 Try.prog Try.laysNm223_ren := {
  mixed := by kernel_rfl
  f23 := Try.func27.trans (congrArg some (by kernel_rfl))
  t0 := Try.underlying0
  a0 := Try.isAgg0
  z0 := Try.sizeOf0
  v0 := Try.zeroValue0
  t3 := Try.underlying3
  a3 := Try.isAgg3
  z3 := Try.sizeOf3
  v3 := Try.zeroValue3
  t4 := Try.underlying4
  a4 := Try.isAgg4
  z4 := Try.sizeOf4
  v4 := Try.zeroValue4
  t22 := Try.underlying26
  a22 := Try.isAgg26
  z22 := Try.sizeOf26
  v22 := Try.zeroValue26
  i3 := by kernel_rfl }
open Go.RowKit Go.Lib Go.Sort in
theorem Try.slices_Delete_int (blk off cap i j : Nat) (zs : List Int) (w : World) (hH : Holds (Value.int .i64) w blk off zs.toArray) (hcap : zs.length ≤ cap) (hm : cap ≤ 9223372036854775807) (hij : i ≤ j) (hj : j ≤ zs.length) :
    Calls Try.prog 27 #[.slice (some ⟨blk, off, none⟩) zs.length cap, .int .i64 i, .int .i64 j] w fun e w' => e = .returned (.slice (some ⟨blk, off, none⟩) (zs.length - (j - i)) cap) ∧ ∃ q, w' = putRow (Value.int .i64) (Sort.ahead w q) blk off (zs.take i ++ zs.drop j ++ List.replicate (j - i) 0).toArray := Any.slices_Delete_int Try.laysNm223 blk off cap i j zs w hH hcap hm hij hj
open Go.RowKit Go.Sort in
theorem Try.slices_Sort_int_none (p : Option Addr) (cap : Nat) (w : World) :
    Calls Try.prog 49 #[.slice p 0 cap] w fun e w' => e = .returned (.tuple #[]) ∧ w' = w := Any.slices_Sort_int_none Try.lays189 p cap w
def Try.laysSlH10_f31_ren : Go.Shelf.Ren := ⟨fun | 10 => 31 | 6 => 22 | n => n, fun | 22 => 26 | 23 => 3 | 25 => 49 | 3 => 3 | 4 => 4 | 0 => 0 | n => n, fun | n => n⟩
theorem Try.laysSlH10_f31 : Go.Proofs.SlLaysH.n10 Try.prog Try.laysSlH10_f31_ren := {
  mixed := by kernel_rfl
  f6 := ⟨Try.f22.name, by decide, Try.func22.trans (congrArg some (by kernel_rfl))⟩
  f10 := ⟨Try.f31.name, by decide, Try.func31.trans (congrArg some (by kernel_rfl))⟩
  t0 := Try.underlying0
  a0 := Try.isAgg0
  z0 := Try.sizeOf0
  v0 := Try.zeroValue0
  t3 := Try.underlying3
  a3 := Try.isAgg3
  z3 := Try.sizeOf3
  v3 := Try.zeroValue3
  t4 := Try.underlying4
  a4 := Try.isAgg4
  z4 := Try.sizeOf4
  v4 := Try.zeroValue4
  t22 := Try.underlying26
  a22 := Try.isAgg26
  z22 := Try.sizeOf26
  v22 := Try.zeroValue26
  a23 := Try.isAgg3
  z23 := Try.sizeOf3
  t25 := Try.underlying49
  a25 := Try.isAgg49
  z25 := Try.sizeOf49
  v25 := Try.zeroValue49 }
open Go.RowKit Go.Lib Go.Sort in
theorem Try.slices_DeleteFunc {α : Type} [Inhabited α] (enc : α → Value) (hO : OneCell enc) (p : α → Bool) (g : Nat) (lb : Array Value) (eg : ∀ args w, (callFunc g args).run Try.prog w = .ok (.enter g args) w) (zr : α) (v23 : ∀ w, (zeroValue 3).run Try.prog w = .ok (enc zr) w) (blk off cap : Nat) (d : Array α) (w : World) (hp : PredAt Try.prog g lb enc p w) (hpo : PredOver Try.prog g lb enc p blk off d.size w) (hH : Holds enc w blk off d) (hsz : d.size ≤ 9223372036854775807) (hcap : d.size ≤ cap) :
    Calls Try.prog 31 #[.slice (some ⟨blk, off, none⟩) d.size cap, .func (.func g) #[] lb] w fun e w' => e = .returned (.slice (some ⟨blk, off, none⟩) (d.toList.filter fun x => !p x).length cap) ∧ ∃ q, w' = putRow enc (Sort.ahead w q) blk off ((d.toList.filter fun x => !p x) ++ List.replicate (d.size - (d.toList.filter fun x => !p x).length) zr).toArray := AnyE.slices_DeleteFunc Try.laysSlH10_f31 enc hO p g lb eg zr v23 blk off cap d w hp hpo hH hsz hcap
end Go.Proofs
end

section
namespace Go.Proofs.Ytadepdeckapgcaa.Hi
open Go.Proofs.Ytadepdeckapgcaa Go.RowKit Go.Maps Go.Proofs.YtadepdeckapgcaaW.PrintWords Go.Proofs.YtadepdeckapgcaaW.PrintLast Go.Proofs.YtadepdeckapgcaaW.PrintMore Go.Proofs.Ytadepdeckapgcaa.PHi
set_option linter.unusedVariables false
set_option linter.unusedSimpArgs false
def srt (l : List Int) : List Int := l.mergeSort fun x y => decide (x ≤ y)
theorem srt_grown {w : World} {g n : Nat} {os : Array Obj} (d : Array Int) : w.grownBy (Go.Sort.grow (Go.Sort.putRow (Value.int .i64) (Go.Sort.ahead w n) g 0 d) os) (some g) := by
  refine ⟨rfl, rfl, rfl, by simp, fun k hk hne => ?_⟩
  rw [Go.Sort.heap_grow_old _ _ (by simpa using hk)]
  have : g ≠ k := fun e => hne (by rw [e])
  simp [Go.Sort.putRow, Go.Sort.mapBlock, Go.Sort.ahead, Array.getElem?_modify, this]
theorem srt_owns {w : World} {base g n cap q : Nat} {e : TypeId} {zs ys : List Int} {os : Array Obj} (h : w.ownsRow base e 1 (.slice (some ⟨g, 0, none⟩) n cap) n (zs.map (Value.int .i64))) (hy : ys.length = n) :
    (Go.Sort.grow (Go.Sort.putRow (Value.int .i64) (Go.Sort.ahead w q) g 0 ys.toArray) os).ownsRow base e 1 (.slice (some ⟨g, 0, none⟩) n cap) n (ys.map (Value.int .i64)) := by
  have h1 := Lib.ownsRow_putRow (q := q) h hy (Nat.le_refl n)
  rw [List.take_of_length_le (by omega)] at h1
  refine own_move h1 (fun k hk => ?_)
  have hk' : g = k := by simpa [Value.ownBlock] using hk
  subst hk'
  refine Go.Sort.heap_grow_old _ _ ?_
  obtain ⟨cells, hc⟩ := own_typed h1 g (by simp [Value.ownBlock])
  exact (Array.getElem?_eq_some_iff.1 hc).1
theorem wSortI (w : World) (base : Nat) (v : Value) (xs : List Int) (h : Kd.R (Kd.int .i64) 3 w base (fun _ => True) v xs) (hl : xs.length ≤ 1000000) :
    Calls Try.prog 49 #[v] w fun e w' => e = .returned (.tuple #[]) ∧ Kd.R (Kd.int .i64) 3 w' base (fun _ => True) v (srt xs) ∧ w.grownBy w' v.ownBlock := by
  have hlen : (srt xs).length = xs.length := List.length_mergeSort _
  have ho : w.ownsRow base 3 1 v xs.length (xs.map (Value.int .i64)) := Kd.own_of_R (enc := Value.int .i64) (h1 := fun _ => rfl) h
  by_cases h0 : v = .slice none 0 0
  · subst h0
    have e : xs = [] := by
      obtain ⟨A, c, e, _⟩ := Kd.R_reads h
      injection e with _ e _
      exact List.eq_nil_of_length_eq_zero e.symm
    subst e
    refine (Try.slices_Sort_int_none none 0 w).mono ?_
    rintro e w' ⟨rfl, rfl⟩
    refine ⟨rfl, by simpa [srt] using h, ⟨rfl, rfl, rfl, Nat.le_refl _, fun _ _ _ => rfl⟩⟩
  · obtain ⟨g, cap, rfl, hb, hg, hn, hm, hz, hH⟩ := Lib.holds_of_ownsRow ho h0
    refine (Try.slices_Sort_int g 0 cap xs w hH hg (by omega)).mono ?_
    rintro e w' ⟨rfl, n, os, rfl⟩
    refine ⟨rfl, ?_, srt_grown _⟩
    have q := srt_owns (q := n) (os := os) (ys := srt xs) ho hlen
    refine Kd.R_of_own (enc := Value.int .i64) (h1 := fun _ => rfl) ?_ (fun _ _ => trivial)
    rw [hlen]; exact q
def comsG : List En → List Int
  | [] => []
  | e :: r => if e.f2 = 3 then e.f0 :: comsG r else comsG r
theorem comsG_len : ∀ l : List En, (comsG l).length ≤ l.length
  | [] => Nat.le_refl _
  | e :: r => by have := comsG_len r; unfold comsG; split <;> simp <;> omega
theorem endsG_len : ∀ (l : List Mk) (i : Nat) (L : List Int), (endsG l i L).length ≤ l.length
  | [], _, _ => Nat.le_refl _
  | m :: r, i, L => by
    have a := endsG_len r (i + 1) L; have b := endsG_len r (i + 1) (m.f2 :: L)
    unfold endsG; split
    · split
      · simp; omega
      · simp; omega
    · simp; omega
def committedG (l : List Mk) : List Int := srt (comsG (endsG l 0 []))
structure CmRel (w1 : World) (es : List En) (i : Nat) (out : List Int) (v : Value) (wr : World) : Prop where
  eq : out ++ comsG (es.drop i) = comsG es
  row : Kd.R (Kd.int .i64) 3 wr w1.heap.size (fun _ => True) v out
  len : out.length ≤ i
  bel : Below w1.heap.size w1 wr
set_option maxRecDepth 100000 in
set_option maxHeartbeats 2000000 in
theorem wCommitted (w : World) (A : Option Addr) (c : Nat) (l : List Mk) (hC : Kd.C k29 w A l.length l) (hl : l.length ≤ 1000000) (hm : ∀ m ∈ l, inM m) :
    Calls Try.prog 21 #[.slice A l.length c] w fun e w' => ∃ v, e = .returned v ∧ Kd.R (Kd.int .i64) 3 w' w.heap.size (fun _ => True) v (committedG l) ∧ Below w.heap.size w w' := by
  have HE := Lib.hid (wEnds w A c l hC hl hm)
  have hel := endsG_len l 0 []
  unfold committedG
  generalize endsG l 0 [] = es at HE hel ⊢
  clear hC hm
  go_enter Try.func21, Try.ntmps21
  go_wp2_with fail
  refine HE.out.mono ?_
  rintro e w1 ⟨v7, rfl, hr, hb⟩
  obtain ⟨A1, c1, rfl, hc1, hC1⟩ := Kd.R_reads hr
  have HC := Lib.hid hC1; have HB := Lib.hid hb
  clear hr hb hC1 HE
  go_wp2
  go_loopw [3, 9] (fun v3 v9 wr => ∃ (i : Nat) (out : List Int), i ≤ es.length ∧ v9 = .int .i64 i ∧ Hid (CmRel w1 es i out v3 wr)) (fun _ v9 _ => es.length - (intOf v9).toNat)
  case atStart => exact ⟨0, [], Nat.zero_le _, rfl, Lib.hid ⟨rfl, Kd.R_nil _ _ _ _ _, Nat.le_refl _, Below.refl _ _⟩⟩
  case round =>
    obtain ⟨i, out, hi, rfl, HR⟩ := hrel
    by_cases hlt : i < es.length
    · obtain ⟨ad, eA, x0, x1, x2, x3⟩ := at_T31 HC.out (i : Int) (by omega) (by omega)
      cases eA
      have hr : rd_T31 es (i : Int) = es[i] := by unfold rd_T31; simp [hlt]
      rw [hr] at x0 x1 x2 x3
      simp only [Int.toNat_natCast] at x0 x1 x2 x3
      obtain ⟨hq, hrow, hlen, hbel⟩ := HR.out
      rw [List.drop_eq_getElem_cons hlt] at hq
      generalize es[i] = m at x0 x1 x2 x3 hq
      obtain ⟨f0, f1, f2, f3⟩ := m
      dsimp only at x0 x1 x2 x3
      replace x0 := (hbel.cell (World.block_lt_of_cell? _ _ x0)).trans x0
      replace x1 := (hbel.cell (World.block_lt_of_cell? _ _ x1)).trans x1
      replace x2 := (hbel.cell (World.block_lt_of_cell? _ _ x2)).trans x2
      replace x3 := (hbel.cell (World.block_lt_of_cell? _ _ x3)).trans x3
      have HQ := Lib.hid hq; have HROW := Lib.hid hrow; have HBEL := Lib.hid hbel
      have hsz := hbel.size
      clear hq hrow hbel hr HR
      by_cases h3 : f2 = 3
      · have h3b : (f2 == 3) = true := by simp [h3]
        have HQ2 : Hid ((out ++ [f0]) ++ comsG (es.drop (i + 1)) = comsG es) := Lib.hid (by rw [← HQ.out]; simp only [comsG]; rw [if_pos h3]; simp)
        clear h3 HQ
        go_wp2_with ((with_reducible refine gate_builtin (b := .append) (xs := #[.tmp 16, .tmp 19]) rfl ?_); at_builtin; refine Kd.R_append (Kd.int .i64) (w0 := w1) w1.heap.size rfl (.tmp 16) (.tmp 19) 26 3 (.int .i64 0) 8 rfl Try.underlying26 info3 rfl (by decide) (by omega) _ out f0 [.int .i64 f0] (fun _ => True) (fun _ => False) rfl (by refine Eq.trans (b := .slice (some ⟨wr.heap.size + 1, 0, none⟩) 1 1) rfl ?_; simp) ?aP (fun _ hk => hk.elim) ?aF (Kd.R_alloc HROW.out _) (HBEL.out.alloc hsz _) ?aS ?aL ?_; (case aP => exact rfl); (case aF => intro k hk; trivial); (case aS => simp; omega); (case aL => omega); intro v7 w7 ho7 hb7 hg7 hat7; have HROW7 := Lib.hid ho7; have HB7 := Lib.hid hb7; clear ho7 hb7 hg7 hat7)
        go_roundw
        case rel => exact ⟨i + 1, out ++ [f0], by omega, by go_num, Lib.hid ⟨HQ2.out, HROW7.out, by simp; omega, HB7.out⟩⟩
        case measure => simp [intOf]; omega
      · have h3b : (f2 == 3) = false := by simp [h3]
        have HQ2 : Hid (out ++ comsG (es.drop (i + 1)) = comsG es) := Lib.hid (by rw [← HQ.out]; simp only [comsG]; rw [if_neg h3])
        clear h3 HQ
        go_wp2
        go_roundw
        case rel => exact ⟨i + 1, out, by omega, by go_num, Lib.hid ⟨HQ2.out, Kd.R_alloc HROW.out _, by omega, HBEL.out.alloc hsz _⟩⟩
        case measure => simp [intOf]; omega
    · obtain ⟨hq, hrow, hlen, hbel⟩ := HR.out
      rw [List.drop_of_length_le (by omega)] at hq
      simp only [comsG, List.append_nil] at hq
      rw [hq] at hrow
      have hcl := comsG_len es
      have HS := Lib.hid (wSortI wr w1.heap.size _ _ hrow (by omega))
      have HBEL : Hid (Below w.heap.size w wr) := Lib.hid (HB.out.trans (hbel.mono HB.out.size))
      have HOB := Lib.hid hrow
      have hbs := HB.out.size
      clear hq hrow hbel HR
      go_wp2_with (go_at_call 49; refine HS.out.mono ?_; rintro e w8 ⟨rfl, hr8, hg8⟩; have HR8 := Lib.hid hr8; have HG8 := Lib.hid hg8; clear hr8 hg8)
      go_ret
      refine ⟨_, rfl, Kd.R_lower HR8.out hbs, HBEL.out.grown HG8.out HBEL.out.size (fun j hj => ?_)⟩
      have := (Kd.R_bound HOB.out).1 j (by rw [hj])
      omega
end Go.Proofs.Ytadepdeckapgcaa.Hi
namespace Go.Proofs.Ytadepdeckapgcaa.Orc
open Go.RowKit Go.Proofs.YtadepdeckapgcaaW.PrintWords Go.Proofs.YtadepdeckapgcaaW.PrintLast Go.Proofs.YtadepdeckapgcaaW.PrintMore Go.Proofs.Ytadepdeckapgcaa.PHi Go.Proofs.Ytadepdeckapgcaa.Hi
set_option linter.unusedVariables false
def o_committed.f (l : List Mk) : Option (List Int) := if okM l = true then some (committedG l) else none
theorem o_committed.calls (A0 : Option Addr) (c0 : Nat) (l : List Mk) (r : List Int) (w : World) (hr0 : Kd.C k29 w A0 l.length l) (hc0 : l.length ≤ c0) (h : o_committed.f l = some r) :
    Calls Try.prog 21 #[.slice A0 l.length c0] w fun e w' => ∃ v0_ : Value, e = .returned v0_ ∧ Kd.R (Kd.int .i64) 3 w' w.heap.size (fun _ => True) v0_ r ∧ Below w.heap.size w w' := by
  unfold o_committed.f at h
  split at h
  · rename_i hb
    injection h with h; subst h
    obtain ⟨h1, h2⟩ := okM_in hb
    exact wCommitted w A0 c0 l hr0 h1 h2
  · cases h
end Go.Proofs.Ytadepdeckapgcaa.Orc
end

section
namespace Go.Proofs.Ytadepdeckapgcaa.Hi
open Go.Proofs.Ytadepdeckapgcaa Go.RowKit Go.Maps Go.Proofs.YtadepdeckapgcaaW.PrintWords Go.Proofs.YtadepdeckapgcaaW.PrintLast Go.Proofs.YtadepdeckapgcaaW.PrintMore Go.Proofs.Ytadepdeckapgcaa.PHi
set_option linter.unusedVariables false
set_option linter.unusedSimpArgs false
def IM (wr : World) (b n : Nat) (L : List Int) : Prop := ∃ D : DataW Unit, wr.ownsMap Try.prog 3 (plainElem Try.prog 3) b n D ∧ ∀ k, ∃ c : Int, D.atKey (.int .i64 k) (.lit (.int .i64 0)) = .lit (.int .i64 c) ∧ 0 ≤ c ∧ c ≤ n ∧ (0 < c ↔ k ∈ L)
theorem IM.lt {w : World} {b n : Nat} {L : List Int} (h : IM w b n L) : b < w.heap.size := by obtain ⟨D, h, _⟩ := h; exact h.lt
theorem IM.look {w : World} {b n : Nat} {L : List Int} (h : IM w b n L) (k : Int) (hk : in64 k) : ∃ c : Int, (Instr.lookup 44 (.map (some b)) (.int .i64 k) false).run Try.prog w = .ok (.int .i64 c) w ∧ 0 ≤ c ∧ c ≤ n ∧ (0 < c ↔ k ∈ L) := by
  obtain ⟨D, ho, hD⟩ := h
  obtain ⟨c, hrun, hat, _⟩ := ho.lookup_int lawI Try.underlying44 Try.underlying3 (zeroI _) (keyOf_int_mk Try.underlying3 (wfI hk))
  obtain ⟨c', hc', h1, h2, h3⟩ := hD k
  rw [hat] at hc'
  injection hc' with hc'; injection hc' with _ hc'
  subst hc'
  exact ⟨c, hrun, h1, h2, h3⟩
theorem IM.kept {w w' : World} {b n : Nat} {L : List Int} {row : Option Nat} (h : IM w b n L) (hg : w.grownBy w' row) (hne : some b ≠ row) : IM w' b n L := by obtain ⟨D, h, hD⟩ := h; exact ⟨D, h.kept hg hne, hD⟩
theorem IM.alloc {w : World} {b n : Nat} {L : List Int} (h : IM w b n L) (o : Obj) : IM (w.alloc o) b n L := by obtain ⟨D, h, hD⟩ := h; exact ⟨D, h.alloc o, hD⟩
theorem IM.below {w w' : World} {b n : Nat} {L : List Int} (h : IM w b n L) (hb : Below w.heap.size w w') : IM w' b n L := h.kept (row := none) ⟨hb.os, hb.tape, hb.output, hb.size, fun k hk _ => hb.block k hk⟩ (by simp)
theorem IM.mono {w : World} {b n n' : Nat} {L : List Int} (h : IM w b n L) (hn : n ≤ n') : IM w b n' L := by
  obtain ⟨D, h, hD⟩ := h
  refine ⟨D, h.mono hn, fun k => ?_⟩
  obtain ⟨c, h1, h2, h3, h4⟩ := hD k
  exact ⟨c, h1, h2, by omega, h4⟩
theorem IM.made (w : World) : IM (w.alloc (.map #[] 0)) w.heap.size 0 [] := ⟨_, World.ownsMap_made _ _ _ _, fun k => ⟨0, rfl, by omega, by omega, by simp⟩⟩
theorem IM.put {w : World} {b n : Nat} {L : List Int} (h : IM w b n L) (k c : Int) (hk : in64 k) (hn : n ≤ 1000000) (h0 : 0 ≤ c) (h1 : c ≤ n) :
    ∃ w', (Instr.mapUpdate 44 (.map (some b)) (.int .i64 k) (.int .i64 (c + 1))).run Try.prog w = .ok () w' ∧ IM w' b (n + 1) (k :: L) ∧ w.grownBy w' (some b) := by
  obtain ⟨D, ho, hD⟩ := h
  obtain ⟨w', hrun, ho', hg⟩ := ho.update lawI Try.underlying44 (by unfold maxLen; omega) (keyOf_int_mk Try.underlying3 (wfI hk)) (plainElem_int Try.underlying3 (a := c + 1) (WalkArith.wf_i64 (by omega)))
  refine ⟨w', hrun, ⟨_, ho', fun j => ?_⟩, hg⟩
  by_cases hj : j = k
  · subst hj
    rw [atKey_put_same ho.isMap (keyI j)]
    exact ⟨c + 1, rfl, by omega, by omega, by simp; omega⟩
  · obtain ⟨c', e1, e2, e3, e4⟩ := hD j
    rw [atKey_put_other (by intro e; injection e with _ e; exact hj e), e1]
    exact ⟨c', rfl, e2, by omega, by rw [e4]; simp [hj]⟩
def confS (a b : Int) : List Mk → List Int → List Int → Bool
  | [], _, _ => false
  | m :: r, R, W => if acc m = true then (if m.f2 = b ∧ (m.f3 ∈ W ∨ (m.f0 = 2 ∧ m.f3 ∈ R)) then true
      else confS a b r (if m.f2 = a then m.f3 :: R else R) (if m.f2 = a ∧ m.f0 = 2 then m.f3 :: W else W)) else confS a b r R W
structure CfRel (w : World) (a b : Int) (l : List Mk) (i : Nat) (R W : List Int) (wr : World) : Prop where
  eq : confS a b (l.drop i) R W = confS a b l [] []
  rd : IM wr w.heap.size i R
  wt : IM wr (w.heap.size + 1) i W
  bel : Below w.heap.size w wr
set_option maxRecDepth 100000 in
set_option maxHeartbeats 4000000 in
theorem wConflict (w : World) (A : Option Addr) (c : Nat) (l : List Mk) (a b : Int) (hC : Kd.C k29 w A l.length l) (hl : l.length ≤ 1000000) (hm : ∀ m ∈ l, inM m) :
    Calls Try.prog 26 #[.slice A l.length c, .int .i64 a, .int .i64 b] w fun e w' => e = .returned (.bool (confS a b l [] [])) ∧ Below w.heap.size w w' := by
  have hmm := @run_makeMap Try.prog
  have HC := Lib.hid hC
  have HM := Lib.hid hm
  clear hC hm
  go_enter Try.func26, Try.ntmps26
  go_wp2
  go_loopw [15] (fun v15 wr => ∃ (i : Nat) (R W : List Int), i ≤ l.length ∧ v15 = .int .i64 i ∧ Hid (CfRel w a b l i R W wr)) (fun v15 _ => l.length - (intOf v15).toNat)
  case atStart => exact ⟨0, [], [], Nat.zero_le _, rfl, Lib.hid ⟨rfl, (IM.made w).alloc _, by have := IM.made (w.alloc (.map #[] 0)); simpa using this, ((Below.refl _ _).alloc (Nat.le_refl _) _).alloc (by simp) _⟩⟩
  case round =>
    obtain ⟨i, R, W, hi, rfl, HR⟩ := hrel
    by_cases hlt : i < l.length
    · obtain ⟨ad, eA, x0, x1, x2, x3, x4⟩ := at_T29 HC.out (i : Int) (by omega) (by omega)
      cases eA
      have hr : rd_T29 l (i : Int) = l[i] := by unfold rd_T29; simp [hlt]
      rw [hr] at x0 x1 x2 x3 x4
      simp only [Int.toNat_natCast] at x0 x1 x2 x3 x4
      have hmi := HM.out _ (List.getElem_mem hlt)
      obtain ⟨hq, hrd, hwt, hbel⟩ := HR.out
      rw [List.drop_eq_getElem_cons hlt] at hq
      generalize l[i] = m at x0 x1 x2 x3 x4 hmi hq
      obtain ⟨f0, f1, f2, f3, f4⟩ := m
      dsimp only at x0 x1 x2 x3 x4
      replace x0 := (hbel.cell (World.block_lt_of_cell? w _ x0)).trans x0
      replace x1 := (hbel.cell (World.block_lt_of_cell? w _ x1)).trans x1
      replace x2 := (hbel.cell (World.block_lt_of_cell? w _ x2)).trans x2
      replace x3 := (hbel.cell (World.block_lt_of_cell? w _ x3)).trans x3
      replace x4 := (hbel.cell (World.block_lt_of_cell? w _ x4)).trans x4
      have HQ := Lib.hid hq; have HRD := Lib.hid hrd; have HWT := Lib.hid hwt; have HBEL := Lib.hid hbel
      have hwl := hwt.lt
      have hsz := hbel.size
      have HE := Lib.hid (wAcc (wr.alloc (.cells #[.int .i64 f0, .int .i64 f1, .int .i64 f2, .int .i64 f3, .int .i64 f4] 29)) ⟨f0, f1, f2, f3, f4⟩)
      have HB0 : Hid (Below w.heap.size w (wr.alloc (.cells #[.int .i64 f0, .int .i64 f1, .int .i64 f2, .int .i64 f3, .int .i64 f4] 29))) := Lib.hid (hbel.alloc hsz _)
      have HN := Lib.hid (Blk.new wr #[.int .i64 f0, .int .i64 f1, .int .i64 f2, .int .i64 f3, .int .i64 f4] 29)
      clear hq hrd hwt hbel hr HR
      simp only [confS] at HQ
      generalize acc ⟨f0, f1, f2, f3, f4⟩ = ie at HE HQ
      go_wp2_with fail
      refine HE.out.mono ?_
      rintro e w5 ⟨rfl, hb5⟩
      have HB5 : Hid (Below w.heap.size w w5) := Lib.hid (HB0.out.trans (hb5.mono (by simp; omega)))
      have HRD5 := Lib.hid ((HRD.out.alloc (.cells #[.int .i64 f0, .int .i64 f1, .int .i64 f2, .int .i64 f3, .int .i64 f4] 29)).below hb5)
      have HWT5 := Lib.hid ((HWT.out.alloc (.cells #[.int .i64 f0, .int .i64 f1, .int .i64 f2, .int .i64 f3, .int .i64 f4] 29)).below hb5)
      have hblk : Blk w5 wr.heap.size #[.int .i64 f0, .int .i64 f1, .int .i64 f2, .int .i64 f3, .int .i64 f4] 29 := (hb5.block _ (by simp)).trans HN.out
      have HBLK := Lib.hid hblk
      have y0 := hblk.cell 0; have y2 := hblk.cell 2; have y3 := hblk.cell 3
      simp at y0 y2 y3
      clear hblk hb5 HE HN HB0 x0 x1 x2 x3 x4 HRD HWT HBEL
      cases ie
      · rw [if_neg (by simp)] at HQ
        go_wp2
        go_roundw
        case rel => exact ⟨i + 1, R, W, by omega, by go_num, Lib.hid ⟨HQ.out, HRD5.out.mono (by omega), HWT5.out.mono (by omega), HB5.out⟩⟩
        case measure => simp [intOf]; omega
      rw [if_pos rfl] at HQ
      obtain ⟨cw, hrunW, w0, w1, hW⟩ := HWT5.out.look f3 hmi.2.2.2.1
      obtain ⟨cr, hrunR, r0, r1, hRr⟩ := HRD5.out.look f3 hmi.2.2.2.1
      have HHW := Lib.hid hW; have HHR := Lib.hid hRr
      clear hW hRr
      go_upto_region 6 with fail
      go_cut [44] (fun v44 wc => v44 = .bool (f2 == b && (decide (f3 ∈ W) || (f0 == 2 && decide (f3 ∈ R)))) ∧ wc = w5)
      case first =>
        cases c1 : f2 == b
        · go_wp2
          go_meet
          case rel => exact ⟨by rw [c1]; rfl, rfl⟩
        by_cases cW : 0 < cw
        · have d1 : decide (f3 ∈ W) = true := decide_eq_true (HHW.out.1 cW)
          go_wp2
          go_meet
          case rel => exact ⟨by rw [c1, d1]; rfl, rfl⟩
        have d1 : decide (f3 ∈ W) = false := decide_eq_false (fun q => cW (HHW.out.2 q))
        cases c2 : f0 == 2
        · go_wp2
          go_meet
          case rel => exact ⟨by rw [c1, d1, c2]; rfl, rfl⟩
        by_cases cR : 0 < cr
        · have d2 : decide (f3 ∈ R) = true := decide_eq_true (HHR.out.1 cR)
          go_wp2
          go_meet
          case rel => exact ⟨by rw [c1, d1, c2, d2]; rfl, rfl⟩
        · have d2 : decide (f3 ∈ R) = false := decide_eq_false (fun q => cR (HHR.out.2 q))
          go_wp2
          go_meet
          case rel => exact ⟨by rw [c1, d1, c2, d2]; rfl, rfl⟩
      case rest =>
        obtain ⟨rfl, rfl⟩ := hcut
        have hcond : (f2 == b && (decide (f3 ∈ W) || (f0 == 2 && decide (f3 ∈ R)))) = true ↔ f2 = b ∧ (f3 ∈ W ∨ (f0 = 2 ∧ f3 ∈ R)) := by simp
        have HCO := Lib.hid hcond
        clear hcond
        generalize (f2 == b && (decide (f3 ∈ W) || (f0 == 2 && decide (f3 ∈ R)))) = hit at HCO ⊢
        cases hit
        case true =>
          rw [if_pos (HCO.out.1 rfl)] at HQ
          go_wp2
          go_ret
          rw [← HQ.out]
          exact ⟨rfl, HB5.out⟩
        rw [if_neg (fun q => Bool.false_ne_true (HCO.out.2 q))] at HQ
        clear HCO
        by_cases ca : f2 = a
        case neg =>
          rw [if_neg ca, if_neg (fun q => ca q.1)] at HQ
          have ca1 : (f2 == a) = false := by simp [ca]
          clear ca
          go_wp2
          go_roundw
          case rel => exact ⟨i + 1, R, W, by omega, by go_num, Lib.hid ⟨HQ.out, HRD5.out.mono (by omega), HWT5.out.mono (by omega), HB5.out⟩⟩
          case measure => simp [intOf]; omega
        have ca1 : (f2 == a) = true := by simp [ca]
        rw [if_pos ca] at HQ
        have i6 : i ≤ 1000000 := by omega
        by_cases c0 : f0 = 2
        · have c01 : (f0 == 2) = true := by simp [c0]
          rw [if_pos ⟨ca, c0⟩] at HQ
          clear ca c0
          obtain ⟨w6, hput, hI6, hg6⟩ := HWT5.out.put f3 cw hmi.2.2.2.1 i6 w0 w1
          have HRD6 := Lib.hid (HRD5.out.kept hg6 (by simp))
          have hbl6 : Blk w6 wr.heap.size #[.int .i64 f0, .int .i64 f1, .int .i64 f2, .int .i64 f3, .int .i64 f4] 29 := (hg6.block _ HBLK.out.lt (by simp; omega)).trans HBLK.out
          have z2 := hbl6.cell 2; have z3 := hbl6.cell 3
          simp at z2 z3
          obtain ⟨cr2, hrunR2, q0, q1, _⟩ := HRD6.out.look f3 hmi.2.2.2.1
          obtain ⟨w7, hput7, hI7, hg7⟩ := HRD6.out.put f3 cr2 hmi.2.2.2.1 i6 q0 q1
          have HI7 := Lib.hid hI7
          have HWT7 := Lib.hid (hI6.kept hg7 (by simp))
          have HB7 : Hid (Below w.heap.size w w7) := Lib.hid ((HB5.out.grown hg6 HB5.out.size (fun j hj => by cases hj; omega)).grown hg7 (Nat.le_trans HB5.out.size hg6.size) (fun j hj => by cases hj; omega))
          clear hI6 hg6 hI7 hg7 hbl6 HRD6
          go_wp2
          go_roundw
          case rel => exact ⟨i + 1, f3 :: R, f3 :: W, by omega, by go_num, Lib.hid ⟨HQ.out, HI7.out, HWT7.out, HB7.out⟩⟩
          case measure => simp [intOf]; omega
        · have c01 : (f0 == 2) = false := by simp [c0]
          rw [if_neg (fun q => c0 q.2)] at HQ
          clear ca c0
          obtain ⟨w7, hput7, hI7, hg7⟩ := HRD5.out.put f3 cr hmi.2.2.2.1 i6 r0 r1
          have HI7 := Lib.hid hI7
          have HWT7 := Lib.hid (HWT5.out.kept hg7 (by simp))
          have HB7 : Hid (Below w.heap.size w w7) := Lib.hid (HB5.out.grown hg7 HB5.out.size (fun j hj => by cases hj; omega))
          clear hI7 hg7
          go_wp2
          go_roundw
          case rel => exact ⟨i + 1, f3 :: R, W, by omega, by go_num, Lib.hid ⟨HQ.out, HI7.out, HWT7.out.mono (by omega), HB7.out⟩⟩
          case measure => simp [intOf]; omega
    · have e : i = l.length := by omega
      obtain ⟨hq, _, _, hbel⟩ := HR.out
      rw [List.drop_of_length_le (by omega)] at hq
      simp only [confS] at hq
      have HQ := Lib.hid hq; have HBEL := Lib.hid hbel
      clear hq hbel HR
      go_wp2
      go_ret
      rw [← HQ.out]
      exact ⟨rfl, HBEL.out⟩
end Go.Proofs.Ytadepdeckapgcaa.Hi
namespace Go.Proofs.Ytadepdeckapgcaa.Orc
open Go.RowKit Go.Proofs.YtadepdeckapgcaaW.PrintWords Go.Proofs.YtadepdeckapgcaaW.PrintLast Go.Proofs.YtadepdeckapgcaaW.PrintMore Go.Proofs.Ytadepdeckapgcaa.PHi Go.Proofs.Ytadepdeckapgcaa.Hi
set_option linter.unusedVariables false
def o_conflict.f (l : List Mk) (a b : Int) : Option Bool := if okM l = true then some (confS a b l [] []) else none
theorem o_conflict.calls (A0 : Option Addr) (c0 : Nat) (l : List Mk) (a b : Int) (r : Bool) (w : World) (hr0 : Kd.C k29 w A0 l.length l) (hc0 : l.length ≤ c0) (h : o_conflict.f l a b = some r) :
    Calls Try.prog 26 #[.slice A0 l.length c0, .int .i64 a, .int .i64 b] w fun e w' => e = .returned (.bool r) ∧ Below w.heap.size w w' := by
  unfold o_conflict.f at h
  split at h
  · rename_i hb
    injection h with h; subst h
    obtain ⟨h1, h2⟩ := okM_in hb
    exact wConflict w A0 c0 l a b hr0 h1 h2
  · cases h
end Go.Proofs.Ytadepdeckapgcaa.Orc
end

section
namespace Go.Proofs.Ytadepdeckapgcaa.Hi
open Go.Proofs.Ytadepdeckapgcaa Go.RowKit Go.Maps Go.Proofs.YtadepdeckapgcaaW.PrintWords Go.Proofs.YtadepdeckapgcaaW.PrintLast Go.Proofs.YtadepdeckapgcaaW.PrintMore Go.Proofs.Ytadepdeckapgcaa.PHi
set_option linter.unusedVariables false
set_option linter.unusedSimpArgs false
def idxP (p : Int → Bool) : Nat → List Int → Int
  | _, [] => -1
  | k, x :: r => if p x = true then (k : Int) else idxP p (k + 1) r
theorem idxP_ge (p : Int → Bool) : ∀ (l : List Int) (k : Nat), decide (idxP p k l ≥ 0) = l.any p
  | [], k => rfl
  | x :: r, k => by
    simp only [idxP, List.any_cons]
    split
    · rename_i h; rw [h]; simp
    · rename_i h; rw [idxP_ge p r (k + 1)]; simp at h; rw [h]; simp
theorem wIdxA (w : World) (A : Option Addr) (c : Nat) (left : List Int) (hC : Kd.C (Kd.int .i64) w A left.length left) (hl : left.length ≤ 1000000) (p : Int → Bool) (c1 c2 : Addr)
    (hK : ∀ x ∈ left, ∀ w1, Below w.heap.size w w1 → Calls Try.prog 25 #[.int .i64 x, .pointer (some c1), .pointer (some c2)] w1 fun e w' => e = .returned (.bool (p x)) ∧ Below w1.heap.size w1 w') :
    Calls Try.prog 22 #[.slice A left.length c, .func (.func 25) #[] #[.pointer (some c1), .pointer (some c2)]] w fun e w' => e = .returned (.int .i64 (idxP p 0 left)) ∧ Below w.heap.size w w' := by
  have HC := Lib.hid hC; have HK := Lib.hid hK
  clear hC hK
  have eg : ∀ args w, (callFunc 25 args).run Try.prog w = .ok (.enter 25 args) w := enters_of Try.func25 (by kernel_rfl) rfl
  go_enter Try.func22, Try.ntmps22
  go_wp2
  go_loopw [8] (fun i wr => ∃ k : Nat, k ≤ left.length ∧ i = .int .i64 k ∧ Hid (idxP p k (left.drop k) = idxP p 0 left ∧ Below w.heap.size w wr)) (fun i _ => left.length - (intOf i).toNat)
  case atStart => exact ⟨0, Nat.zero_le _, rfl, Lib.hid ⟨rfl, Below.refl _ _⟩⟩
  case round =>
    obtain ⟨k, hk, rfl, HR⟩ := hrel
    obtain ⟨hx, hB⟩ := HR.out
    by_cases hlt : k < left.length
    · obtain ⟨ad, eA, x0⟩ := Kd.at_int HC.out (k : Int) (by omega) (by omega)
      cases eA
      have hr : rd left (k : Int) = left[k] := by unfold rd; simp [hlt]
      rw [hr] at x0
      simp only [Int.toNat_natCast] at x0
      have HKx := Lib.hid (HK.out _ (List.getElem_mem hlt) wr hB)
      rw [List.drop_eq_getElem_cons hlt] at hx
      generalize left[k] = x at x0 HKx hx
      replace x0 := (hB.cell (World.block_lt_of_cell? w _ x0)).trans x0
      simp only [idxP] at hx
      have HX := Lib.hid hx; have HBL := Lib.hid hB
      clear hx hB HR hr
      generalize p x = px at HKx HX
      cases px
      · rw [if_neg (by simp)] at HX
        go_wp2_with (go_at_call 25; refine HKx.out.mono ?_; rintro e w' ⟨rfl, hf⟩; have HF := Lib.hid hf; clear hf)
        go_roundw
        case rel => exact ⟨k + 1, by omega, by go_num, Lib.hid ⟨HX.out, HBL.out.trans (HF.out.mono HBL.out.size)⟩⟩
        case measure => simp [intOf]; omega
      · rw [if_pos rfl] at HX
        go_wp2_with (go_at_call 25; refine HKx.out.mono ?_; rintro e w' ⟨rfl, hf⟩; have HF := Lib.hid hf; clear hf)
        go_ret
        rw [← HX.out]
        exact ⟨rfl, HBL.out.trans (HF.out.mono HBL.out.size)⟩
    · have hx' : idxP p 0 left = -1 := by rw [← hx, List.drop_of_length_le (by omega)]; rfl
      have HX := Lib.hid hx'; have HBL := Lib.hid hB
      clear hx hx' hB HR
      go_wp2
      go_ret
      rw [HX.out]
      exact ⟨rfl, HBL.out⟩
def ahd (l : List Mk) (b a : Int) : Bool := a != b && confS a b l [] []
theorem wAhd (w : World) (l : List Mk) (A : Option Addr) (c : Nat) (hC : Kd.C k29 w A l.length l) (hl : l.length ≤ 1000000) (hm : ∀ m ∈ l, inM m) (a b : Int) (pb pl : Nat) (hb : w.cell? ⟨pb, 0, none⟩ = some (.int .i64 b)) (hp : w.cell? ⟨pl, 0, none⟩ = some (.slice A l.length c)) :
    Calls Try.prog 25 #[.int .i64 a, .pointer (some ⟨pb, 0, none⟩), .pointer (some ⟨pl, 0, none⟩)] w fun e w' => e = .returned (.bool (ahd l b a)) ∧ Below w.heap.size w w' := by
  have HK := Lib.hid (wConflict w A c l a b hC hl hm)
  have HB := Lib.hid (Below.refl w.heap.size w)
  unfold ahd
  generalize confS a b l [] [] = r at HK
  clear hC hm
  cases c1 : a != b
  · go_enter Try.func25, Try.ntmps25
    go_wp2
    go_ret
    exact ⟨by simp, HB.out⟩
  · go_enter Try.func25, Try.ntmps25
    go_wp2_with (go_at_call 26; refine HK.out.mono ?_; rintro e w' ⟨rfl, hf⟩; have HF := Lib.hid hf; clear hf)
    go_ret
    exact ⟨by simp, HF.out⟩
def frB (l : List Mk) (left : List Int) (b : Int) : Bool := !left.any (ahd l b)
theorem wFr (w : World) (l : List Mk) (A : Option Addr) (c : Nat) (hC : Kd.C k29 w A l.length l) (hl : l.length ≤ 1000000) (hm : ∀ m ∈ l, inM m) (left : List Int) (A2 : Option Addr) (n2 : Nat) (hC2 : Kd.C (Kd.int .i64) w A2 left.length left) (hl2 : left.length ≤ 1000000) (b : Int) (pq pl : Nat)
    (hq : w.cell? ⟨pq, 0, none⟩ = some (.slice A2 left.length n2)) (hp : w.cell? ⟨pl, 0, none⟩ = some (.slice A l.length c)) :
    Calls Try.prog 23 #[.int .i64 b, .pointer (some ⟨pq, 0, none⟩), .pointer (some ⟨pl, 0, none⟩)] w fun e w' => e = .returned (.bool (frB l left b)) ∧ Below w.heap.size w w' := by
  have HB := Lib.hid ((Below.refl w.heap.size w).alloc (Nat.le_refl _) (.cells #[.int .i64 b] 3))
  have HN := Lib.hid (Blk.new w #[.int .i64 b] 3)
  have hpl : pl < w.heap.size := World.block_lt_of_cell? w _ hp
  have hpq : pq < w.heap.size := World.block_lt_of_cell? w _ hq
  have HX := Lib.hid (wIdxA (w.alloc (.cells #[.int .i64 b] 3)) A2 n2 left (Kd.C_below hC2 HB.out) hl2 (ahd l b) ⟨w.heap.size, 0, none⟩ ⟨pl, 0, none⟩ (fun x _ w1 hb1 =>
    wAhd w1 l A c (Kd.C_below (Kd.C_below hC HB.out) hb1) hl hm x b w.heap.size pl ((hb1.cell (p := ⟨w.heap.size, 0, none⟩) (by simp)).trans (by simp)) ((hb1.cell (p := ⟨pl, 0, none⟩) (by simp; omega)).trans ((HB.out.cell (p := ⟨pl, 0, none⟩) hpl).trans hp))))
  have E := Lib.hid (idxP_ge (ahd l b) left 0)
  unfold frB
  clear hC hm hC2
  have HCF : Hid (Calls Try.prog 24 #[.slice A2 left.length n2, .func (.func 25) #[] #[.pointer (some ⟨w.heap.size, 0, none⟩), .pointer (some ⟨pl, 0, none⟩)]] (w.alloc (.cells #[.int .i64 b] 3)) fun e w' => e = .returned (.bool (left.any (ahd l b))) ∧ Below (w.alloc (.cells #[.int .i64 b] 3)).heap.size (w.alloc (.cells #[.int .i64 b] 3)) w') := by
    refine Lib.hid ?_
    generalize idxP (ahd l b) 0 left = ix at HX E
    generalize w.alloc (.cells #[.int .i64 b] 3) = wa at HX
    clear hq hp HB HN
    go_enter Try.func24, Try.ntmps24
    go_wp2_with (go_at_call 22; refine HX.out.mono ?_; rintro e w' ⟨rfl, hf⟩; have HF := Lib.hid hf; clear hf)
    go_ret
    rw [← E.out]
    exact ⟨rfl, HF.out⟩
  clear HX E
  generalize left.any (ahd l b) = r at HCF
  have hq2 := (HB.out.cell (p := ⟨pq, 0, none⟩) hpq).trans hq
  go_enter Try.func23, Try.ntmps23
  go_wp2_with (go_at_call 24; refine HCF.out.mono ?_; rintro e w' ⟨rfl, hf⟩; have HF := Lib.hid hf; clear hf)
  go_ret
  exact ⟨rfl, HB.out.trans (HF.out.mono HB.out.size)⟩
theorem wIdxB (w : World) (A : Option Addr) (c : Nat) (left : List Int) (hC : Kd.C (Kd.int .i64) w A left.length left) (hl : left.length ≤ 1000000) (p : Int → Bool) (c1 c2 : Addr)
    (hK : ∀ x ∈ left, ∀ w1, Below w.heap.size w w1 → Calls Try.prog 23 #[.int .i64 x, .pointer (some c1), .pointer (some c2)] w1 fun e w' => e = .returned (.bool (p x)) ∧ Below w1.heap.size w1 w') :
    Calls Try.prog 22 #[.slice A left.length c, .func (.func 23) #[] #[.pointer (some c1), .pointer (some c2)]] w fun e w' => e = .returned (.int .i64 (idxP p 0 left)) ∧ Below w.heap.size w w' := by
  have HC := Lib.hid hC; have HK := Lib.hid hK
  clear hC hK
  have eg : ∀ args w, (callFunc 23 args).run Try.prog w = .ok (.enter 23 args) w := enters_of Try.func23 (by kernel_rfl) rfl
  go_enter Try.func22, Try.ntmps22
  go_wp2
  go_loopw [8] (fun i wr => ∃ k : Nat, k ≤ left.length ∧ i = .int .i64 k ∧ Hid (idxP p k (left.drop k) = idxP p 0 left ∧ Below w.heap.size w wr)) (fun i _ => left.length - (intOf i).toNat)
  case atStart => exact ⟨0, Nat.zero_le _, rfl, Lib.hid ⟨rfl, Below.refl _ _⟩⟩
  case round =>
    obtain ⟨k, hk, rfl, HR⟩ := hrel
    obtain ⟨hx, hB⟩ := HR.out
    by_cases hlt : k < left.length
    · obtain ⟨ad, eA, x0⟩ := Kd.at_int HC.out (k : Int) (by omega) (by omega)
      cases eA
      have hr : rd left (k : Int) = left[k] := by unfold rd; simp [hlt]
      rw [hr] at x0
      simp only [Int.toNat_natCast] at x0
      have HKx := Lib.hid (HK.out _ (List.getElem_mem hlt) wr hB)
      rw [List.drop_eq_getElem_cons hlt] at hx
      generalize left[k] = x at x0 HKx hx
      replace x0 := (hB.cell (World.block_lt_of_cell? w _ x0)).trans x0
      simp only [idxP] at hx
      have HX := Lib.hid hx; have HBL := Lib.hid hB
      clear hx hB HR hr
      generalize p x = px at HKx HX
      cases px
      · rw [if_neg (by simp)] at HX
        go_wp2_with (go_at_call 23; refine HKx.out.mono ?_; rintro e w' ⟨rfl, hf⟩; have HF := Lib.hid hf; clear hf)
        go_roundw
        case rel => exact ⟨k + 1, by omega, by go_num, Lib.hid ⟨HX.out, HBL.out.trans (HF.out.mono HBL.out.size)⟩⟩
        case measure => simp [intOf]; omega
      · rw [if_pos rfl] at HX
        go_wp2_with (go_at_call 23; refine HKx.out.mono ?_; rintro e w' ⟨rfl, hf⟩; have HF := Lib.hid hf; clear hf)
        go_ret
        rw [← HX.out]
        exact ⟨rfl, HBL.out.trans (HF.out.mono HBL.out.size)⟩
    · have hx' : idxP p 0 left = -1 := by rw [← hx, List.drop_of_length_le (by omega)]; rfl
      have HX := Lib.hid hx'; have HBL := Lib.hid hB
      clear hx hx' hB HR
      go_wp2
      go_ret
      rw [HX.out]
      exact ⟨rfl, HBL.out⟩
theorem idxP_lt (p : Int → Bool) : ∀ (l : List Int) (k : Nat), 0 ≤ idxP p k l → ∃ i, i < l.length ∧ idxP p k l = ((k + i : Nat) : Int)
  | [], k, h => by simp [idxP] at h
  | x :: r, k, h => by
    simp only [idxP] at h ⊢
    split
    · exact ⟨0, by simp, by simp⟩
    · rename_i hp
      rw [if_neg hp] at h
      obtain ⟨i, h1, h2⟩ := idxP_lt p r (k + 1) h
      exact ⟨i + 1, by simp; omega, by rw [h2]; congr 1; omega⟩
def serG (l : List Mk) : Nat → List Int → List Int → List Int × Bool
  | 0, _, out => (out, true)
  | k + 1, left, out => if idxP (frB l left) 0 left < 0 then (out, false) else serG l k (left.eraseIdx (idxP (frB l left) 0 left).toNat) (out ++ [left.getD (idxP (frB l left) 0 left).toNat 0])
def serialG (l : List Mk) : List Int × Bool := serG l (committedG l).length (committedG l) []
theorem wDelI (w : World) (base : Nat) (ok : Nat → Prop) (v : Value) (xs : List Int) (h : Kd.R (Kd.int .i64) 3 w base ok v xs) (i : Nat) (hi : i < xs.length) :
    Calls Try.prog 27 #[v, .int .i64 i, .int .i64 ((i : Int) + 1)] w fun e w' => ∃ v', e = .returned v' ∧ Kd.R (Kd.int .i64) 3 w' base ok v' (xs.eraseIdx i) ∧ v'.ownBlock = v.ownBlock ∧ w.grownBy w' v.ownBlock := by
  have ho : w.ownsRow base 3 1 v xs.length (xs.map (Value.int .i64)) := Kd.own_of_R (enc := Value.int .i64) (h1 := fun _ => rfl) h
  have hok := h.1
  have h0 : v ≠ .slice none 0 0 := by
    rintro rfl
    obtain ⟨A, c, e, _⟩ := Kd.R_reads h
    injection e with _ e _
    omega
  obtain ⟨g, cap, rfl, hb, hg, hn, hm, hz, hH⟩ := Lib.holds_of_ownsRow ho h0
  have hm2 : cap ≤ 9223372036854775807 := hm
  rw [show ((i : Int) + 1) = ((i + 1 : Nat) : Int) from rfl]
  refine (Try.slices_Delete_int g 0 cap i (i + 1) xs w hH hn hm2 (by omega) (by omega)).mono ?_
  rintro e w' ⟨rfl, q, rfl⟩
  have hlen : (xs.eraseIdx i).length = xs.length - (i + 1 - i) := by rw [List.length_eraseIdx_of_lt hi]; omega
  have hy : (xs.take i ++ xs.drop (i + 1) ++ List.replicate (i + 1 - i) (0 : Int)).length = xs.length := by simp; omega
  have q1 := Lib.ownsRow_putRow (q := q) (k := xs.length - (i + 1 - i)) ho hy (by omega)
  rw [List.take_left' (by simp; omega)] at q1
  refine ⟨_, rfl, ?_, rfl, ?_⟩
  · refine Kd.R_of_own (enc := Value.int .i64) (h1 := fun _ => rfl) ?_ (fun k hk => hok k (by simpa [Value.ownBlock] using hk))
    rw [hlen, List.eraseIdx_eq_take_drop_succ]; exact q1
  · refine ⟨rfl, rfl, rfl, by simp, fun k hk hne => ?_⟩
    have : g ≠ k := fun e => hne (by rw [e]; rfl)
    simp [Go.Sort.putRow, Go.Sort.mapBlock, Go.Sort.ahead, Array.getElem?_modify, this]
structure SrRel (w : World) (l : List Mk) (A : Option Addr) (c N pb : Nat) (left out : List Int) (v4 v5 : Value) (wr : World) : Prop where
  eq : serG l left.length left out = serialG l
  lrow : Kd.R (Kd.int .i64) 3 wr w.heap.size (fun k => k < N) v4 left
  pb : Blk wr pb #[v4] 26
  pl : Blk wr w.heap.size #[.slice A l.length c] 22
  orow : Kd.R (Kd.int .i64) 3 wr N (fun _ => True) v5 out
  bel : Below w.heap.size w wr
  hN : N ≤ wr.heap.size
  ll : left.length ≤ 1000000
  ol : out.length + left.length ≤ 1000000
set_option maxRecDepth 100000 in
set_option maxHeartbeats 4000000 in
theorem wSerial (w : World) (A : Option Addr) (c : Nat) (l : List Mk) (hC : Kd.C k29 w A l.length l) (hl : l.length ≤ 1000000) (hm : ∀ m ∈ l, inM m) :
    Calls Try.prog 9 #[.slice A l.length c] w fun e w' => ∃ v, e = .returned (.tuple #[v, .bool (serialG l).2]) ∧ Kd.R (Kd.int .i64) 3 w' w.heap.size (fun _ => True) v (serialG l).1 ∧ Below w.heap.size w w' := by
  have HC := Lib.hid hC; have HM := Lib.hid hm
  have hcl : (committedG l).length ≤ 1000000 := by
    unfold committedG srt; rw [List.length_mergeSort]
    exact Nat.le_trans (comsG_len _) (Nat.le_trans (endsG_len _ _ _) hl)
  have HB0 := Lib.hid ((Below.refl w.heap.size w).alloc (Nat.le_refl _) (.cells #[.slice A l.length c] 22))
  have HN0 := Lib.hid (Blk.new w #[.slice A l.length c] 22)
  have HCM := Lib.hid (wCommitted (w.alloc (.cells #[.slice A l.length c] 22)) A c l (Kd.C_below hC HB0.out) hl hm)
  have HS : Hid (serG l (committedG l).length (committedG l) [] = serialG l) := rfl
  clear hC hm
  generalize committedG l = cm at hcl HCM HS
  go_enter Try.func9, Try.ntmps9
  go_wp2_with fail
  refine HCM.out.mono ?_
  rintro e w2 ⟨v8, rfl, hr, hb⟩
  obtain ⟨A8, c8, rfl⟩ := Kd.R_slice hr
  have hs2 := hb.size
  simp at hs2
  have hB2 := HB0.out.trans (hb.mono (by simp))
  have hpl : Blk w2 w.heap.size #[.slice A l.length c] 22 := (hb.block _ (by simp)).trans HN0.out
  have HR0 : Hid (SrRel w l A c (w2.heap.size + 1) w2.heap.size cm [] (.slice A8 cm.length c8) (.slice none 0 0) (w2.alloc (.cells #[.slice A8 cm.length c8] 26))) := Lib.hid {
    eq := HS.out
    lrow := Kd.R_alloc (Kd.R_lower (Kd.R_mono (Kd.R_bound hr) (fun k hk => by have := hk.2.2.1; omega)) (by simp)) _
    pb := Blk.new _ _ _
    pl := hpl.alloc _
    orow := Kd.R_nil _ _ _ _ _
    bel := hB2.alloc hB2.size _
    hN := by simp
    ll := hcl
    ol := by simpa using hcl }
  have hp1 : w2.heap.size < w2.heap.size + 1 := by omega
  have hp2 : w.heap.size < w2.heap.size := by omega
  clear hr hb hB2 hpl HCM HN0 HB0 HS hs2
  go_wp2
  go_loopg [5] cm.length (fun g v5 wr => ∃ (left out : List Int) (v4 : Value), g = left.length ∧ Hid (SrRel w l A c (w2.heap.size + 1) w2.heap.size left out v4 v5 wr))
  case atStart => exact ⟨cm, [], _, rfl, HR0⟩
  case round =>
    clear HR0
    obtain ⟨left, out, v4, hg, HR⟩ := hrel
    subst hg
    obtain ⟨heq, hlr, hpb, hpl, hor, hbel, hN, hll, hol⟩ := HR.out
    obtain ⟨A4, c4, rfl, hc4, hC4⟩ := Kd.R_reads hlr
    have b0 := hpb.cell 0; have l0 := hpl.cell 0
    simp at b0 l0
    have hpbN : w2.heap.size < w2.heap.size + 1 := hp1
    by_cases h0 : left.length = 0
    · obtain rfl := List.eq_nil_of_length_eq_zero h0
      simp only [List.length_nil, serG] at heq
      have HQ := Lib.hid heq; have HOR := Lib.hid hor; have HBEL := Lib.hid hbel
      clear heq hlr hpb hpl hor hbel HR hC4 l0 h0
      go_wp2
      go_ret2
      refine ⟨u5, by rw [← HQ.out]; rfl, ?_, HBEL.out⟩
      rw [← HQ.out]
      exact Kd.R_lower HOR.out (by omega)
    obtain ⟨n, hn⟩ : ∃ n, left.length = n + 1 := ⟨left.length - 1, by omega⟩
    rw [hn] at heq
    simp only [serG] at heq
    have hpos : 0 < left.length := by omega
    have Hn := Lib.hid hn
    clear hn h0
    have hposI : decide ((left.length : Int) > 0) = true := decide_eq_true (by omega)
    have HIX := Lib.hid (wIdxB wr A4 c4 left hC4 hll (frB l left) ⟨w2.heap.size, 0, none⟩ ⟨w.heap.size, 0, none⟩ (fun x _ w1 hb1 =>
      wFr w1 l A c (Kd.C_below (Kd.C_below HC.out hbel) hb1) hl HM.out left A4 c4 (Kd.C_below hC4 hb1) hll x w2.heap.size w.heap.size ((hb1.cell (p := ⟨w2.heap.size, 0, none⟩) hpb.lt).trans b0) ((hb1.cell (p := ⟨w.heap.size, 0, none⟩) hpl.lt).trans l0)))
    have hlt0 := idxP_lt (frB l left) left 0
    have HLR := Lib.hid hlr; have HPB := Lib.hid hpb; have HPL := Lib.hid hpl; have HOR := Lib.hid hor; have HBEL := Lib.hid hbel
    clear hlr hpb hpl hor hbel HR
    generalize idxP (frB l left) 0 left = ix at heq HIX hlt0
    by_cases hix : ix < 0
    · rw [if_pos hix] at heq
      have HQ := Lib.hid heq
      clear heq hlt0 hC4 l0
      go_wp2_with fail
      refine HIX.out.mono ?_
      rintro e w4 ⟨rfl, hb4⟩
      have HB4 := Lib.hid hb4; clear hb4
      go_wp2
      go_ret2
      refine ⟨u5, by rw [← HQ.out]; rfl, ?_, HBEL.out.trans (HB4.out.mono HBEL.out.size)⟩
      rw [← HQ.out]
      exact Kd.R_lower (Kd.R_below HOR.out HB4.out) (by omega)
    obtain ⟨i, hi, rfl⟩ : ∃ i : Nat, i < left.length ∧ ix = (i : Int) := by
      obtain ⟨i, h1, h2⟩ := hlt0 (by omega)
      exact ⟨i, h1, by omega⟩
    rw [if_neg hix, Int.toNat_natCast] at heq
    have hgd : left.getD i 0 = left[i] := by simp [hi]
    rw [hgd] at heq
    obtain ⟨ad, eA, x0⟩ := Kd.at_int hC4 (i : Int) (by omega) (by omega)
    cases eA
    have hr : rd left (i : Int) = left[i] := by unfold rd; simp [hi]
    rw [hr] at x0
    simp only [Int.toNat_natCast] at x0
    generalize left[i] = x at x0 heq
    have HQ := Lib.hid heq
    have hxl := World.block_lt_of_cell? _ _ x0
    clear heq hlt0 hC4 l0 hgd hr hix
    go_wp2_with fail
    refine HIX.out.mono ?_
    rintro e w4 ⟨rfl, hb4⟩
    have b4 := (hb4.cell (p := ⟨w2.heap.size, 0, none⟩) HPB.out.lt).trans b0
    have x4 := (hb4.cell hxl).trans x0
    have HPB4 : Hid (Blk w4 w2.heap.size #[.slice (some ad) left.length c4] 26) := Lib.hid ((hb4.block _ HPB.out.lt).trans HPB.out)
    have HPL4 : Hid (Blk w4 w.heap.size #[.slice A l.length c] 22) := Lib.hid ((hb4.block _ HPL.out.lt).trans HPL.out)
    have HLR4 := Lib.hid (Kd.R_below HLR.out hb4)
    have HOR4 := Lib.hid (Kd.R_below HOR.out hb4)
    have HBEL4 := Lib.hid (HBEL.out.trans (hb4.mono HBEL.out.size))
    have hN4 : w2.heap.size + 1 ≤ w4.heap.size := Nat.le_trans hN hb4.size
    clear hb4 x0 b0 hxl HLR HPB HPL HOR HBEL HIX
    go_wp2_with (first
      | ((with_reducible refine gate_builtin (b := .append) (xs := #[.tmp 18, .tmp 23]) rfl ?_); at_builtin; refine Kd.R_append (Kd.int .i64) (w0 := w4) (w2.heap.size + 1) rfl (.tmp 18) (.tmp 23) 26 3 (.int .i64 0) 8 rfl Try.underlying26 info3 rfl (by decide) (by omega) _ out x [.int .i64 x] (fun _ => True) (fun _ => False) rfl rfl ?aP (fun _ hk => hk.elim) ?aF HOR4.out (Below.refl _ _) ?aS ?aL ?_; (case aP => exact rfl); (case aF => intro k hk; trivial); (case aS => omega); (case aL => omega); intro v7 w7 ho7 hb7 hg7 hat7;
          have b7 := (hb7.cell (p := ⟨w2.heap.size, 0, none⟩) (by simp)).trans b4; have HPB7 : Hid (Blk w7 w2.heap.size #[.slice (some ad) left.length c4] 26) := Lib.hid ((hb7.block _ hp1).trans HPB4.out); have HPL7 : Hid (Blk w7 w.heap.size #[.slice A l.length c] 22) := Lib.hid ((hb7.block _ (by omega)).trans HPL4.out); have HLR7 := Lib.hid (Kd.R_move HLR4.out (fun k hk => hb7.block k hk)); have HOR7 := Lib.hid ho7; have HBEL7 := Lib.hid (HBEL4.out.trans (hb7.mono (by omega))); have hN7 := Nat.le_trans hN4 hb7.size; clear ho7 hb7 hg7 hat7)
      | (have hqq := HBEL7; go_at_call 27; refine (wDelI w7 _ _ _ _ HLR7.out i hi).mono ?_; rintro e w8 ⟨v8, rfl, hr8, he8, hg8⟩; obtain ⟨A9, c9, rfl⟩ := Kd.R_slice hr8; have HLR8 := Lib.hid hr8; have HG8 := Lib.hid hg8; have hpb8 : Blk w8 w2.heap.size #[.slice (some ad) left.length c4] 26 := (hg8.block _ HPB7.out.lt (fun e => Kd.R_ne HLR7.out HPB7.out (by decide) e)).trans HPB7.out; have HPB8 := Lib.hid hpb8; have f8 := hpb8.free 0; have b8 := hpb8.cell 0; simp at b8; clear hr8 he8 hg8 hqq hpb8))
    have hel : (left.eraseIdx i).length = n := by rw [List.length_eraseIdx_of_lt hi]; have := Hn.out; omega
    have HEL := Lib.hid hel
    have hs8 := HG8.out.size
    have hlb : ∀ j, (Value.slice (some ad) left.length c4).ownBlock = some j → w.heap.size ≤ j ∧ j < w2.heap.size + 1 := fun j hj => ⟨((Kd.R_bound HLR7.out).1 j hj).2.1, HLR7.out.1 j hj⟩
    have HLB := Lib.hid hlb
    have hnd := Hn.out
    clear hel hlb
    go_roundg n
    case measure => omega
    case rel =>
      refine ⟨left.eraseIdx i, out ++ [x], _, HEL.out.symm, Lib.hid {
        eq := by rw [HEL.out]; exact HQ.out
        lrow := Kd.R_mono (Kd.R_far (p := ⟨w2.heap.size, 0, none⟩) (Kd.R_types HLR8.out HPB8.out (by decide)) (fun _ hk => hk.2) _) (fun _ hk => hk.1)
        pb := HPB8.out.set 0 _
        pl := Blk.set_other ((HG8.out.block _ HPL7.out.lt (fun e => Kd.R_ne HLR7.out HPL7.out (by decide) e)).trans HPL7.out) (by simp; omega) _
        orow := Kd.R_mono (Kd.R_far (p := ⟨w2.heap.size, 0, none⟩) (Kd.R_grown (Kd.R_bound HOR7.out) HG8.out (fun k hk e => by have := (HLB.out k e.symm).2; have := hk.2.1; omega)) (fun k hk => by have := hk.2.1; show k ≠ w2.heap.size; omega) _) (fun _ _ => trivial)
        bel := (HBEL7.out.grown HG8.out HBEL7.out.size (fun j hj => (HLB.out j hj).1)).setCell (p := ⟨w2.heap.size, 0, none⟩) (by show w.heap.size ≤ w2.heap.size; omega) _
        hN := by simp [World.setCell]; omega
        ll := by rw [HEL.out]; omega
        ol := by rw [HEL.out]; simp; omega }⟩
end Go.Proofs.Ytadepdeckapgcaa.Hi
namespace Go.Proofs.Ytadepdeckapgcaa.Orc
open Go.RowKit Go.Proofs.YtadepdeckapgcaaW.PrintWords Go.Proofs.YtadepdeckapgcaaW.PrintLast Go.Proofs.YtadepdeckapgcaaW.PrintMore Go.Proofs.Ytadepdeckapgcaa.PHi Go.Proofs.Ytadepdeckapgcaa.Hi
set_option linter.unusedVariables false
def o_Serial.f (l : List Mk) : Option (List Int × Bool) := if okM l = true then some (serialG l) else none
theorem o_Serial.calls (A0 : Option Addr) (c0 : Nat) (l : List Mk) (r1 : List Int) (r2 : Bool) (w : World) (hr0 : Kd.C k29 w A0 l.length l) (hc0 : l.length ≤ c0) (h : o_Serial.f l = some (r1, r2)) :
    Calls Try.prog 9 #[.slice A0 l.length c0] w fun e w' => ∃ v0_ : Value, e = .returned (.tuple #[v0_, .bool r2]) ∧ Kd.R (Kd.int .i64) 3 w' w.heap.size (fun _ => True) v0_ r1 ∧ Below w.heap.size w w' := by
  unfold o_Serial.f at h
  split at h
  · rename_i hb
    injection h with h
    obtain ⟨h1, h2⟩ := okM_in hb
    have q := wSerial w A0 c0 l hr0 h1 h2
    rw [h] at q
    exact q
  · cases h
end Go.Proofs.Ytadepdeckapgcaa.Orc
end

section
namespace Go.Proofs.Ytadepdeckapgcaa.Hi
open Go.Proofs.Ytadepdeckapgcaa Go.RowKit Go.Maps Go.Proofs.YtadepdeckapgcaaW.PrintWords Go.Proofs.YtadepdeckapgcaaW.PrintLast Go.Proofs.YtadepdeckapgcaaW.PrintMore Go.Proofs.Ytadepdeckapgcaa.PHi
open Go.ChangeMaps Go.MapKept Go.WideShapes
set_option linter.unusedVariables false
set_option linter.unusedSimpArgs false
abbrev iK (k : Int) : Value := .int .i64 k
theorem iK_inj {a b : Int} (h : iK a = iK b) : a = b := by injection h
structure EM (w : World) (b : Nat) (es : Array MapEntry) (ck : Nat) : Prop where
  heap : w.heap[b]? = some (.map es ck)
  st : Stamped es ck
  key : ∀ x ∈ es.toList, ∃ k, x.key = iK k ∧ in64 k
theorem EM.lt {w : World} {b : Nat} {es : Array MapEntry} {ck : Nat} (h : EM w b es ck) : b < w.heap.size := (Array.getElem?_eq_some_iff.1 h.heap).1
theorem kI {k : Int} (hk : in64 k) : keyOf Try.prog 3 (iK k) = some (.int .i64 k) := keyOf_int_mk Try.underlying3 (wfI hk)
theorem EM.find {w : World} {b : Nat} {es : Array MapEntry} {ck : Nat} (h : EM w b es ck) (W : World) (k : Int) (hk : in64 k) :
    ((Instr.findKey 3 (iK k) es.toList).run Try.prog W = .ok none W ∧ ∀ e ∈ es.toList, e.key ≠ iK k) ∨ ∃ j e, (Instr.findKey 3 (iK k) es.toList).run Try.prog W = .ok (some (j, e.val)) W ∧ es.toList[j]? = some e ∧ e.key = iK k :=
  lawI.find W (kI hk) es.toList (fun e he => let ⟨k, e1, h1⟩ := h.key e he; ⟨_, by rw [e1]; exact kI h1⟩)
theorem EM.look {w : World} {b : Nat} {es : Array MapEntry} {ck : Nat} (h : EM w b es ck) {T E : TypeId} (ht : (Try.prog).underlying T = some (.map 3 E)) {z : Value} (hz : (zeroValue E).run Try.prog w = .ok z w) (k : Int) (hk : in64 k) :
    ((Instr.lookup T (.map (some b)) (iK k) false).run Try.prog w = .ok z w ∧ ∀ e ∈ es.toList, e.key ≠ iK k) ∨ ∃ e0 ∈ es.toList, e0.key = iK k ∧ (Instr.lookup T (.map (some b)) (iK k) false).run Try.prog w = .ok e0.val w := by
  rcases h.find w k hk with ⟨h1, h2⟩ | ⟨j, e0, h1, h2, h3⟩
  · exact .inl ⟨by simp [Instr.lookup, run_underlying ht, MapKept.run_getObj_map h.heap, lawI.check w _ (kI hk), h1, hz, Result.andThen], h2⟩
  · exact .inr ⟨e0, List.mem_of_getElem? h2, h3, by simp [Instr.lookup, run_underlying ht, MapKept.run_getObj_map h.heap, lawI.check w _ (kI hk), h1, Result.andThen]⟩
def setE (es : Array MapEntry) (j : Nat) (k : Int) (v : Value) : Array MapEntry := es.modify j (fun e' => { e' with key := iK k, val := v })
theorem EM.store {w : World} {b : Nat} {es : Array MapEntry} {ck : Nat} (h : EM w b es ck) {T E : TypeId} (ht : (Try.prog).underlying T = some (.map 3 E)) (k : Int) (hk : in64 k) (v : Value) :
    ((∀ e ∈ es.toList, e.key ≠ iK k) ∧ (Instr.mapUpdate T (.map (some b)) (iK k) v).run Try.prog w = .ok () (setBlock w b (.map (es.push ⟨iK k, v, ck⟩) (ck + 1))) ∧ EM (setBlock w b (.map (es.push ⟨iK k, v, ck⟩) (ck + 1))) b (es.push ⟨iK k, v, ck⟩) (ck + 1)) ∨
    ∃ j e0, es.toList[j]? = some e0 ∧ e0.key = iK k ∧ (Instr.mapUpdate T (.map (some b)) (iK k) v).run Try.prog w = .ok () (setBlock w b (.map (setE es j k v) ck)) ∧ EM (setBlock w b (.map (setE es j k v) ck)) b (setE es j k v) ck := by
  rcases h.find w k hk with ⟨h1, h2⟩ | ⟨j, e0, h1, h2, h3⟩
  · refine .inl ⟨h2, by simp [Instr.mapUpdate, run_underlying ht, MapKept.run_getObj_map h.heap, lawI.check w false (kI hk), h1, MapKept.run_setObj_map _ h.heap, Result.andThen, setBlock], heap_setBlock_same h.heap _, stamped_push h.st h2, fun x hx => ?_⟩
    simp only [Array.toList_push, List.mem_append, List.mem_singleton] at hx
    rcases hx with hx | rfl
    · exact h.key x hx
    · exact ⟨k, rfl, hk⟩
  · have hj : es[j]? = some e0 := by simpa using h2
    refine .inr ⟨j, e0, h2, h3, by simp [setE, Instr.mapUpdate, run_underlying ht, MapKept.run_getObj_map h.heap, lawI.check w false (kI hk), h1, hj, h3, lawI.stays w (kI hk), MapKept.run_setObj_map _ h.heap, Result.andThen, setBlock], heap_setBlock_same h.heap _,
      stamped_modify h.st _ _ (fun _ _ => rfl) (fun e' _ he' => by rw [hj] at he'; cases he'; exact h3.symm), fun x hx => ?_⟩
    unfold setE at hx
    rw [Array.toList_modify, modify_eq_set _ _ _ _ h2] at hx
    rcases List.mem_or_eq_of_mem_set hx with hx | rfl
    · exact h.key x hx
    · exact ⟨k, rfl, hk⟩
theorem setE_mem {es : Array MapEntry} {ck j : Nat} {e0 : MapEntry} {k : Int} {v : Value} (hst : Stamped es ck) (h2 : es.toList[j]? = some e0) (h3 : e0.key = iK k) (x : MapEntry) :
    x ∈ (setE es j k v).toList ↔ x = { e0 with key := iK k, val := v } ∨ (x ∈ es.toList ∧ x.key ≠ iK k) := by
  have hd := ((stamped_iff es ck).1 hst).2.2
  have hjl : j < es.toList.length := (List.getElem?_eq_some_iff.1 h2).1
  unfold setE
  rw [Array.toList_modify, modify_eq_set _ _ _ _ h2]
  constructor
  · intro hx
    obtain ⟨i, hi, ex⟩ := List.getElem_of_mem hx
    rw [List.getElem_set] at ex
    split at ex
    · exact .inl ex.symm
    · rename_i hne
      have hi' : i < es.toList.length := by simpa using hi
      refine .inr ⟨ex ▸ List.getElem_mem hi', fun e => ?_⟩
      have e0' : es.toList[j] = e0 := (List.getElem?_eq_some_iff.1 h2).2
      rcases Nat.lt_or_gt_of_ne hne with q | q
      · have := List.pairwise_iff_getElem.1 hd j i hjl hi' q
        rw [ex, e0', e, h3] at this; exact this rfl
      · have := List.pairwise_iff_getElem.1 hd i j hi' hjl q
        rw [ex, e0', e, h3] at this; exact this rfl
  · rintro (rfl | ⟨hx, hne⟩)
    · exact List.mem_iff_getElem.2 ⟨j, by simpa using hjl, by simp⟩
    · obtain ⟨i, hi, rfl⟩ := List.getElem_of_mem hx
      have hij : j ≠ i := by
        rintro rfl
        have e0' : es.toList[j] = e0 := (List.getElem?_eq_some_iff.1 h2).2
        rw [e0', h3] at hne; exact hne rfl
      exact List.mem_iff_getElem.2 ⟨i, by simpa using hi, by rw [List.getElem_set, if_neg hij]⟩
structure DM (base : Nat) (w : World) (b : Nat) (es : Array MapEntry) (ck : Nat) (ow : Int → List Int) : Prop where
  em : EM w b es ck
  row : ∀ x ∈ es.toList, ∀ k, x.key = iK k → Kd.R (Kd.int .i64) 3 w base (fun _ => True) x.val (ow k) ∧ ∃ g cap, x.val = .slice (some ⟨g, 0, none⟩) (ow k).length cap
  apart : ∀ x ∈ es.toList, ∀ y ∈ es.toList, x.key ≠ y.key → x.val.ownBlock ≠ y.val.ownBlock
  non : ∀ k, (∀ x ∈ es.toList, x.key ≠ iK k) → ow k = []
theorem R_ofMap {w : World} {b base : Nat} {es : Array MapEntry} {ck : Nat} {o' : Obj} {v : Value} {xs : List Int} (h : Kd.R (Kd.int .i64) 3 w base (fun _ => True) v xs) (hb : w.heap[b]? = some (.map es ck)) : Kd.R (Kd.int .i64) 3 (setBlock w b o') base (fun _ => True) v xs := by
  refine Kd.R_mono (Kd.R_move (Kd.R_bound h) (fun k hk => heap_setBlock_other hb _ ?_)) (fun _ _ => trivial)
  rintro rfl
  obtain ⟨_, _, _, q, _, cells, hc⟩ := hk
  rw [hb] at hc
  cases hc
theorem DM.kept {base : Nat} {w w' : World} {b : Nat} {es : Array MapEntry} {ck : Nat} {ow : Int → List Int} (h : DM base w b es ck ow) {row : Option Nat} (hg : w.grownBy w' row) (hne : ∀ k, row = some k → k ≠ b ∧ ∀ cs t f, w.heap[k]? ≠ some (.cells cs t f)) : DM base w' b es ck ow := by
  refine ⟨⟨(hg.block b h.em.lt (fun e => (hne b e.symm).1 rfl)).trans h.em.heap, h.em.st, h.em.key⟩, fun x hx k hk => ?_, h.apart, h.non⟩
  obtain ⟨h1, h2⟩ := h.row x hx k hk
  refine ⟨Kd.R_mono (Kd.R_grown (Kd.R_bound h1) hg (fun j hj e => ?_)) (fun _ _ => trivial), h2⟩
  obtain ⟨_, _, _, q, _, cells, hc⟩ := hj
  exact (hne j e.symm).2 _ _ _ hc
theorem DM.not_row {base : Nat} {w : World} {b : Nat} {es : Array MapEntry} {ck : Nat} {v : Value} {xs : List Int} (h : EM w b es ck) (hr : Kd.R (Kd.int .i64) 3 w base (fun _ => True) v xs) : some b ≠ v.ownBlock := by
  intro e
  obtain ⟨_, _, _, q, _, cells, hc⟩ := (Kd.R_bound hr).1 b e.symm
  rw [h.heap] at hc
  cases hc
def updI (ow : Int → List Int) (k : Int) (L : List Int) : Int → List Int := fun j => if j = k then L else ow j
theorem DM.store {base : Nat} {w w1 : World} {b : Nat} {es : Array MapEntry} {ck : Nat} {ow : Int → List Int} (h : DM base w b es ck ow) (k : Int) (hk : in64 k) (v0 : Value) (h0 : (v0 = .slice none 0 0 ∧ ∀ e ∈ es.toList, e.key ≠ iK k) ∨ ∃ e0 ∈ es.toList, e0.key = iK k ∧ v0 = e0.val)
    (hg : w.grownBy w1 v0.ownBlock) (v : Value) (L : List Int) (hr : Kd.R (Kd.int .i64) 3 w1 base (fun _ => True) v L) (hs : ∃ g cap, v = .slice (some ⟨g, 0, none⟩) L.length cap) (hat : v.ownBlock = v0.ownBlock ∨ ∃ g, v.ownBlock = some g ∧ w.heap.size ≤ g) :
    ∃ w2 es2 ck2, (Instr.mapUpdate 53 (.map (some b)) (iK k) v).run Try.prog w1 = .ok () w2 ∧ DM base w2 b es2 ck2 (updI ow k L) ∧ w1.grownBy w2 (some b) ∧
      ((∃ e0 ∈ es.toList, e0.key = iK k) → ck2 = ck ∧ es2.toList.map (·.born) = es.toList.map (·.born) ∧ ∀ x ∈ es2.toList, ∃ y ∈ es.toList, y.key = x.key ∧ y.born = x.born) := by
  have hb1 : w1.heap[b]? = some (.map es ck) := by
    refine (hg.block b h.em.lt (fun e => ?_)).trans h.em.heap
    rcases h0 with ⟨rfl, _⟩ | ⟨e0, he0, hk0, rfl⟩
    · simp [Value.ownBlock] at e
    · exact DM.not_row h.em (h.row e0 he0 k hk0).1 e
  have hem1 : EM w1 b es ck := ⟨hb1, h.em.st, h.em.key⟩
  have hoth : ∀ x ∈ es.toList, ∀ j, x.key = iK j → j ≠ k → Kd.R (Kd.int .i64) 3 w1 base (fun _ => True) x.val (ow j) ∧ x.val.ownBlock ≠ v.ownBlock := by
    intro x hx j hj hjk
    obtain ⟨h1, g, cap, hx2⟩ := h.row x hx j hj
    have hxk : x.key ≠ iK k := by rw [hj]; intro e; injection e with _ e; exact hjk e
    have hx0 : x.val.ownBlock ≠ v0.ownBlock := by
      rcases h0 with ⟨rfl, _⟩ | ⟨e0, he0, hk0, rfl⟩
      · rw [hx2]; simp [Value.ownBlock]
      · exact h.apart x hx e0 he0 (by rw [hk0]; exact hxk)
    have hlt : ∀ q, x.val.ownBlock = some q → q < w.heap.size := fun q hq => ((Kd.R_bound h1).1 q hq).2.2.1
    refine ⟨Kd.R_mono (Kd.R_grown (ok := fun q => x.val.ownBlock = some q) ⟨fun q hq => hq, h1.2.imp_ (fun _ _ hp => by exact hp)⟩ hg (fun q hq e => hx0 (hq.trans e))) (fun _ _ => trivial), ?_⟩
    rcases hat with e | ⟨g', e, hg'⟩
    · rw [e]; exact hx0
    · rw [e]; intro q; have := hlt g' q; omega
  have hgb : ∀ o, w1.grownBy (setBlock w1 b o) (some b) := fun o => ⟨rfl, rfl, rfl, by simp [setBlock], fun i _ hi => heap_setBlock_other hb1 _ (fun e => hi (by rw [e]))⟩
  have hmap : ∀ (o : Obj) (u : Value) (xs : List Int), Kd.R (Kd.int .i64) 3 w1 base (fun _ => True) u xs → Kd.R (Kd.int .i64) 3 (setBlock w1 b o) base (fun _ => True) u xs := fun o u xs hu => R_ofMap hu hb1
  rcases hem1.store Try.underlying53 k hk v with ⟨hno, hrun, hem2⟩ | ⟨j, e0, h2, h3, hrun, hem2⟩
  · refine ⟨_, _, _, hrun, ⟨hem2, fun x hx q hq => ?_, fun x hx y hy hxy => ?_, fun q hq => ?_⟩, hgb _, fun ⟨e, he, hek⟩ => absurd hek (hno e he)⟩
    · simp only [Array.toList_push, List.mem_append, List.mem_singleton] at hx
      rcases hx with hx | rfl
      · have hqk : q ≠ k := by rintro rfl; exact hno x hx hq
        unfold updI; rw [if_neg hqk]
        exact ⟨hmap _ _ _ (hoth x hx q hq hqk).1, (h.row x hx q hq).2⟩
      · have hqk : q = k := (iK_inj hq).symm
        rw [show updI ow k L q = L from if_pos hqk]
        exact ⟨hmap _ _ _ hr, hs⟩
    · simp only [Array.toList_push, List.mem_append, List.mem_singleton] at hx hy
      rcases hx with hx | rfl <;> rcases hy with hy | rfl
      · exact h.apart x hx y hy hxy
      · obtain ⟨q, hq, _⟩ := h.em.key x hx
        exact (hoth x hx q hq (by rintro rfl; exact hxy hq)).2
      · obtain ⟨q, hq, _⟩ := h.em.key y hy
        exact (hoth y hy q hq (by rintro rfl; exact hxy hq.symm)).2.symm
      · exact absurd rfl hxy
    · have hqk : q ≠ k := by rintro rfl; exact hq ⟨iK q, v, ck⟩ (by simp) rfl
      unfold updI; rw [if_neg hqk]
      exact h.non q (fun x hx => hq x (by simp; exact .inl (by simpa using hx)))
  · have hm := setE_mem (v := v) h.em.st h2 h3
    have he0 := List.mem_of_getElem? h2
    refine ⟨_, _, _, hrun, ⟨hem2, fun x hx q hq => ?_, fun x hx y hy hxy => ?_, fun q hq => ?_⟩, hgb _, fun _ => ⟨rfl, ?_, fun x hx => ?_⟩⟩
    · rcases (hm x).1 hx with rfl | ⟨hx, hxk⟩
      · have hqk : q = k := (iK_inj hq).symm
        rw [show updI ow k L q = L from if_pos hqk]
        exact ⟨hmap _ _ _ hr, hs⟩
      · have hqk : q ≠ k := by rintro rfl; exact hxk hq
        unfold updI; rw [if_neg hqk]
        exact ⟨hmap _ _ _ (hoth x hx q hq hqk).1, (h.row x hx q hq).2⟩
    · rcases (hm x).1 hx with rfl | ⟨hx, hxk⟩ <;> rcases (hm y).1 hy with rfl | ⟨hy, hyk⟩
      · exact absurd rfl hxy
      · obtain ⟨q, hq, _⟩ := h.em.key y hy
        exact (hoth y hy q hq (by rintro rfl; exact hxy hq.symm)).2.symm
      · obtain ⟨q, hq, _⟩ := h.em.key x hx
        exact (hoth x hx q hq (by rintro rfl; exact hxy hq)).2
      · exact h.apart x hx y hy hxy
    · have hqk : q ≠ k := by rintro rfl; exact hq _ ((hm _).2 (.inl rfl)) rfl
      unfold updI; rw [if_neg hqk]
      refine h.non q (fun x hx e => ?_)
      exact hq x ((hm x).2 (.inr ⟨hx, by rw [e]; intro e2; injection e2 with _ e2; exact hqk e2⟩)) e
    · unfold setE
      rw [Array.toList_modify, modify_eq_set _ _ _ _ h2]
      apply List.ext_getElem (by simp)
      intro i h4 h5
      rw [List.getElem_map, List.getElem_map, List.getElem_set]
      split
      · rename_i hji; subst hji
        have e0' := (List.getElem?_eq_some_iff.1 h2).2
        rw [e0']
      · rfl
    · rcases (hm x).1 hx with rfl | ⟨hx, _⟩
      · exact ⟨e0, he0, h3, rfl⟩
      · exact ⟨x, hx, rfl, rfl⟩
end Go.Proofs.Ytadepdeckapgcaa.Hi
end

section
namespace Go.Proofs
open Go.Shelf
def Try.l10_ren : Go.Shelf.Ren := ⟨fun | 10 => 31 | 6 => 22 | n => n, fun | 22 => 26 | 23 => 3 | 25 => 49 | 3 => 3 | 4 => 4 | 0 => 0 | n => n, fun | n => n⟩
theorem Try.l10 : Go.Proofs.SlLaysH.n10 Try.prog Try.l10_ren := {
  mixed := by kernel_rfl
  f6 := ⟨Try.f22.name, by decide, Try.func22.trans (congrArg some (by kernel_rfl))⟩
  f10 := ⟨Try.f31.name, by decide, Try.func31.trans (congrArg some (by kernel_rfl))⟩
  t0 := Try.underlying0
  a0 := Try.isAgg0
  z0 := Try.sizeOf0
  v0 := Try.zeroValue0
  t3 := Try.underlying3
  a3 := Try.isAgg3
  z3 := Try.sizeOf3
  v3 := Try.zeroValue3
  t4 := Try.underlying4
  a4 := Try.isAgg4
  z4 := Try.sizeOf4
  v4 := Try.zeroValue4
  t22 := Try.underlying26
  a22 := Try.isAgg26
  z22 := Try.sizeOf26
  v22 := Try.zeroValue26
  a23 := Try.isAgg3
  z23 := Try.sizeOf3
  t25 := Try.underlying49
  a25 := Try.isAgg49
  z25 := Try.sizeOf49
  v25 := Try.zeroValue49 }
end Go.Proofs
end

section
namespace Go.Proofs.Ytadepdeckapgcaa.Hi
open Go.Proofs.Ytadepdeckapgcaa Go.RowKit Go.Maps Go.Proofs.YtadepdeckapgcaaW.PrintWords Go.Proofs.YtadepdeckapgcaaW.PrintLast Go.Proofs.YtadepdeckapgcaaW.PrintMore Go.Proofs.Ytadepdeckapgcaa.PHi
set_option linter.unusedVariables false
set_option linter.unusedSimpArgs false
theorem wEqR (w : World) (pb : Nat) (r : Int) (hb : w.cell? ⟨pb, 2, none⟩ = some (.int .i64 r)) (x : Int) :
    Calls Try.prog 32 #[.int .i64 x, .pointer (some ⟨pb, 0, none⟩)] w fun e w' => e = .returned (.bool (x == r)) ∧ w' = w := by
  go_enter Try.func32, Try.ntmps32
  go_wp2
  go_ret
  exact ⟨rfl, rfl⟩
theorem wNeR (w : World) (pb : Nat) (r : Int) (hb : w.cell? ⟨pb, 2, none⟩ = some (.int .i64 r)) (x : Int) :
    Calls Try.prog 34 #[.int .i64 x, .pointer (some ⟨pb, 0, none⟩)] w fun e w' => e = .returned (.bool (x != r)) ∧ w' = w := by
  go_enter Try.func34, Try.ntmps34
  go_wp2
  go_ret
  exact ⟨rfl, rfl⟩
theorem wIdxN (w : World) (A : Option Addr) (c : Nat) (left : List Int) (hC : Kd.C (Kd.int .i64) w A left.length left) (hl : left.length ≤ 1000000) (p : Int → Bool) (c1 : Addr)
    (hK : ∀ x ∈ left, ∀ w1, Below w.heap.size w w1 → Calls Try.prog 34 #[.int .i64 x, .pointer (some c1)] w1 fun e w' => e = .returned (.bool (p x)) ∧ Below w1.heap.size w1 w') :
    Calls Try.prog 22 #[.slice A left.length c, .func (.func 34) #[] #[.pointer (some c1)]] w fun e w' => e = .returned (.int .i64 (idxP p 0 left)) ∧ Below w.heap.size w w' := by
  have HC := Lib.hid hC; have HK := Lib.hid hK
  clear hC hK
  have eg : ∀ args w, (callFunc 34 args).run Try.prog w = .ok (.enter 34 args) w := enters_of Try.func34 (by kernel_rfl) rfl
  go_enter Try.func22, Try.ntmps22
  go_wp2
  go_loopw [8] (fun i wr => ∃ k : Nat, k ≤ left.length ∧ i = .int .i64 k ∧ Hid (idxP p k (left.drop k) = idxP p 0 left ∧ Below w.heap.size w wr)) (fun i _ => left.length - (intOf i).toNat)
  case atStart => exact ⟨0, Nat.zero_le _, rfl, Lib.hid ⟨rfl, Below.refl _ _⟩⟩
  case round =>
    obtain ⟨k, hk, rfl, HR⟩ := hrel
    obtain ⟨hx, hB⟩ := HR.out
    by_cases hlt : k < left.length
    · obtain ⟨ad, eA, x0⟩ := Kd.at_int HC.out (k : Int) (by omega) (by omega)
      cases eA
      have hr : rd left (k : Int) = left[k] := by unfold rd; simp [hlt]
      rw [hr] at x0
      simp only [Int.toNat_natCast] at x0
      have HKx := Lib.hid (HK.out _ (List.getElem_mem hlt) wr hB)
      rw [List.drop_eq_getElem_cons hlt] at hx
      generalize left[k] = x at x0 HKx hx
      replace x0 := (hB.cell (World.block_lt_of_cell? w _ x0)).trans x0
      simp only [idxP] at hx
      have HX := Lib.hid hx; have HBL := Lib.hid hB
      clear hx hB HR hr
      generalize p x = px at HKx HX
      cases px
      · rw [if_neg (by simp)] at HX
        go_wp2_with (go_at_call 34; refine HKx.out.mono ?_; rintro e w' ⟨rfl, hf⟩; have HF := Lib.hid hf; clear hf)
        go_roundw
        case rel => exact ⟨k + 1, by omega, by go_num, Lib.hid ⟨HX.out, HBL.out.trans (HF.out.mono HBL.out.size)⟩⟩
        case measure => simp [intOf]; omega
      · rw [if_pos rfl] at HX
        go_wp2_with (go_at_call 34; refine HKx.out.mono ?_; rintro e w' ⟨rfl, hf⟩; have HF := Lib.hid hf; clear hf)
        go_ret
        rw [← HX.out]
        exact ⟨rfl, HBL.out.trans (HF.out.mono HBL.out.size)⟩
    · have hx' : idxP p 0 left = -1 := by rw [← hx, List.drop_of_length_le (by omega)]; rfl
      have HX := Lib.hid hx'; have HBL := Lib.hid hB
      clear hx hx' hB HR
      go_wp2
      go_ret
      rw [HX.out]
      exact ⟨rfl, HBL.out⟩
theorem wConN (w : World) (A : Option Addr) (c : Nat) (xs : List Int) (hC : Kd.C (Kd.int .i64) w A xs.length xs) (hl : xs.length ≤ 1000000) (pb : Nat) (r : Int) (hpb : pb < w.heap.size) (hb : w.cell? ⟨pb, 2, none⟩ = some (.int .i64 r)) :
    Calls Try.prog 24 #[.slice A xs.length c, .func (.func 34) #[] #[.pointer (some ⟨pb, 0, none⟩)]] w fun e w' => e = .returned (.bool (xs.any (fun x => x != r))) ∧ Below w.heap.size w w' := by
  have HX := Lib.hid (wIdxN w A c xs hC hl (fun x => x != r) ⟨pb, 0, none⟩ (fun x _ w1 hb1 => (wNeR w1 pb r ((hb1.cell (p := ⟨pb, 2, none⟩) hpb).trans hb) x).mono (by rintro e w' ⟨rfl, rfl⟩; exact ⟨rfl, Below.refl _ _⟩)))
  have E := Lib.hid (idxP_ge (fun x => x != r) xs 0)
  clear hC hb
  generalize idxP (fun x => x != r) 0 xs = ix at HX E
  go_enter Try.func24, Try.ntmps24
  go_wp2_with (go_at_call 22; refine HX.out.mono ?_; rintro e w' ⟨rfl, hf⟩; have HF := Lib.hid hf; clear hf)
  go_ret
  rw [← E.out]
  exact ⟨rfl, HF.out⟩
theorem wDelF (w : World) (base g cap : Nat) (xs : List Int) (h : Kd.R (Kd.int .i64) 3 w base (fun _ => True) (.slice (some ⟨g, 0, none⟩) xs.length cap) xs) (pb : Nat) (cs : Array Value) (r : Int) (hb : Blk w pb cs 29) (h2 : w.cell? ⟨pb, 2, none⟩ = some (.int .i64 r)) :
    Calls Try.prog 31 #[.slice (some ⟨g, 0, none⟩) xs.length cap, .func (.func 32) #[] #[.pointer (some ⟨pb, 0, none⟩)]] w fun e w' => e = .returned (.slice (some ⟨g, 0, none⟩) (xs.filter fun x => !(x == r)).length cap) ∧
      Kd.R (Kd.int .i64) 3 w' base (fun _ => True) (.slice (some ⟨g, 0, none⟩) (xs.filter fun x => !(x == r)).length cap) (xs.filter fun x => !(x == r)) ∧ w.grownBy w' (some g) := by
  have ho : w.ownsRow base 3 1 (.slice (some ⟨g, 0, none⟩) xs.length cap) xs.length (xs.map (Value.int .i64)) := Kd.own_of_R (enc := Value.int .i64) (h1 := fun _ => rfl) h
  have hgp : some pb ≠ (Value.slice (some ⟨g, 0, none⟩) xs.length cap).ownBlock := Kd.R_ne h hb (by decide)
  obtain ⟨g', cap', e', hbl, hg, hn, hm, hz, hH⟩ := Lib.holds_of_ownsRow ho (by simp)
  injection e' with e' _ ec; injection e' with e'; injection e' with e'; subst e' ec
  have hm2 : cap ≤ 9223372036854775807 := hm
  have eg : ∀ args w, (callFunc 32 args).run Try.prog w = .ok (.enter 32 args) w := enters_of Try.func32 (by kernel_rfl) rfl
  have hpl : pb < w.heap.size := hb.lt
  have hp : PredAt Try.prog 32 #[.pointer (some ⟨pb, 0, none⟩)] (Value.int .i64) (fun x => x == r) w := fun W x hB => (wEqR W pb r ((hB.cell (p := ⟨pb, 2, none⟩) hpl).trans h2) x).mono (by rintro e w' ⟨rfl, rfl⟩; exact ⟨rfl, 0, rfl⟩)
  have hpo : PredOver Try.prog 32 #[.pointer (some ⟨pb, 0, none⟩)] (Value.int .i64) (fun x => x == r) g 0 xs.toArray.size w := fun n os dk x hs => by
    refine (wEqR _ pb r ?_ x).mono (by rintro e w' ⟨rfl, rfl⟩; exact ⟨rfl, 0, rfl⟩)
    have hgr := srt_grown (w := w) (g := g) (n := n) (os := os) dk
    have q := hgr.block pb hpl (fun e => hgp (e.trans rfl))
    show (Go.Sort.grow (Go.Sort.putRow (Value.int .i64) (Go.Sort.ahead w n) g 0 dk) os).cell? ⟨pb, 2, none⟩ = _
    rw [← h2]
    unfold World.cell?
    simp only [q]
  have key := AnyE.slices_DeleteFunc Try.l10 (Value.int .i64) (fun _ => rfl) (fun x => x == r) 32 #[.pointer (some ⟨pb, 0, none⟩)] eg 0 (fun w => zeroI w) g 0 cap xs.toArray w hp hpo hH (by simp; omega) (by simpa using hn)
  rw [show xs.toArray.size = xs.length from by simp] at key
  refine key.mono ?_
  rintro e w' ⟨rfl, q, rfl⟩
  have hy : ((xs.filter fun x => !(x == r)) ++ List.replicate (xs.length - (xs.filter fun x => !(x == r)).length) (0 : Int)).length = xs.length := by
    have := List.length_filter_le (fun x => !(x == r)) xs
    simp only [List.length_append, List.length_replicate]; omega
  have q1 := Lib.ownsRow_putRow (q := q) (k := (xs.filter fun x => !(x == r)).length) ho hy (List.length_filter_le _ _)
  rw [List.take_left' rfl] at q1
  refine ⟨by simp, ?_, ?_⟩
  · refine Kd.R_of_own (enc := Value.int .i64) (h1 := fun _ => rfl) ?_ (fun _ _ => trivial)
    exact q1
  · refine ⟨rfl, rfl, rfl, by simp, fun k hk hne => ?_⟩
    have : g ≠ k := fun e => hne (by rw [e])
    simp [Go.Sort.putRow, Go.Sort.mapBlock, Go.Sort.ahead, Array.getElem?_modify, this]
theorem DM.below {base : Nat} {w w' : World} {b : Nat} {es : Array MapEntry} {ck : Nat} {ow : Int → List Int} (h : DM base w b es ck ow) (hb : Below w.heap.size w w') : DM base w' b es ck ow :=
  h.kept (row := none) ⟨hb.os, hb.tape, hb.output, hb.size, fun k hk _ => hb.block k hk⟩ (by simp)
end Go.Proofs.Ytadepdeckapgcaa.Hi
end

section
namespace Go.Proofs.Ytadepdeckapgcaa.Hi
open Go.Proofs.Ytadepdeckapgcaa Go.RowKit Go.Maps Go.Proofs.YtadepdeckapgcaaW.PrintWords Go.Proofs.YtadepdeckapgcaaW.PrintLast Go.Proofs.YtadepdeckapgcaaW.PrintMore Go.Proofs.Ytadepdeckapgcaa.PHi
open Go.ChangeMaps Go.MapKept
set_option linter.unusedVariables false
set_option linter.unusedSimpArgs false
theorem left_len (es : Array MapEntry) (seen : Array Nat) : (leftOf es seen).size = ((es.toList.map (·.born)).filter fun b => !seen.contains b).length := by
  unfold leftOf
  rw [List.filter_map, List.length_map, ← Array.length_toList, Array.toList_filter]; rfl
def flt (r : Int) (l : List Int) : List Int := l.filter fun x => !(x == r)
structure RgAt (w : World) (pm rI ck : Nat) (cs : Array Value) (r : Int) (D : Int → List Int) (es : Array MapEntry) (seen : Array Nat) (D2 : Int → List Int) (wi : World) : Prop where
  it : wi.heap[rI]? = some (.mapIter (some w.heap.size) ck seen ck)
  dm : DM (w.heap.size + 1) wi w.heap.size es ck D2
  hD : ∀ k, (D2 k = D k ∧ ¬ ∃ x ∈ es.toList, x.key = iK k ∧ seen.contains x.born = true) ∨ (D2 k = flt r (D k) ∧ ∃ x ∈ es.toList, x.key = iK k ∧ seen.contains x.born = true)
  blk : Blk wi pm cs 29
  bel : Below w.heap.size w wi
  sz : w.heap.size + 1 ≤ wi.heap.size
theorem RgAt.done {w : World} {pm rI ck : Nat} {cs : Array Value} {r : Int} {D : Int → List Int} {es : Array MapEntry} {seen : Array Nat} {D2 : Int → List Int} {wi : World} (h : RgAt w pm rI ck cs r D es seen D2 wi) (h0 : (leftOf es seen).size = 0) : D2 = fun k => flt r (D k) := by
  funext k
  rcases h.hD k with ⟨e, hn⟩ | ⟨e, _⟩
  · have hno : ∀ x ∈ es.toList, x.key ≠ iK k := fun x hx hk => hn ⟨x, hx, hk, all_seen es seen h0 x hx⟩
    have := h.dm.non k hno
    rw [this] at e
    rw [this, ← e]; rfl
  · exact e
theorem grown_iter {w1 : World} {rI : Nat} {m : Option Nat} {s : Nat} {seen : Array Nat} {c : Nat} (hr : w1.heap[rI]? = some (.mapIter m s seen c)) (o : Obj) : w1.grownBy (setBlock w1 rI o) (some rI) :=
  ⟨rfl, rfl, rfl, by simp [setBlock], fun i _ hi => by
    have : rI ≠ i := fun e => hi (by rw [e])
    simp [setBlock, Array.getElem?_setIfInBounds, this]⟩
theorem iter_same {w1 : World} {rI : Nat} {o0 : Obj} (hr : w1.heap[rI]? = some o0) (o : Obj) : (setBlock w1 rI o).heap[rI]? = some o := by
  have := (Array.getElem?_eq_some_iff.1 hr).1
  simp [setBlock, Array.getElem?_setIfInBounds, this]
theorem RgAt.step {w : World} {pm rI ck : Nat} {cs : Array Value} {r : Int} {D : Int → List Int} {es : Array MapEntry} {seen : Array Nat} {D2 : Int → List Int} {wi : World} (h : RgAt w pm rI ck cs r D es seen D2 wi)
    (hpm : w.heap.size < pm) (hrI : w.heap.size < rI) (hcs : cs.size = 5) (h2 : cs[2]? = some (.int .i64 r)) (e : MapEntry) (he : e ∈ (leftOf es seen).toList) (w1 : World) (hw1 : w1 = wi ∨ w1 = wi.drew) :
    ∃ k g cap, e.key = iK k ∧ e.val = .slice (some ⟨g, 0, none⟩) (D2 k).length cap ∧
      (Instr.entry (.pointer (some ⟨rI, 0, none⟩))).run Try.prog (setBlock w1 rI (.mapIter (some w.heap.size) ck (seen.push e.born) ck)) = .ok (.tuple #[iK k, .slice (some ⟨g, 0, none⟩) (D2 k).length cap]) (setBlock w1 rI (.mapIter (some w.heap.size) ck (seen.push e.born) ck)) ∧
      Calls Try.prog 31 #[.slice (some ⟨g, 0, none⟩) (D2 k).length cap, .func (.func 32) #[] #[.pointer (some ⟨pm, 0, none⟩)]] (setBlock w1 rI (.mapIter (some w.heap.size) ck (seen.push e.born) ck)) fun x w2 => x = .returned (.slice (some ⟨g, 0, none⟩) (flt r (D2 k)).length cap) ∧
        ∃ w3, (Instr.mapUpdate 53 (.map (some w.heap.size)) (iK k) (.slice (some ⟨g, 0, none⟩) (flt r (D2 k)).length cap)).run Try.prog w2 = .ok () w3 ∧ ∃ es3 D3, RgAt w pm rI ck cs r D es3 (seen.push e.born) D3 w3 ∧ (leftOf es3 (seen.push e.born)).size < (leftOf es seen).size := by
  obtain ⟨he1, hns⟩ := mem_left he
  obtain ⟨k, hk, hki⟩ := h.dm.em.key e he1
  obtain ⟨hR0, g, cap, hv⟩ := h.dm.row e he1 k hk
  have hnb : (es.toList.map (·.born)).Nodup := h.dm.em.st.2.1
  have hnk : (es.toList.map (·.key)).Nodup := h.dm.em.st.2.2
  have keyinj : ∀ x ∈ es.toList, ∀ y ∈ es.toList, x.key = y.key → x = y := by
    intro x hx y hy hxy
    obtain ⟨i, hi, rfl⟩ := List.getElem_of_mem hx
    obtain ⟨j, hj, rfl⟩ := List.getElem_of_mem hy
    have := (List.getElem_inj (xs := es.toList.map (fun x => x.key)) (i := i) (j := j) (h₀ := by simpa using hi) (h₁ := by simpa using hj) hnk).1 (by simpa using hxy)
    subst this; rfl
  have hwi1 : wi.grownBy w1 none := by rcases hw1 with rfl | rfl <;> exact ⟨rfl, rfl, rfl, Nat.le_refl _, fun _ _ _ => rfl⟩
  have hit1 : w1.heap[rI]? = some (.mapIter (some w.heap.size) ck seen ck) := by rcases hw1 with rfl | rfl <;> exact h.it
  have hdm1 : DM (w.heap.size + 1) w1 w.heap.size es ck D2 := h.dm.kept hwi1 (by simp)
  have hbl1 : Blk w1 pm cs 29 := by rcases hw1 with rfl | rfl <;> exact h.blk
  have hbe1 : Below w.heap.size w w1 := by rcases hw1 with rfl | rfl; exact h.bel; exact ⟨h.bel.os, h.bel.tape, h.bel.output, h.bel.size, h.bel.block⟩
  have hsz1 : w.heap.size + 1 ≤ w1.heap.size := by rcases hw1 with rfl | rfl <;> exact h.sz
  clear hwi1 hw1
  have hg1 := grown_iter hit1 (.mapIter (some w.heap.size) ck (seen.push e.born) ck)
  have hit2 : (setBlock w1 rI (.mapIter (some w.heap.size) ck (seen.push e.born) ck)).heap[rI]? = some (.mapIter (some w.heap.size) ck (seen.push e.born) ck) := iter_same hit1 _
  have hdm2 : DM (w.heap.size + 1) (setBlock w1 rI (.mapIter (some w.heap.size) ck (seen.push e.born) ck)) w.heap.size es ck D2 := hdm1.kept hg1 (fun q hq => by cases hq; exact ⟨by omega, fun _ _ _ hc => by rw [hit1] at hc; cases hc⟩)
  have hpr : pm ≠ rI := by rintro rfl; have hc : w1.heap[pm]? = some (.cells cs 29 (0, 0)) := hbl1; rw [hit1] at hc; cases hc
  have hbl2 : Blk (setBlock w1 rI (.mapIter (some w.heap.size) ck (seen.push e.born) ck)) pm cs 29 := (hg1.block _ hbl1.lt (by simp; omega)).trans hbl1
  have hbe2 : Below w.heap.size w (setBlock w1 rI (.mapIter (some w.heap.size) ck (seen.push e.born) ck)) := hbe1.grown hg1 (by omega) (fun j hj => by cases hj; omega)
  have hsz2 := Nat.le_trans hsz1 hg1.size
  generalize setBlock w1 rI (.mapIter (some w.heap.size) ck (seen.push e.born) ck) = W1 at *
  clear hdm1 hbl1 hbe1 hit1 hg1 hsz1
  obtain ⟨hR, _⟩ := hdm2.row e he1 k hk
  have hen := run_entry_at (P := Try.prog) W1 rI w.heap.size ck seen es ck e hit2 hdm2.em.heap he1 hnb
  rw [hk, hv] at hen
  rw [hv] at hR
  refine ⟨k, g, cap, hk, hv, hen, ?_⟩
  have hc2 : W1.cell? ⟨pm, 2, none⟩ = some (.int .i64 r) := by
    have q := hbl2.cell 2
    rw [q]; exact h2
  refine (wDelF W1 (w.heap.size + 1) g cap (D2 k) hR pm cs r hbl2 hc2).mono ?_
  rintro x w2 ⟨rfl, hR2, hg2⟩
  refine ⟨rfl, ?_⟩
  obtain ⟨w3, es3, ck3, hrun, hdm3, hg3, hthere⟩ := hdm2.store k hki e.val (.inr ⟨e, he1, hk, rfl⟩) (w1 := w2) (by rw [hv]; exact hg2) (.slice (some ⟨g, 0, none⟩) (flt r (D2 k)).length cap) (flt r (D2 k)) hR2 ⟨g, cap, rfl⟩ (.inl (by rw [hv]; rfl))
  obtain ⟨rfl, hborn, hback⟩ := hthere ⟨e, he1, hk⟩
  have hg0 : some pm ≠ some g := Kd.R_ne hR hbl2 (by decide)
  have hrg : rI ≠ g := by
    rintro rfl
    obtain ⟨_, _, _, q, _, cells, hc⟩ := (Kd.R_bound hR).1 rI rfl
    rw [hit2] at hc; cases hc
  have hrl : rI < W1.heap.size := (Array.getElem?_eq_some_iff.1 hit2).1
  have hgb : w.heap.size + 1 ≤ g := ((Kd.R_bound hR).1 g rfl).2.1
  have hs2 := hg2.size
  have hbornmem : ∀ x ∈ es.toList, ∃ x' ∈ es3.toList, x'.born = x.born := fun x hx => by
    have : x.born ∈ es3.toList.map (·.born) := by rw [hborn]; exact List.mem_map.2 ⟨x, hx, rfl⟩
    obtain ⟨x', hx', e'⟩ := List.mem_map.1 this
    exact ⟨x', hx', e'⟩
  have hfwd : ∀ x ∈ es.toList, ∃ x' ∈ es3.toList, x'.born = x.born ∧ x'.key = x.key := fun x hx => by
    obtain ⟨x', hx', e'⟩ := hbornmem x hx
    obtain ⟨y, hy, hyk, hyb⟩ := hback x' hx'
    have : y = x := born_inj hnb hy hx (hyb.trans e')
    subst this
    exact ⟨x', hx', e', hyk.symm⟩
  refine ⟨w3, hrun, es3, _, ⟨?_, hdm3, fun q => ?_, ?_, ?_, ?_⟩, ?_⟩
  · exact (hg3.block _ (by omega) (by simp; omega)).trans ((hg2.block _ hrl (by simp; omega)).trans hit2)
  · by_cases hq : q = k
    · subst hq
      refine .inr ⟨?_, ?_⟩
      · rw [show updI D2 q (flt r (D2 q)) q = flt r (D2 q) from if_pos rfl]
        rcases h.hD q with ⟨e1, _⟩ | ⟨_, x, hx, hxk, hxs⟩
        · rw [e1]
        · have : x = e := keyinj x hx e he1 (hxk.trans hk.symm)
          subst this
          rw [hns] at hxs; cases hxs
      · obtain ⟨x', hx', hb', hk'⟩ := hfwd e he1
        exact ⟨x', hx', hk'.trans hk, by rw [contains_push, hb']; simp⟩
    · rw [show updI D2 k (flt r (D2 k)) q = D2 q from if_neg hq]
      have hiff : (∃ x ∈ es3.toList, x.key = iK q ∧ (seen.push e.born).contains x.born = true) ↔ ∃ x ∈ es.toList, x.key = iK q ∧ seen.contains x.born = true := by
        constructor
        · rintro ⟨x, hx, hxk, hxs⟩
          obtain ⟨y, hy, hyk, hyb⟩ := hback x hx
          rw [contains_push] at hxs
          refine ⟨y, hy, hyk.trans hxk, ?_⟩
          rw [hyb]
          rcases Bool.or_eq_true _ _ ▸ hxs with h1 | h1
          · exact h1
          · have : y = e := born_inj hnb hy he1 (hyb.trans (beq_iff_eq.1 h1))
            subst this
            exact absurd (iK_inj ((hyk.trans hxk).symm.trans hk)) hq
        · rintro ⟨x, hx, hxk, hxs⟩
          obtain ⟨x', hx', hb', hk'⟩ := hfwd x hx
          exact ⟨x', hx', hk'.trans hxk, by rw [contains_push, hb', hxs]; rfl⟩
      rw [hiff]
      exact h.hD q
  · exact (hg3.block _ (by have := hbl2.lt; omega) (by simp; omega)).trans ((hg2.block _ hbl2.lt hg0).trans hbl2)
  · exact (hbe2.grown hg2 (by omega) (fun j hj => by cases hj; omega)).grown hg3 (by omega) (fun j hj => by cases hj; omega)
  · have := hg3.size; omega
  · rw [left_len, hborn, ← left_len]
    exact left_shrinks es seen e he
def strictG : List Mk → (Int → List Int) → Bool
  | [], _ => true
  | m :: r, D => if isEnd m = true then strictG r (fun k => flt m.f2 (D k))
      else if acc m = true then (if (D m.f3).any (fun x => x != m.f2) = true then false
        else if m.f0 = 2 ∧ m.f2 > 0 then strictG r (updI D m.f3 (D m.f3 ++ [m.f2])) else strictG r D)
      else strictG r D
structure StRel (w : World) (l : List Mk) (i : Nat) (D : Int → List Int) (es : Array MapEntry) (ck : Nat) (wr : World) : Prop where
  eq : strictG (l.drop i) D = strictG l (fun _ => [])
  dm : DM (w.heap.size + 1) wr w.heap.size es ck D
  bel : Below w.heap.size w wr
  sz : w.heap.size + 1 ≤ wr.heap.size
  len : ∀ k, (D k).length ≤ i
theorem DM.look {base : Nat} {w : World} {b : Nat} {es : Array MapEntry} {ck : Nat} {ow : Int → List Int} (h : DM base w b es ck ow) (k : Int) (hk : in64 k) :
    ∃ A c, (Instr.lookup 53 (.map (some b)) (iK k) false).run Try.prog w = .ok (.slice A (ow k).length c) w ∧ Kd.R (Kd.int .i64) 3 w base (fun _ => True) (.slice A (ow k).length c) (ow k) ∧
      ((.slice A (ow k).length c = Value.slice none 0 0 ∧ ∀ e ∈ es.toList, e.key ≠ iK k) ∨ ∃ e0 ∈ es.toList, e0.key = iK k ∧ .slice A (ow k).length c = e0.val) := by
  have hz : (zeroValue 26).run Try.prog w = .ok (.slice none 0 0) w := by kernel_rfl
  rcases h.em.look Try.underlying53 hz k hk with ⟨hrun, hno⟩ | ⟨e0, he0, hk0, hrun⟩
  · have e := h.non k hno
    refine ⟨none, 0, ?_, ?_, .inl ⟨?_, hno⟩⟩
    · rw [e]; exact hrun
    · rw [e]; exact Kd.R_nil _ _ _ _ _
    · rw [e]; rfl
  · obtain ⟨hR, g, cap, hv⟩ := h.row e0 he0 k hk0
    rw [hv] at hrun hR
    exact ⟨_, _, hrun, hR, .inr ⟨e0, he0, hk0, hv.symm⟩⟩
theorem DM.look2 {base : Nat} {w : World} {b : Nat} {es : Array MapEntry} {ck : Nat} {ow : Int → List Int} (h : DM base w b es ck ow) (k : Int) (hk : in64 k) :
    ∃ A c, (∀ w', w'.heap[b]? = w.heap[b]? → (Instr.lookup 53 (.map (some b)) (iK k) false).run Try.prog w' = .ok (.slice A (ow k).length c) w') ∧ Kd.R (Kd.int .i64) 3 w base (fun _ => True) (.slice A (ow k).length c) (ow k) ∧
      ((.slice A (ow k).length c = Value.slice none 0 0 ∧ ∀ e ∈ es.toList, e.key ≠ iK k) ∨ ∃ e0 ∈ es.toList, e0.key = iK k ∧ .slice A (ow k).length c = e0.val) := by
  have hz : ∀ w', (zeroValue 26).run Try.prog w' = .ok (.slice none 0 0) w' := fun w' => by kernel_rfl
  have hE : ∀ w', w'.heap[b]? = w.heap[b]? → EM w' b es ck := fun w' he => ⟨he.trans h.em.heap, h.em.st, h.em.key⟩
  rcases h.em.look Try.underlying53 (hz w) k hk with ⟨hrun, hno⟩ | ⟨e0, he0, hk0, hrun⟩
  · have e := h.non k hno
    refine ⟨none, 0, fun w' he => ?_, ?_, .inl ⟨?_, hno⟩⟩
    · rcases (hE w' he).look Try.underlying53 (hz w') k hk with ⟨hr, _⟩ | ⟨e1, he1, hk1, _⟩
      · rw [e]; exact hr
      · exact absurd hk1 (hno e1 he1)
    · rw [e]; exact Kd.R_nil _ _ _ _ _
    · rw [e]; rfl
  · obtain ⟨hR, g, cap, hv⟩ := h.row e0 he0 k hk0
    refine ⟨_, _, fun w' he => ?_, by rw [hv] at hR; exact hR, .inr ⟨e0, he0, hk0, hv.symm⟩⟩
    rcases (hE w' he).look Try.underlying53 (hz w') k hk with ⟨_, hno⟩ | ⟨e1, he1, hk1, hr⟩
    · exact absurd hk0 (hno e0 he0)
    · have : e1 = e0 := by
        obtain ⟨i, hi, rfl⟩ := List.getElem_of_mem he1
        obtain ⟨j, hj, rfl⟩ := List.getElem_of_mem he0
        have := (List.getElem_inj (xs := es.toList.map (fun x => x.key)) (i := i) (j := j) (h₀ := by simpa using hi) (h₁ := by simpa using hj) h.em.st.2.2).1 (by simpa using hk1.trans hk0.symm)
        subst this; rfl
      rw [hr, this, hv]
theorem R_some {w : World} {base : Nat} {v : Value} {xs : List Int} (h : Kd.R (Kd.int .i64) 3 w base (fun _ => True) v xs) (hne : xs ≠ []) : ∃ g cap, v = .slice (some ⟨g, 0, none⟩) xs.length cap := by
  have ho : w.ownsRow base 3 1 v xs.length (xs.map (Value.int .i64)) := Kd.own_of_R (enc := Value.int .i64) (h1 := fun _ => rfl) h
  have h0 : v ≠ .slice none 0 0 := by
    rintro rfl
    obtain ⟨A, c, e, _⟩ := Kd.R_reads h
    injection e with _ e _
    exact hne (List.eq_nil_of_length_eq_zero e.symm)
  obtain ⟨g, cap, e, _⟩ := Lib.holds_of_ownsRow ho h0
  exact ⟨g, cap, e⟩
theorem DM.made (w : World) : DM (w.heap.size + 1) (w.alloc (.map #[] 0)) w.heap.size #[] 0 (fun _ => []) :=
  ⟨⟨heap_alloc_new w _, stamped_empty 0, fun x hx => by simp at hx⟩, fun x hx => by simp at hx, fun x hx => by simp at hx, fun _ _ => rfl⟩
end Go.Proofs.Ytadepdeckapgcaa.Hi
end

section
namespace Go.Proofs.Ytadepdeckapgcaa.Hi
open Go.Proofs.Ytadepdeckapgcaa Go.RowKit Go.Maps Go.Proofs.YtadepdeckapgcaaW.PrintWords Go.Proofs.YtadepdeckapgcaaW.PrintLast Go.Proofs.YtadepdeckapgcaaW.PrintMore Go.Proofs.Ytadepdeckapgcaa.PHi
open Go.ChangeMaps Go.MapKept
set_option linter.unusedVariables false
set_option linter.unusedSimpArgs false
set_option maxRecDepth 100000 in
set_option maxHeartbeats 4000000 in
theorem wStrict (w : World) (A : Option Addr) (c : Nat) (l : List Mk) (hC : Kd.C k29 w A l.length l) (hl : l.length ≤ 1000000) (hm : ∀ m ∈ l, inM m) :
    Calls Try.prog 14 #[.slice A l.length c] w fun e w' => e = .returned (.bool (strictG l (fun _ => []))) ∧ Below w.heap.size w w' := by
  have hmm := @run_makeMap Try.prog
  have HC := Lib.hid hC
  have HM := Lib.hid hm
  clear hC hm
  go_enter Try.func14, Try.ntmps14
  go_wp2
  go_loopw [11] (fun v11 wr => ∃ (i : Nat) (D : Int → List Int) (es : Array MapEntry) (ck : Nat), i ≤ l.length ∧ v11 = .int .i64 i ∧ Hid (StRel w l i D es ck wr)) (fun v11 _ => l.length - (intOf v11).toNat)
  case atStart => exact ⟨0, _, _, _, Nat.zero_le _, rfl, Lib.hid ⟨rfl, DM.made w, (Below.refl _ _).alloc (Nat.le_refl _) _, by simp, fun _ => Nat.zero_le _⟩⟩
  case round =>
    obtain ⟨i, D, es, ck, hi, rfl, HR⟩ := hrel
    by_cases hlt : i < l.length
    · obtain ⟨ad, eA, x0, x1, x2, x3, x4⟩ := at_T29 HC.out (i : Int) (by omega) (by omega)
      cases eA
      have hr : rd_T29 l (i : Int) = l[i] := by unfold rd_T29; simp [hlt]
      rw [hr] at x0 x1 x2 x3 x4
      simp only [Int.toNat_natCast] at x0 x1 x2 x3 x4
      have hmi := HM.out _ (List.getElem_mem hlt)
      obtain ⟨hq, hdm, hbel, hsz, hlen⟩ := HR.out
      rw [List.drop_eq_getElem_cons hlt] at hq
      generalize l[i] = m at x0 x1 x2 x3 x4 hmi hq
      obtain ⟨f0, f1, f2, f3, f4⟩ := m
      dsimp only at x0 x1 x2 x3 x4
      replace x0 := (hbel.cell (World.block_lt_of_cell? w _ x0)).trans x0
      replace x1 := (hbel.cell (World.block_lt_of_cell? w _ x1)).trans x1
      replace x2 := (hbel.cell (World.block_lt_of_cell? w _ x2)).trans x2
      replace x3 := (hbel.cell (World.block_lt_of_cell? w _ x3)).trans x3
      replace x4 := (hbel.cell (World.block_lt_of_cell? w _ x4)).trans x4
      have HLEN := Lib.hid hlen
      have HE := Lib.hid (wEnd (wr.alloc (.cells #[.int .i64 f0, .int .i64 f1, .int .i64 f2, .int .i64 f3, .int .i64 f4] 29)) ⟨f0, f1, f2, f3, f4⟩)
      have HB0 : Hid (Below w.heap.size w (wr.alloc (.cells #[.int .i64 f0, .int .i64 f1, .int .i64 f2, .int .i64 f3, .int .i64 f4] 29))) := Lib.hid (hbel.alloc hbel.size _)
      have HD0 := Lib.hid (hdm.below ((Below.refl wr.heap.size wr).alloc (Nat.le_refl _) (.cells #[.int .i64 f0, .int .i64 f1, .int .i64 f2, .int .i64 f3, .int .i64 f4] 29)))
      have HN := Lib.hid (Blk.new wr #[.int .i64 f0, .int .i64 f1, .int .i64 f2, .int .i64 f3, .int .i64 f4] 29)
      simp only [strictG] at hq
      have HQ := Lib.hid hq
      clear hq hdm hbel hr HR hlen
      generalize isEnd ⟨f0, f1, f2, f3, f4⟩ = ie at HE HQ
      go_wp2_with fail
      refine HE.out.mono ?_
      rintro e w5 ⟨rfl, hb5⟩
      have HB5 : Hid (Below w.heap.size w w5) := Lib.hid (HB0.out.trans (hb5.mono (by simp; omega)))
      have HD5 := Lib.hid (HD0.out.below hb5)
      have hblk : Blk w5 wr.heap.size #[.int .i64 f0, .int .i64 f1, .int .i64 f2, .int .i64 f3, .int .i64 f4] 29 := (hb5.block _ (by simp)).trans HN.out
      have HBLK := Lib.hid hblk
      have y0 := hblk.cell 0; have y1 := hblk.cell 1; have y2 := hblk.cell 2; have y3 := hblk.cell 3; have y4 := hblk.cell 4
      simp at y0 y1 y2 y3 y4
      have hsz5 : wr.heap.size + 1 ≤ w5.heap.size := by have := hb5.size; simpa using this
      clear hblk hb5 HE HN HB0 x0 x1 x2 x3 x4 HD0
      cases ie
      case true =>
        rw [if_pos rfl] at HQ
        have hrg := run_range_map (P := Try.prog) w5 53 3 26 w.heap.size es ck Try.underlying53 HD5.out.em.heap
        have HR0 : Hid (RgAt w wr.heap.size w5.heap.size ck #[.int .i64 f0, .int .i64 f1, .int .i64 f2, .int .i64 f3, .int .i64 f4] f2 D es #[] D (w5.alloc (.mapIter (some w.heap.size) ck #[] ck))) := Lib.hid {
          it := heap_alloc_new _ _
          dm := HD5.out.below ((Below.refl _ _).alloc (Nat.le_refl _) _)
          hD := fun k => .inl ⟨rfl, fun ⟨x, _, _, hx⟩ => by simp at hx⟩
          blk := HBLK.out.alloc _
          bel := HB5.out.alloc HB5.out.size _
          sz := by simp; omega }
        have hp1 : w.heap.size < wr.heap.size := by omega
        have hp2 : w.heap.size < w5.heap.size := by omega
        clear HD5 HBLK y0 y1 y2 y3 y4 HB5
        obtain ⟨wo, hwo⟩ : ∃ x, x = wr := ⟨_, rfl⟩
        subst hwo
        go_wp2
        clear hrg
        go_loopg [] (leftOf es #[]).size (fun g wi => ∃ (es2 : Array MapEntry) (seen : Array Nat) (D2 : Int → List Int), g = (leftOf es2 seen).size ∧ Hid (RgAt w wo.heap.size w5.heap.size ck #[.int .i64 f0, .int .i64 f1, .int .i64 f2, .int .i64 f3, .int .i64 f4] f2 D es2 seen D2 wi))
        case atStart => exact ⟨es, #[], D, rfl, HR0⟩
        case round =>
          clear HR0
          obtain ⟨es2, seen, D2, hg, HRG⟩ := hrel
          rcases run_next_at (P := Try.prog) wr 0 w5.heap.size w.heap.size ck ck seen es2 ck HRG.out.it HRG.out.dm.em.heap HRG.out.dm.em.st.1 (Nat.le_refl _) with ⟨h0, hrun⟩ | ⟨e, he, w1, hal, hrun⟩
          · have hnx : ∀ ty, (Instr.next (.pointer (some ⟨w5.heap.size, 0, none⟩)) false ty).run Try.prog wr = _ := fun _ => hrun
            have hD2 := HRG.out.done h0
            subst hD2
            clear hrun hg h0
            go_wp2
            go_roundw
            case rel => exact ⟨i + 1, _, es2, ck, by omega, by go_num, Lib.hid ⟨HQ.out, HRG.out.dm, HRG.out.bel, HRG.out.sz, fun k => Nat.le_trans (List.length_filter_le _ _) (Nat.le_trans (HLEN.out k) (Nat.le_succ _))⟩⟩
            case measure => simp [intOf]; omega
          · obtain ⟨k, g0, cap, hk, hv, hen, hcall⟩ := HRG.out.step hp1 hp2 rfl rfl e he w1 hal
            rw [hk, hv] at hrun
            have hnx : ∀ ty, (Instr.next (.pointer (some ⟨w5.heap.size, 0, none⟩)) false ty).run Try.prog wr = _ := fun _ => hrun
            have HCA := Lib.hid hcall
            clear hrun hk hv hal hcall he HRG
            generalize setBlock w1 w5.heap.size (.mapIter (some w.heap.size) ck (seen.push e.born) ck) = W1 at *
            go_wp2_with fail
            refine HCA.out.mono ?_
            rintro x w2 ⟨rfl, w3, hup, es3, D3, hR3, hlt3⟩
            have HR3 := Lib.hid hR3
            clear hR3
            go_wp2
            go_roundg (leftOf es3 (seen.push e.born)).size
            case measure => omega
            case rel => exact ⟨es3, _, D3, rfl, HR3⟩
      rw [if_neg (by simp)] at HQ
      have HE := Lib.hid (wAcc w5 ⟨f0, f1, f2, f3, f4⟩)
      generalize acc ⟨f0, f1, f2, f3, f4⟩ = ia at HE HQ
      go_wp2_with fail
      refine HE.out.mono ?_
      rintro e w6 ⟨rfl, hb6⟩
      have HB6 : Hid (Below w.heap.size w w6) := Lib.hid (HB5.out.trans (hb6.mono (by omega)))
      have HD6 := Lib.hid (HD5.out.below hb6)
      have hblk : Blk w6 wr.heap.size #[.int .i64 f0, .int .i64 f1, .int .i64 f2, .int .i64 f3, .int .i64 f4] 29 := (hb6.block _ HBLK.out.lt).trans HBLK.out
      have HBLK6 := Lib.hid hblk
      have hsz6 : wr.heap.size + 1 ≤ w6.heap.size := Nat.le_trans hsz5 hb6.size
      have z0 := hblk.cell 0; have z2 := hblk.cell 2; have z3 := hblk.cell 3
      simp at z0 z2 z3
      clear hblk hb6 HE HB5 HD5 HBLK y0 y1 y2 y3 y4
      cases ia
      case false =>
        rw [if_neg (by simp)] at HQ
        go_wp2
        go_roundw
        case rel => exact ⟨i + 1, D, es, ck, by omega, by go_num, Lib.hid ⟨HQ.out, HD6.out, HB6.out, by omega, fun k => Nat.le_trans (HLEN.out k) (Nat.le_succ _)⟩⟩
        case measure => simp [intOf]; omega
      rw [if_pos rfl] at HQ
      obtain ⟨Ak, cc, hlook, hRk, hor⟩ := HD6.out.look f3 hmi.2.2.2.1
      obtain ⟨A', c', e', hc', hCk⟩ := Kd.R_reads hRk
      injection e' with e1 _ e2; subst e1 e2
      have hlk : (D f3).length ≤ 1000000 := Nat.le_trans (HLEN.out f3) (by omega)
      have HCN := Lib.hid (wConN w6 Ak cc (D f3) hCk hlk wr.heap.size f2 (by omega) z2)
      have HRK := Lib.hid hRk; have HOR := Lib.hid hor
      clear hRk hor hCk hc'
      generalize (D f3).any (fun x => x != f2) = an at HCN HQ
      go_wp2_with fail
      refine HCN.out.mono ?_
      rintro e w7 ⟨rfl, hb7⟩
      have HB7 : Hid (Below w.heap.size w w7) := Lib.hid (HB6.out.trans (hb7.mono (by omega)))
      have HD7 := Lib.hid (HD6.out.below hb7)
      have HRK7 := Lib.hid (Kd.R_below HRK.out hb7)
      have hblk : Blk w7 wr.heap.size #[.int .i64 f0, .int .i64 f1, .int .i64 f2, .int .i64 f3, .int .i64 f4] 29 := (hb7.block _ HBLK6.out.lt).trans HBLK6.out
      have HBLK7 := Lib.hid hblk
      have hsz7 : wr.heap.size + 1 ≤ w7.heap.size := Nat.le_trans hsz6 hb7.size
      have v0 := hblk.cell 0; have v2 := hblk.cell 2; have v3 := hblk.cell 3
      simp at v0 v2 v3
      have HLK := Lib.hid hlook
      clear hblk hb7 HCN HB6 HD6 HBLK6 z0 z2 z3 hlook HRK
      cases an
      case true =>
        rw [if_pos rfl] at HQ
        go_wp2
        go_ret
        rw [← HQ.out]
        exact ⟨rfl, HB7.out⟩
      rw [if_neg (by simp)] at HQ
      by_cases c0 : f0 = 2
      case neg =>
        rw [if_neg (fun q => c0 q.1)] at HQ
        have c01 : (f0 == 2) = false := by simp [c0]
        clear c0
        go_wp2
        go_roundw
        case rel => exact ⟨i + 1, D, es, ck, by omega, by go_num, Lib.hid ⟨HQ.out, HD7.out, HB7.out, by omega, fun k => Nat.le_trans (HLEN.out k) (Nat.le_succ _)⟩⟩
        case measure => simp [intOf]; omega
      have c01 : (f0 == 2) = true := by simp [c0]
      by_cases c2 : f2 > 0
      case neg =>
        rw [if_neg (fun q => c2 q.2)] at HQ
        have c21 : decide (f2 > 0) = false := by simpa using c2
        clear c0
        go_wp2
        go_roundw
        case rel => exact ⟨i + 1, D, es, ck, by omega, by go_num, Lib.hid ⟨HQ.out, HD7.out, HB7.out, by omega, fun k => Nat.le_trans (HLEN.out k) (Nat.le_succ _)⟩⟩
        case measure => simp [intOf]; omega
      have c21 : decide (f2 > 0) = true := by simpa using c2
      rw [if_pos ⟨c0, c2⟩] at HQ
      clear c0
      have HD8 : Hid (DM (w.heap.size + 1) w7.drew w.heap.size es ck D) := Lib.hid (HD7.out.kept (row := none) ⟨rfl, rfl, rfl, Nat.le_refl _, fun _ _ _ => rfl⟩ (by simp))
      have HBLK8 : Hid (Blk w7.drew wr.heap.size #[.int .i64 f0, .int .i64 f1, .int .i64 f2, .int .i64 f3, .int .i64 f4] 29) := Lib.hid HBLK7.out
      have HB8 : Hid (Below w.heap.size w w7.drew) := Lib.hid ⟨HB7.out.os, HB7.out.tape, HB7.out.output, HB7.out.size, HB7.out.block⟩
      have hsz8 : wr.heap.size + 1 ≤ w7.drew.heap.size := hsz7
      obtain ⟨A9, c9, hlook7, hRk7, hor7⟩ := HD8.out.look2 f3 hmi.2.2.2.1
      have hbl : w.heap.size < w7.drew.heap.size := by omega
      have hlk7 := hlook7 w7.drew rfl
      have hlk8 : ∀ o, (Instr.lookup 53 (.map (some w.heap.size)) (iK f3) false).run Try.prog (w7.alloc o).drew = .ok (.slice A9 (D f3).length c9) (w7.alloc o).drew := fun o => hlook7 _ (heap_alloc_old w7.drew o hbl)
      have HR7 := Lib.hid hRk7; have HOR7 := Lib.hid hor7
      have hmk := hmi.2.2.2.1
      have HMK := Lib.hid hmk
      have t2 : ∀ o, (w7.alloc o).cell? ⟨wr.heap.size, 2, none⟩ = some (.int .i64 f2) := fun o => ((HBLK7.out.alloc o).cell 2).trans rfl
      have t3 : ∀ o, (w7.alloc o).cell? ⟨wr.heap.size, 3, none⟩ = some (.int .i64 f3) := fun o => ((HBLK7.out.alloc o).cell 3).trans rfl
      clear hRk7 hor7 hlook7 HRK7 HOR HLK hmi hmk
      go_upto_region 14 with fail
      go_region_law (first
        | (refine Kd.R_append_step (Kd.int .i64) (W := w7.drew) (w0 := w7.drew) (w.heap.size + 1) rfl (.tmp 52) (.tmp 55) 26 3 (.int .i64 0) 8 rfl Try.underlying26 info3 rfl (by decide) (by omega) (.slice A9 (D f3).length c9) (D f3) f2 [.int .i64 f2] (fun _ => True) (fun _ => False) rfl rfl rfl (fun _ hk => hk.elim) (fun _ _ => trivial) HR7.out (Below.refl _ _) (by omega) (by omega) ?_; intro v9 w9 ho9 hb9 hg9 hat9; obtain ⟨L9, hL9⟩ : ∃ z, z = D f3 ++ [f2] := ⟨_, rfl⟩; rw [← hL9] at ho9; obtain ⟨g9, cap9, rfl⟩ := R_some ho9 (by rw [hL9]; simp); have HL9 := Lib.hid hL9; clear hL9; obtain ⟨w10, es2, ck2, hup, hdm10, hg10, _⟩ := HD8.out.store f3 HMK.out _ HOR7.out hg9 _ _ ho9 ⟨g9, cap9, rfl⟩ hat9; have HD10 := Lib.hid hdm10; have HG10 := Lib.hid hg10; have HG9 := Lib.hid hg9; have hbl9 : Blk w9 wr.heap.size #[.int .i64 f0, .int .i64 f1, .int .i64 f2, .int .i64 f3, .int .i64 f4] 29 := (hg9.block _ HBLK8.out.lt (Kd.R_ne HR7.out HBLK8.out (by decide))).trans HBLK8.out; have u2 := hbl9.cell 2; have u3 := hbl9.cell 3; simp at u2 u3; clear hdm10 hg10 hbl9 ho9 hb9 hg9 hat9))
      all_goals
        go_wp2_with fail
        go_roundw
        case rel => exact ⟨i + 1, _, _, _, by omega, by go_num, Lib.hid ⟨by rw [HL9.out]; exact HQ.out, HD10.out, (HB8.out.grown HG9.out (by omega) (fun j hj => by have := ((Kd.R_bound HR7.out).1 j hj).2.1; omega)).grown HG10.out (by have := HG9.out.size; omega) (fun j hj => by cases hj; omega), by have := HG9.out.size; have := HG10.out.size; omega, fun k => by
          have := HLEN.out k; have := HLEN.out f3
          unfold updI; split
          · rw [HL9.out]; simp; omega
          · omega⟩⟩
        case measure => simp [intOf]; omega
    · have e : i = l.length := by omega
      obtain ⟨hq, _, hbel, _, _⟩ := HR.out
      rw [List.drop_of_length_le (by omega)] at hq
      simp only [strictG] at hq
      have HQ := Lib.hid hq; have HBEL := Lib.hid hbel
      clear hq hbel HR
      go_wp2
      go_ret
      rw [← HQ.out]
      exact ⟨rfl, HBEL.out⟩
end Go.Proofs.Ytadepdeckapgcaa.Hi
namespace Go.Proofs.Ytadepdeckapgcaa.Orc
open Go.RowKit Go.Proofs.YtadepdeckapgcaaW.PrintWords Go.Proofs.YtadepdeckapgcaaW.PrintLast Go.Proofs.YtadepdeckapgcaaW.PrintMore Go.Proofs.Ytadepdeckapgcaa.PHi Go.Proofs.Ytadepdeckapgcaa.Hi
set_option linter.unusedVariables false
def o_Strict.f (l : List Mk) : Option Bool := if okM l = true then some (strictG l (fun _ => [])) else none
theorem o_Strict.calls (A0 : Option Addr) (c0 : Nat) (l : List Mk) (r : Bool) (w : World) (hr0 : Kd.C k29 w A0 l.length l) (hc0 : l.length ≤ c0) (h : o_Strict.f l = some r) :
    Calls Try.prog 14 #[.slice A0 l.length c0] w fun e w' => e = .returned (.bool r) ∧ Below w.heap.size w w' := by
  unfold o_Strict.f at h
  split at h
  · rename_i hb
    injection h with h; subst h
    obtain ⟨h1, h2⟩ := okM_in hb
    exact wStrict w A0 c0 l hr0 h1 h2
  · cases h
end Go.Proofs.Ytadepdeckapgcaa.Orc
end

section
namespace Go.Proofs.Ytadepdeckapgcaa.PHi
open Go.RowKit Go.Proofs.Ytadepdeckapgcaa.Orc Go.Proofs.YtadepdeckapgcaaW.PrintWords Go.Proofs.YtadepdeckapgcaaW.PrintLast Go.Proofs.YtadepdeckapgcaaW.PrintMore
attribute [local go_sem] max2_int min2_int max_two min_two max_three min_three max_four min_four
set_option linter.unusedVariables false
set_option linter.unusedSimpArgs false
def logjamlaw38_few.j0 : Nat → List (S29) → Option ((List (S29)))
 | 0, _ => none
 | k + 1, x0 => (some (([] : List (S29)) : List (S29))).bind fun y108 => (if y108.length + x0.length < 3518437208883 then (some (y108 ++ x0)) else (none))
def logjamlaw38_few.f (k : Nat) (l0 : List (S29)) : Option ((List (S29))) := if (l0.length : Int) > 120 then (if 120 ≤ (l0.length : Int) then (logjamlaw38_few.j0 k (l0.take 120)) else (none)) else (logjamlaw38_few.j0 k l0)
set_option maxHeartbeats 8000000 in
set_option maxRecDepth 100000 in
theorem logjamlaw38_few.calls (k : Nat) (P0_ : Nat → Prop) (A0 : Option Addr) (c0 : Nat) (l0 : List (S29)) (r : List (S29)) (w : World) (hs0 : Kd.V k29 29 w w.heap.size (fun k_ => P0_ k_) (.slice A0 l0.length c0) l0) (h : logjamlaw38_few.f k l0 = some r) :
  Calls Try.prog 6 #[.slice A0 l0.length c0] w fun e w' => ∃ v0_ : Value, e = .returned (v0_) ∧ Kd.R k29 29 w' w.heap.size (fun k_ => (w.heap.size ≤ k_)) v0_ r ∧ Below w.heap.size w w' := by
 have HO0 := Aside0.mk (show Kd.V k29 29 w w.heap.size (fun k_ => (P0_ k_ ∨ w.heap.size ≤ k_)) (.slice A0 l0.length c0) l0 from Kd.V_mono hs0 (fun k_ hk => .inl hk))
 have HB := Aside0.mk (Below.refl w.heap.size w)
 have H : (if (l0.length : Int) > 120 then (if 120 ≤ (l0.length : Int) then (logjamlaw38_few.j0 k (l0.take 120)) else (none)) else (logjamlaw38_few.j0 k l0)) = some r := h
 clear h
 have HC2 := Aside0.mk H
 clear H
 go_enter Try.func6, Try.ntmps6
 go_upto_if 5 with (fail)
 go_cut [0] (fun v0 wc => ∃ (kq : Nat) (x0_1 : List (S29)), Aside0 (logjamlaw38_few.j0 kq x0_1 = some r) ∧ Aside0 (kq ≤ k) ∧ Aside0 (Kd.V k29 29 wc w.heap.size (fun k_ => (P0_ k_ ∨ w.heap.size ≤ k_)) v0 x0_1) ∧ Aside0 (Below w.heap.size w wc))
 case first =>
  have H := HC2.out
  clear HC2
  by_cases c3 : (l0.length : Int) > 120
  ·rw [if_pos c3] at H
   have c3b0 : decide (120 < (l0.length : Int)) = true := decide_eq_true c3
   have c3b1 : decide (120 < l0.length) = true := decide_eq_true (by omega)
   clear c3
   (first | rw [c3b0] | (simp only [i64_w, i32_w]; rw [c3b0]) | skip)
   by_cases c4 : 120 ≤ (l0.length : Int)
   ·rw [if_pos c4] at H
    have c4b0 := eq_true c4
    have c4b1 : decide (120 ≤ (l0.length : Int)) = true := decide_eq_true c4
    clear c4
    obtain ⟨y103, hy103⟩ : ∃ y_ : List (S29), y_ = (l0.take 120) := ⟨_, rfl⟩
    replace H : (logjamlaw38_few.j0 k y103) = some r := by first | (rw [hy103]; with_reducible exact H) | (have H2_ := (Option.bind_some _ _).symm.trans H; rw [hy103]; with_reducible exact H2_) | (have H2_ := (Option.bind_some _ _).symm.trans H; with_reducible exact H2_) | with_reducible exact H | (rw [hy103]; exact H) | exact H
    have Ny103 := Aside0.mk hy103
    clear hy103
    have H' := Aside0.mk H
    clear H
    have q5 : (120 : Int) ≤ ((l0.length : Int) : Int) := of_decide_eq_true (by first | (with_reducible assumption) | assumption)
    obtain ⟨i05, hi05, _, hsz5, _⟩ := info_parts info29
    have hroom5 : l0.length ≤ c0 := (Kd.V_reads' HO0.out).2.1
    have hC5 : Kd.F k29 _ _ A0 l0.length l0 := (Kd.V_at (base := w.heap.size) HO0.out).2.2
    have hcut5 := cut_to (P := Try.prog) 22 29 .i64 Try.underlying22 hi05 A0 l0.length c0 120 (by omega) q5 hroom5
    have hr5 := Kd.F_take (m := 120) hC5 (by omega)
    have hy5 : y103.length = (120 : Int).toNat := (by rw [Ny103.out, List.length_take]; omega)
    rw [← Ny103.out] at hr5
    rw [← hy5] at hcut5
    have HO107 := Aside0.mk (show Kd.V k29 29 _ w.heap.size _ (.slice A0 y103.length c0) y103 from Kd.V_mk (by omega) hr5)
    have HC107 := Aside0.mk (show y103.length ≤ c0 from by omega)
    clear hr5 hC5 hroom5 hi05 hsz5
    have KY5 := Aside0.mk hy5
    clear hy5
    replace q5 := eq_true q5
    go_wp2
    go_meet
    case rel => exact ⟨_, (y103), H', ⟨by first | omega | exact Nat.le_refl _⟩, ⟨by (with_reducible repeat (first | apply Kd.V_alloc | apply Kd.V_drewN | apply Kd.V_drew)); exact HO107.out⟩, ⟨by repeat (first | (with_reducible first | exact HB.out | apply below_alloc | apply pw_below_drewN | apply below_drew1) | exact HB.out)⟩⟩
   ·rw [if_neg c4] at H
    exact absurd H (by simp)
  ·rw [if_neg c3] at H
   have c3b0 : decide (120 < (l0.length : Int)) = false := decide_eq_false c3
   have c3b1 : decide (120 < l0.length) = false := decide_eq_false (by omega)
   clear c3
   (first | rw [c3b0] | (simp only [i64_w, i32_w]; rw [c3b0]) | skip)
   have H' := Aside0.mk H
   clear H
   go_wp2
   go_meet
   case rel => exact ⟨_, (l0), H', ⟨by first | omega | exact Nat.le_refl _⟩, ⟨by (with_reducible repeat (first | apply Kd.V_alloc | apply Kd.V_drewN | apply Kd.V_drew)); exact HO0.out⟩, ⟨by repeat (first | (with_reducible first | exact HB.out | apply below_alloc | apply pw_below_drewN | apply below_drew1) | exact HB.out)⟩⟩
 case rest =>
  clear HC2; try clear p2; try clear c3; try clear c3b0; try clear c3b1; try clear c4; try clear c4b0; try clear c4b1; try clear q5; try clear q5
  obtain ⟨kq, x0_1, HA, HJ1, HO_0, HB⟩ := hcut
  cases kq with
  | zero => exact absurd HA.out (by simp [logjamlaw38_few.j0])
  | succ kj1 =>
   have H := HA.out
   clear HA
   simp only [logjamlaw38_few.j0] at H
   obtain ⟨y108, hy108⟩ : ∃ y_ : List (S29), y_ = (([] : List (S29))) := ⟨_, rfl⟩
   replace H : (if y108.length + x0_1.length < 3518437208883 then (some (y108 ++ x0_1)) else (none)) = some r := by first | (rw [hy108]; with_reducible exact H) | (have H2_ := (Option.bind_some _ _).symm.trans H; rw [hy108]; with_reducible exact H2_) | (have H2_ := (Option.bind_some _ _).symm.trans H; with_reducible exact H2_) | with_reducible exact H | (rw [hy108]; exact H) | exact H
   have Ny108 := Aside0.mk hy108
   clear hy108
   by_cases c6 : y108.length + x0_1.length < 3518437208883
   ·rw [if_pos c6] at H
    have LMc6 := Aside0.mk c6
    clear c6
    obtain ⟨y111, hy111⟩ : ∃ y_ : List (S29), y_ = (y108 ++ x0_1) := ⟨_, rfl⟩
    replace H : (some y111) = some r := by first | (rw [hy111]; with_reducible exact H) | (have H2_ := (Option.bind_some _ _).symm.trans H; rw [hy111]; with_reducible exact H2_) | (have H2_ := (Option.bind_some _ _).symm.trans H; with_reducible exact H2_) | with_reducible exact H | (rw [hy111]; exact H) | exact H
    have Ny111 := Aside0.mk hy111
    clear hy111
    obtain rfl := Option.some.inj H
    go_wp2_with (first | ((with_reducible refine gate_dst (N := 8) rfl ?_); refine Kd.R_lit k29 _ 29 ?hg (N := 8) ?hd (xs := ([] : List (S29))) (inner := []) (ok := fun _ => True) (okp := fun _ => True) ?hr ?hp (fun _ hk => hk) trivial (Below.refl _ _) (Nat.le_refl _) (by simp) ?_; (case hd => rfl); (case hg => rfl); (case hr => first | (go_simp; done) | (go_simp; rfl)); (case hp => exact (Reps.none _ _)); intro v109 w7 ho8 hb hg_ hnew_; clear hg_ hnew_; (first | rw [← Ny108.out] at ho8 | (simp only [Int.reduceToNat] at ho8; rw [← Ny108.out] at ho8)); have n0_ := Aside0.mk (Kd.V_elder' (by (with_reducible repeat (first | apply Kd.V_alloc | apply Kd.V_drewN | apply Kd.V_drew)); exact HO_0.out) (Kd.R_base ho8) hb); have n1_ := Aside0.mk (Kd.R_lower (Kd.R_newM (M := fun k_ => (w.heap.size ≤ k_)) ho8 (below_size (by repeat (first | (with_reducible first | exact HB.out | apply below_alloc | apply pw_below_drewN | apply below_drew1) | exact HB.out))) (fun k_ h_ => h_)) (below_size (by repeat (first | (with_reducible first | exact HB.out | apply below_alloc | apply pw_below_drewN | apply below_drew1) | exact HB.out)))); have n2_ := Aside0.mk (below_step (by repeat (first | (with_reducible first | exact HB.out | apply below_alloc | apply pw_below_drewN | apply below_drew1) | exact HB.out)) hb); clear HO_0; clear HB; have HO_0 := n0_; have HO110 := n1_; have HB := n2_; clear n0_ n1_ n2_; clear hb ho8; obtain ⟨Ao10, co10, eo10⟩ := Kd.V_slice HO_0.out; subst eo10) | ((with_reducible refine gate_builtin (b := .append) (xs := #[.tmp 8, .tmp 9]) rfl ?_); at_builtin; refine Kd.R_append_rows k29 (w0 := w) w.heap.size rfl (.tmp 8) (.tmp 9) 22 29 (.agg #[(.int .i64 0), (.int .i64 0), (.int .i64 0), (.int .i64 0), (.int .i64 0)]) 40 rfl Try.underlying22 info29 rfl (by decide) (by omega) v109 y108 x0_1 _ _ _ (fun k_ => (w.heap.size ≤ k_)) (fun _ => False) rfl rfl ?aO ?aR (fun _ _ h => h) (fun _ h => h.elim) ?aF ?aB ?aS ?aL ?_; (case aR => repeat (first | exact (Kd.V_reads' HO_0.out).2.2 | (with_reducible refine Kd.C_alloc ?_ _) | (with_reducible refine Kd.C_drewN ?_ _) | (with_reducible refine Kd.C_drew ?_))); (case aB => exact (by repeat (first | (with_reducible first | exact HB.out | apply below_alloc | apply pw_below_drewN | apply below_drew1) | exact HB.out))); (case aF => exact (fun k_ hk => (Nat.le_trans (below_size (by repeat (first | (with_reducible first | exact HB.out | apply below_alloc | apply pw_below_drewN | apply below_drew1) | exact HB.out))) hk))); (case aO => exact (by (with_reducible repeat (first | apply Kd.R_alloc | apply Kd.R_drewN | apply Kd.R_drew)); exact Kd.R_mono HO110.out (fun _ hk => hk.1))); (case aS => exact (below_size (by repeat (first | (with_reducible first | exact HB.out | apply below_alloc | apply pw_below_drewN | apply below_drew1) | exact HB.out)))); (case aL => have := LMc6.out; omega); intro v112 w9 ho hb hg hat; rw [← Ny111.out] at ho; have n0_ := Aside0.mk (Kd.V_afterv (ok := (fun k_ => (P0_ k_ ∨ w.heap.size ≤ k_))) (by (with_reducible repeat (first | apply Kd.V_alloc | apply Kd.V_drewN | apply Kd.V_drew)); exact HO_0.out) hg hat); have n1_ := Aside0.mk (hb); have n2_ := Aside0.mk (ho); clear HO_0; clear HB; clear HO110; have HO_0 := n0_; have HB := n1_; have HO113 := n2_; clear n0_ n1_ n2_; clear ho hb hg hat))
    go_ret
    exact ⟨_, by first | rfl | (simp [errW_none, errW_some] <;> rfl) | (simp [*, errW_none, errW_some] <;> rfl), by (with_reducible repeat (first | apply Kd.R_alloc | apply Kd.R_drewN | apply Kd.R_drew)); exact HO113.out, by repeat (first | (with_reducible first | exact HB.out | apply below_alloc | apply pw_below_drewN | apply below_drew1) | exact HB.out)⟩
   ·rw [if_neg c6] at H
    exact absurd H (by simp)
end Go.Proofs.Ytadepdeckapgcaa.PHi
end

section
namespace Go.Proofs.Ytadepdeckapgcaa.PHi
open Go.RowKit Go.Proofs.Ytadepdeckapgcaa.Orc Go.Proofs.YtadepdeckapgcaaW.PrintWords Go.Proofs.YtadepdeckapgcaaW.PrintLast Go.Proofs.YtadepdeckapgcaaW.PrintMore
attribute [local go_sem] max2_int min2_int max_two min_two max_three min_three max_four min_four
set_option linter.unusedVariables false
set_option linter.unusedSimpArgs false
def logjamlaw30_Ints.l0 : Nat → List Int → List Int → Int → Option (Bool)
 | 0, _, _, _ => none
 | k + 1, x0, x1, x5 => if x5 < (x0.length : Int) then (if 0 ≤ x5 then (if x5 < (x1.length : Int) then (if (rd x0 x5) = (rd x1 x5) then (logjamlaw30_Ints.l0 k x0 x1 (wrap64 (x5 + 1))) else (some false)) else (none)) else (none)) else (some true)
def logjamlaw30_Ints.f (k : Nat) (l0 : List Int) (l1 : List Int) : Option (Bool) := if (l0.length : Int) = (l1.length : Int) then (logjamlaw30_Ints.l0 k l0 l1 0) else (some false)
set_option maxHeartbeats 8000000 in
set_option maxRecDepth 100000 in
theorem logjamlaw30_Ints.calls (k : Nat) (A0 : Option Addr) (c0 : Nat) (l0 : List Int) (A1 : Option Addr) (c1 : Nat) (l1 : List Int) (r : Bool) (w : World) (hr0 : Kd.C (Kd.int .i64) w A0 l0.length l0) (hc0 : l0.length ≤ c0) (hr1 : Kd.C (Kd.int .i64) w A1 l1.length l1) (hc1 : l1.length ≤ c1) (h : logjamlaw30_Ints.f k l0 l1 = some r) :
  Calls Try.prog 11 #[.slice A0 l0.length c0, .slice A1 l1.length c1] w fun e w' => e = .returned (.bool r) ∧ Drawn0 w w' := by
 have HR0 := Aside0.mk hr0
 have HC0 := Aside0.mk hc0
 clear hr0 hc0
 have HR1 := Aside0.mk hr1
 have HC1 := Aside0.mk hc1
 clear hr1 hc1
 have H : (if (l0.length : Int) = (l1.length : Int) then (logjamlaw30_Ints.l0 k l0 l1 0) else (some false)) = some r := h
 clear h
 by_cases c3 : (l0.length : Int) = (l1.length : Int)
 ·rw [if_pos c3] at H
  have c3b0 : ((l0.length : Int) == (l1.length : Int)) = true := beq_iff_eq.mpr c3
  have c3b1 : ((l0.length : Int) != (l1.length : Int)) = false := bne_eq_false_iff_eq.mpr c3
  have c3b2 : (l0.length == l1.length) = true := by first | simpa using c3 | (simp at c3 ⊢; omega)
  clear c3
  have H' := Aside0.mk H
  clear H
  go_enter Try.func11, Try.ntmps11
  go_wp2
  repeat (go_quiet (fail); try go_wp2)
  go_loopg [5] k (fun kq v5 w' => ∃ (x5_1 : Int), v5 = .int .i64 x5_1 ∧ Aside0 (logjamlaw30_Ints.l0 kq l0 l1 x5_1 = some r) ∧ Aside0 (kq ≤ k) ∧ Drawn0 w w')
  case atStart => exact ⟨(0), (by first | rfl | (simp; done) | (simp only [emptyNe_, emptyEq_]; done) | (simp [*]; done)), H', ⟨Nat.le_refl _⟩, by repeat (first | exact Drawn0.refl _ | apply Drawn0.step)⟩
  case round =>
   clear H'; try clear c1; try clear p2; try clear c3; try clear c3b0; try clear c3b1; try clear c3b2
   obtain ⟨x5_1, rfl, HA, HK1, ⟨m1, rfl⟩⟩ := hrel
   cases gk with
   | zero => exact absurd HA.out (by simp [logjamlaw30_Ints.l0])
   | succ k1 =>
    have H := HA.out
    clear HA
    simp only [logjamlaw30_Ints.l0] at H
    by_cases c4 : x5_1 < (l0.length : Int)
    ·rw [if_pos c4] at H
     have c4b0 : decide (x5_1 < (l0.length : Int)) = true := decide_eq_true c4
     clear c4
     by_cases c5 : 0 ≤ x5_1
     ·rw [if_pos c5] at H
      have c5b0 : decide (0 ≤ x5_1) = true := decide_eq_true c5
      clear c5
      by_cases c6 : x5_1 < (l1.length : Int)
      ·rw [if_pos c6] at H
       have c6b0 : decide (x5_1 < (l1.length : Int)) = true := decide_eq_true c6
       clear c6
       by_cases c7 : (rd l0 x5_1) = (rd l1 x5_1)
       ·rw [if_pos c7] at H
        have c7b0 : ((rd l0 x5_1) == (rd l1 x5_1)) = true := beq_iff_eq.mpr c7
        have c7b1 : ((rd l0 x5_1) != (rd l1 x5_1)) = false := bne_eq_false_iff_eq.mpr c7
        clear c7
        have H' := Aside0.mk H
        clear H
        have p170 : 0 ≤ (x5_1 : Int) := of_decide_eq_true (by first | (with_reducible assumption) | assumption)
        have q170 : x5_1 < (l0.length : Int) := of_decide_eq_true (by first | (with_reducible assumption) | assumption)
        obtain ⟨ad170, e170, hx170_0⟩ := Kd.at_int HR0.out x5_1 p170 q170
        cases e170
        replace p170 := eq_true p170
        replace q170 := eq_true q170
        have p171 : 0 ≤ (x5_1 : Int) := of_decide_eq_true (by first | (with_reducible assumption) | assumption)
        have q171 : x5_1 < (l1.length : Int) := of_decide_eq_true (by first | (with_reducible assumption) | assumption)
        obtain ⟨ad171, e171, hx171_0⟩ := Kd.at_int HR1.out x5_1 p171 q171
        cases e171
        replace p171 := eq_true p171
        replace q171 := eq_true q171
        go_wp2
        repeat (go_quiet (fail); try go_wp2)
        go_roundg k1
        case measure => have := HK1.out; omega
        case rel => exact ⟨(wrap64 (x5_1 + 1)), (by first | rfl | (simp; done) | (simp only [emptyNe_, emptyEq_]; done) | (simp [*]; done)), H', ⟨by have := HK1.out; omega⟩, by repeat (first | exact Drawn0.refl _ | apply Drawn0.step)⟩
       ·rw [if_neg c7] at H
        have c7b0 : ((rd l0 x5_1) == (rd l1 x5_1)) = false := beq_eq_false_iff_ne.mpr c7
        have c7b1 : ((rd l0 x5_1) != (rd l1 x5_1)) = true := bne_iff_ne.mpr c7
        obtain rfl := Option.some.inj H
        have p170 : 0 ≤ (x5_1 : Int) := of_decide_eq_true (by first | (with_reducible assumption) | assumption)
        have q170 : x5_1 < (l0.length : Int) := of_decide_eq_true (by first | (with_reducible assumption) | assumption)
        obtain ⟨ad170, e170, hx170_0⟩ := Kd.at_int HR0.out x5_1 p170 q170
        cases e170
        replace p170 := eq_true p170
        replace q170 := eq_true q170
        have p171 : 0 ≤ (x5_1 : Int) := of_decide_eq_true (by first | (with_reducible assumption) | assumption)
        have q171 : x5_1 < (l1.length : Int) := of_decide_eq_true (by first | (with_reducible assumption) | assumption)
        obtain ⟨ad171, e171, hx171_0⟩ := Kd.at_int HR1.out x5_1 p171 q171
        cases e171
        replace p171 := eq_true p171
        replace q171 := eq_true q171
        go_wp2
        repeat (go_quiet (fail); try go_wp2)
        go_ret
        exact ⟨by first | rfl | (simp; done) | (simp only [emptyNe_, emptyEq_]; done) | (simp [*]; done), by repeat (first | exact Drawn0.refl _ | apply Drawn0.step)⟩
      ·rw [if_neg c6] at H
       exact absurd H (by simp)
     ·rw [if_neg c5] at H
      exact absurd H (by simp)
    ·rw [if_neg c4] at H
     have c4b0 : decide (x5_1 < (l0.length : Int)) = false := decide_eq_false c4
     clear c4
     obtain rfl := Option.some.inj H
     go_wp2
     repeat (go_quiet (fail); try go_wp2)
     go_ret
     exact ⟨by first | rfl | (simp; done) | (simp only [emptyNe_, emptyEq_]; done) | (simp [*]; done), by repeat (first | exact Drawn0.refl _ | apply Drawn0.step)⟩
 ·rw [if_neg c3] at H
  have c3b0 : ((l0.length : Int) == (l1.length : Int)) = false := beq_eq_false_iff_ne.mpr c3
  have c3b1 : ((l0.length : Int) != (l1.length : Int)) = true := bne_iff_ne.mpr c3
  have c3b2 : (l0.length == l1.length) = false := by first | simpa using c3 | (simp at c3 ⊢; omega)
  obtain rfl := Option.some.inj H
  go_enter Try.func11, Try.ntmps11
  go_wp2
  repeat (go_quiet (fail); try go_wp2)
  go_ret
  exact ⟨by first | rfl | (simp; done) | (simp only [emptyNe_, emptyEq_]; done) | (simp [*]; done), by repeat (first | exact Drawn0.refl _ | apply Drawn0.step)⟩
def slices_Index_int_int.l0 : Nat → List Int → Int → Int → Int → Option (Int)
 | 0, _, _, _, _ => none
 | k + 1, x0, x1, x7, x8 => if x8 < x7 then (if 0 ≤ x8 then (if x8 < (x0.length : Int) then (if x1 = (rd x0 x8) then (some x8) else (slices_Index_int_int.l0 k x0 x1 x7 (wrap64 (x8 + 1)))) else (none)) else (none)) else (some (-1))
def slices_Index_int_int.f (k : Nat) (l0 : List Int) (a1 : Int) : Option (Int) := slices_Index_int_int.l0 k l0 a1 (l0.length : Int) 0
set_option maxHeartbeats 8000000 in
set_option maxRecDepth 100000 in
theorem slices_Index_int_int.calls (k : Nat) (A0 : Option Addr) (c0 : Nat) (l0 : List Int) (a1 : Int) (r : Int) (w : World) (hr0 : Kd.C (Kd.int .i64) w A0 l0.length l0) (hc0 : l0.length ≤ c0) (h : slices_Index_int_int.f k l0 a1 = some r) :
  Calls Try.prog 50 #[.slice A0 l0.length c0, .int .i64 a1] w fun e w' => e = .returned (.int .i64 r) ∧ Drawn0 w w' := by
 have HR0 := Aside0.mk hr0
 have HC0 := Aside0.mk hc0
 clear hr0 hc0
 have H : (slices_Index_int_int.l0 k l0 a1 (l0.length : Int) 0) = some r := h
 clear h
 have H' := Aside0.mk H
 clear H
 go_enter Try.func50, Try.ntmps50
 go_wp2
 go_loopg [8] k (fun kq v8 w' => ∃ (x8_1 : Int), v8 = .int .i64 x8_1 ∧ Aside0 (slices_Index_int_int.l0 kq l0 a1 (l0.length : Int) x8_1 = some r) ∧ Aside0 (kq ≤ k) ∧ Drawn0 w w')
 case atStart => exact ⟨(0), (by first | rfl | (simp; done) | (simp only [emptyNe_, emptyEq_]; done) | (simp [*]; done)), H', ⟨Nat.le_refl _⟩, by repeat (first | exact Drawn0.refl _ | apply Drawn0.step)⟩
 case round =>
  clear H'; try clear p2
  obtain ⟨x8_1, rfl, HA, HK1, ⟨m1, rfl⟩⟩ := hrel
  cases gk with
  | zero => exact absurd HA.out (by simp [slices_Index_int_int.l0])
  | succ k1 =>
   have H := HA.out
   clear HA
   simp only [slices_Index_int_int.l0] at H
   by_cases c3 : x8_1 < (l0.length : Int)
   ·rw [if_pos c3] at H
    have c3b0 : decide (x8_1 < (l0.length : Int)) = true := decide_eq_true c3
    clear c3
    by_cases c4 : 0 ≤ x8_1
    ·rw [if_pos c4] at H
     have c4b0 : decide (0 ≤ x8_1) = true := decide_eq_true c4
     clear c4
     by_cases c5 : x8_1 < (l0.length : Int)
     ·rw [if_pos c5] at H
      have c5b0 : decide (x8_1 < (l0.length : Int)) = true := decide_eq_true c5
      clear c5
      by_cases c6 : a1 = (rd l0 x8_1)
      ·rw [if_pos c6] at H
       have c6b0 : (a1 == (rd l0 x8_1)) = true := beq_iff_eq.mpr c6
       have c6b1 : (a1 != (rd l0 x8_1)) = false := bne_eq_false_iff_eq.mpr c6
       clear c6
       obtain rfl := Option.some.inj H
       have p172 : 0 ≤ (x8_1 : Int) := of_decide_eq_true (by first | (with_reducible assumption) | assumption)
       have q172 : x8_1 < (l0.length : Int) := of_decide_eq_true (by first | (with_reducible assumption) | assumption)
       obtain ⟨ad172, e172, hx172_0⟩ := Kd.at_int HR0.out x8_1 p172 q172
       cases e172
       replace p172 := eq_true p172
       replace q172 := eq_true q172
       go_wp2
       go_ret
       exact ⟨by first | rfl | (simp; done) | (simp only [emptyNe_, emptyEq_]; done) | (simp [*]; done), by repeat (first | exact Drawn0.refl _ | apply Drawn0.step)⟩
      ·rw [if_neg c6] at H
       have c6b0 : (a1 == (rd l0 x8_1)) = false := beq_eq_false_iff_ne.mpr c6
       have c6b1 : (a1 != (rd l0 x8_1)) = true := bne_iff_ne.mpr c6
       have H' := Aside0.mk H
       clear H
       have p172 : 0 ≤ (x8_1 : Int) := of_decide_eq_true (by first | (with_reducible assumption) | assumption)
       have q172 : x8_1 < (l0.length : Int) := of_decide_eq_true (by first | (with_reducible assumption) | assumption)
       obtain ⟨ad172, e172, hx172_0⟩ := Kd.at_int HR0.out x8_1 p172 q172
       cases e172
       replace p172 := eq_true p172
       replace q172 := eq_true q172
       go_wp2
       go_roundg k1
       case measure => have := HK1.out; omega
       case rel => exact ⟨(wrap64 (x8_1 + 1)), (by first | rfl | (simp; done) | (simp only [emptyNe_, emptyEq_]; done) | (simp [*]; done)), H', ⟨by have := HK1.out; omega⟩, by repeat (first | exact Drawn0.refl _ | apply Drawn0.step)⟩
     ·rw [if_neg c5] at H
      exact absurd H (by simp)
    ·rw [if_neg c4] at H
     exact absurd H (by simp)
   ·rw [if_neg c3] at H
    have c3b0 : decide (x8_1 < (l0.length : Int)) = false := decide_eq_false c3
    clear c3
    obtain rfl := Option.some.inj H
    go_wp2
    go_ret
    exact ⟨by first | rfl | (simp; done) | (simp only [emptyNe_, emptyEq_]; done) | (simp [*]; done), by repeat (first | exact Drawn0.refl _ | apply Drawn0.step)⟩
def slices_Contains_int_int.f (k : Nat) (l0 : List Int) (a1 : Int) : Option (Bool) := (slices_Index_int_int.f k l0 a1).bind fun t173 => (some (decide (t173 ≥ 0)))
set_option maxHeartbeats 8000000 in
set_option maxRecDepth 100000 in
theorem slices_Contains_int_int.calls (k : Nat) (A0 : Option Addr) (c0 : Nat) (l0 : List Int) (a1 : Int) (r : Bool) (w : World) (hr0 : Kd.C (Kd.int .i64) w A0 l0.length l0) (hc0 : l0.length ≤ c0) (h : slices_Contains_int_int.f k l0 a1 = some r) :
  Calls Try.prog 29 #[.slice A0 l0.length c0, .int .i64 a1] w fun e w' => e = .returned (.bool r) ∧ Drawn0 w w' := by
 have HR0 := Aside0.mk hr0
 have HC0 := Aside0.mk hc0
 clear hr0 hc0
 have H : ((slices_Index_int_int.f k l0 a1).bind fun t173 => (some (decide (t173 ≥ 0)))) = some r := h
 clear h
 replace H := Option.bind_eq_some_iff.mp H
 obtain ⟨t173, A30, H⟩ := H
 replace H : (some (decide (t173 ≥ 0))) = some r := H
 have A3 := Aside0.mk A30
 clear A30
 obtain rfl := Option.some.inj H
 go_enter Try.func29, Try.ntmps29
 go_wp2_with (first | ((with_reducible refine gate_callee (f := 50) rfl ?_); refine goesL_ (some 7) rfl rfl Try.func50 (by kernel_rfl) rfl #[.slice A0 l0.length c0, .int .i64 a1] rfl (by (try simp only [List.map_toArray, List.map_cons, List.map_nil]); first | done | rfl | (simp only [List.length_drop, List.length_take]; rfl)) ?_; (with_reducible refine (slices_Index_int_int.calls k _ _ l0 a1 t173 _ ?side1 ?side2 A3.out).mono ?_); (case side1 => repeat (first | exact HR0.out | (with_reducible refine Kd.C_alloc ?_ _) | (with_reducible refine Kd.C_drewN ?_ _) | (with_reducible refine Kd.C_drew ?_))); (case side2 => exact HC0.out); rintro e w' ⟨rfl, ⟨nd, rfl⟩⟩; refine ⟨_, rfl, ?_⟩))
 go_ret
 exact ⟨by first | rfl | (simp; done) | (simp only [emptyNe_, emptyEq_]; done) | (simp [*]; done), by repeat (first | exact Drawn0.refl _ | apply Drawn0.step)⟩
def history_Before.j0 : Nat → Bool → Option (Bool)
 | 0, _ => none
 | k + 1, x6 => some x6
def history_Before.f (k : Nat) (l0 : List (S29)) (a1 : Int) (a2 : Int) : Option (Bool) := (o_committed.f l0).bind fun t174 => (if a1 = a2 then (history_Before.j0 k false) else ((slices_Contains_int_int.f k t174 a1).bind fun t177 => (if t177 = true then ((slices_Contains_int_int.f k t174 a2).bind fun t178 => (if t178 = true then ((o_conflict.f l0 a1 a2).bind fun t179 => (history_Before.j0 k t179)) else (history_Before.j0 k false))) else (history_Before.j0 k false))))
set_option maxHeartbeats 8000000 in
set_option maxRecDepth 100000 in
theorem history_Before.calls (k : Nat) (A0 : Option Addr) (c0 : Nat) (l0 : List (S29)) (a1 : Int) (a2 : Int) (r : Bool) (w : World) (hr0 : Kd.C k29 w A0 l0.length l0) (hc0 : l0.length ≤ c0) (h : history_Before.f k l0 a1 a2 = some r) :
  Calls Try.prog 12 #[.slice A0 l0.length c0, .int .i64 a1, .int .i64 a2] w fun e w' => e = .returned (.bool r) ∧ Below w.heap.size w w' := by
 have HR0 := Aside0.mk hr0
 have HC0 := Aside0.mk hc0
 clear hr0 hc0
 have HB := Aside0.mk (Below.refl w.heap.size w)
 have H : ((o_committed.f l0).bind fun t174 => (if a1 = a2 then (history_Before.j0 k false) else ((slices_Contains_int_int.f k t174 a1).bind fun t177 => (if t177 = true then ((slices_Contains_int_int.f k t174 a2).bind fun t178 => (if t178 = true then ((o_conflict.f l0 a1 a2).bind fun t179 => (history_Before.j0 k t179)) else (history_Before.j0 k false))) else (history_Before.j0 k false))))) = some r := h
 clear h
 replace H := Option.bind_eq_some_iff.mp H
 obtain ⟨t174, A40, H⟩ := H
 replace H : (if a1 = a2 then (history_Before.j0 k false) else ((slices_Contains_int_int.f k t174 a1).bind fun t177 => (if t177 = true then ((slices_Contains_int_int.f k t174 a2).bind fun t178 => (if t178 = true then ((o_conflict.f l0 a1 a2).bind fun t179 => (history_Before.j0 k t179)) else (history_Before.j0 k false))) else (history_Before.j0 k false)))) = some r := H
 have A4 := Aside0.mk A40
 clear A40
 have HC5 := Aside0.mk H
 clear H
 go_enter Try.func12, Try.ntmps12
 go_upto_region 2 with (first | ((with_reducible refine gate_callee (f := 21) rfl ?_); refine goesL_ (some 9) rfl rfl Try.func21 (by kernel_rfl) rfl #[.slice A0 l0.length c0] rfl (by (try simp only [List.map_toArray, List.map_cons, List.map_nil]); first | done | rfl | (simp only [List.length_drop, List.length_take]; rfl)) ?_; (with_reducible refine (o_committed.calls _ _ l0 t174 _ ?side1 ?side2 A4.out).mono ?_); (case side1 => repeat (first | exact HR0.out | (with_reducible refine Kd.C_alloc ?_ _) | (with_reducible refine Kd.C_drewN ?_ _) | (with_reducible refine Kd.C_drew ?_))); (case side2 => exact HC0.out); rintro e w6 ⟨v175, rfl, ho0, hb⟩; refine ⟨_, rfl, ?_⟩; have n0_ := Aside0.mk (Kd.R_lower ho0 (below_size (by repeat (first | (with_reducible first | exact HB.out | apply below_alloc | apply pw_below_drewN | apply below_drew1) | exact HB.out)))); have n1_ := Aside0.mk (below_step (by repeat (first | (with_reducible first | exact HB.out | apply below_alloc | apply pw_below_drewN | apply below_drew1) | exact HB.out)) hb); clear HB; have HO176 := n0_; have HB := n1_; clear n0_ n1_; (try clear hb); (try clear hb2); (try clear hk); (try clear hi); (try clear ho0)))
 (try simp only [Act.put, List.setIfInBounds_toArray, List.set_cons_zero, List.set_cons_succ])
 go_cut [6] (fun v6 wc => ∃ (kq : Nat) (x6_4 : Bool), v6 = .bool x6_4 ∧ Aside0 (history_Before.j0 kq x6_4 = some r) ∧ Aside0 (kq ≤ k) ∧ Aside0 (Below w.heap.size w wc))
 case first =>
  have H := HC5.out
  clear HC5
  by_cases c7 : a1 = a2
  ·rw [if_pos c7] at H
   have c7b0 : (a1 == a2) = true := beq_iff_eq.mpr c7
   have c7b1 : (a1 != a2) = false := bne_eq_false_iff_eq.mpr c7
   clear c7
   (first | rw [c7b0] | (simp only [i64_w, i32_w]; rw [c7b0]) | skip)
   have H' := Aside0.mk H
   clear H
   go_wp2
   go_meet
   case rel => exact ⟨_, (false), (by first | rfl | (simp; done) | (simp only [emptyNe_, emptyEq_]; done) | (simp [*]; done)), H', ⟨by first | omega | exact Nat.le_refl _⟩, ⟨by repeat (first | (with_reducible first | exact HB.out | apply below_alloc | apply pw_below_drewN | apply below_drew1) | exact HB.out)⟩⟩
  ·rw [if_neg c7] at H
   have c7b0 : (a1 == a2) = false := beq_eq_false_iff_ne.mpr c7
   have c7b1 : (a1 != a2) = true := bne_iff_ne.mpr c7
   (first | rw [c7b0] | (simp only [i64_w, i32_w]; rw [c7b0]) | skip)
   replace H := Option.bind_eq_some_iff.mp H
   obtain ⟨t177, A80, H⟩ := H
   replace H : (if t177 = true then ((slices_Contains_int_int.f k t174 a2).bind fun t178 => (if t178 = true then ((o_conflict.f l0 a1 a2).bind fun t179 => (history_Before.j0 k t179)) else (history_Before.j0 k false))) else (history_Before.j0 k false)) = some r := H
   have A8 := Aside0.mk A80
   clear A80
   by_cases c9 : t177 = true
   ·subst c9
    have H1 : ((slices_Contains_int_int.f k t174 a2).bind fun t178 => (if t178 = true then ((o_conflict.f l0 a1 a2).bind fun t179 => (history_Before.j0 k t179)) else (history_Before.j0 k false))) = some r := by rw [if_pos rfl] at H; exact H
    clear H
    have H := H1
    clear H1
    replace H := Option.bind_eq_some_iff.mp H
    obtain ⟨t178, A100, H⟩ := H
    replace H : (if t178 = true then ((o_conflict.f l0 a1 a2).bind fun t179 => (history_Before.j0 k t179)) else (history_Before.j0 k false)) = some r := H
    have A10 := Aside0.mk A100
    clear A100
    by_cases c11 : t178 = true
    ·subst c11
     have H1 : ((o_conflict.f l0 a1 a2).bind fun t179 => (history_Before.j0 k t179)) = some r := by rw [if_pos rfl] at H; exact H
     clear H
     have H := H1
     clear H1
     replace H := Option.bind_eq_some_iff.mp H
     obtain ⟨t179, A120, H⟩ := H
     replace H : (history_Before.j0 k t179) = some r := H
     have A12 := Aside0.mk A120
     clear A120
     have H' := Aside0.mk H
     clear H
     obtain ⟨Ao13, co13, eo13⟩ := Kd.R_slice HO176.out
     subst eo13
     go_wp2_with (first | (go_at_call 29; (with_reducible refine (slices_Contains_int_int.calls k _ _ t174 a1 true _ ?side1 ?side2 A8.out).mono ?_); (case side1 => repeat (first | exact (Kd.R_reads' HO176.out).2.2 | (with_reducible refine Kd.C_alloc ?_ _) | (with_reducible refine Kd.C_drewN ?_ _) | (with_reducible refine Kd.C_drew ?_))); (case side2 => exact (Kd.R_reads' HO176.out).2.1); rintro e w' ⟨rfl, ⟨nd, rfl⟩⟩) | (go_at_call 29; (with_reducible refine (slices_Contains_int_int.calls k _ _ t174 a2 true _ ?side1 ?side2 A10.out).mono ?_); (case side1 => repeat (first | exact (Kd.R_reads' HO176.out).2.2 | (with_reducible refine Kd.C_alloc ?_ _) | (with_reducible refine Kd.C_drewN ?_ _) | (with_reducible refine Kd.C_drew ?_))); (case side2 => exact (Kd.R_reads' HO176.out).2.1); rintro e w' ⟨rfl, ⟨nd, rfl⟩⟩) | (go_at_call 26; (with_reducible refine (o_conflict.calls _ _ l0 a1 a2 t179 _ ?side1 ?side2 A12.out).mono ?_); (case side1 => repeat (first | exact (Kd.C_below HR0.out (by repeat (first | (with_reducible first | exact HB.out | apply below_alloc | apply pw_below_drewN | apply below_drew1) | exact HB.out))) | (with_reducible refine Kd.C_alloc ?_ _) | (with_reducible refine Kd.C_drewN ?_ _) | (with_reducible refine Kd.C_drew ?_))); (case side2 => exact HC0.out); rintro e w14 ⟨rfl, hb⟩; have n0_ := Aside0.mk (Kd.R_below (by (with_reducible repeat (first | apply Kd.R_alloc | apply Kd.R_drewN | apply Kd.R_drew)); exact HO176.out) hb); have n1_ := Aside0.mk (below_step (by repeat (first | (with_reducible first | exact HB.out | apply below_alloc | apply pw_below_drewN | apply below_drew1) | exact HB.out)) hb); clear HO176; clear HB; have HO176 := n0_; have HB := n1_; clear n0_ n1_; (try clear hb); (try clear hb2); (try clear hk); (try clear hi)))
     go_meet
     case rel => exact ⟨_, (t179), (by first | rfl | (simp; done) | (simp only [emptyNe_, emptyEq_]; done) | (simp [*]; done)), H', ⟨by first | omega | exact Nat.le_refl _⟩, ⟨by repeat (first | (with_reducible first | exact HB.out | apply below_alloc | apply pw_below_drewN | apply below_drew1) | exact HB.out)⟩⟩
    ·replace c11 := Bool.eq_false_iff.mpr c11
     subst c11
     have H1 : (history_Before.j0 k false) = some r := by rw [if_neg (show ¬ (false = true) by decide)] at H; exact H
     clear H
     have H := H1
     clear H1
     have H' := Aside0.mk H
     clear H
     obtain ⟨Ao15, co15, eo15⟩ := Kd.R_slice HO176.out
     subst eo15
     go_wp2_with (first | (go_at_call 29; (with_reducible refine (slices_Contains_int_int.calls k _ _ t174 a1 true _ ?side1 ?side2 A8.out).mono ?_); (case side1 => repeat (first | exact (Kd.R_reads' HO176.out).2.2 | (with_reducible refine Kd.C_alloc ?_ _) | (with_reducible refine Kd.C_drewN ?_ _) | (with_reducible refine Kd.C_drew ?_))); (case side2 => exact (Kd.R_reads' HO176.out).2.1); rintro e w' ⟨rfl, ⟨nd, rfl⟩⟩) | (go_at_call 29; (with_reducible refine (slices_Contains_int_int.calls k _ _ t174 a2 false _ ?side1 ?side2 A10.out).mono ?_); (case side1 => repeat (first | exact (Kd.R_reads' HO176.out).2.2 | (with_reducible refine Kd.C_alloc ?_ _) | (with_reducible refine Kd.C_drewN ?_ _) | (with_reducible refine Kd.C_drew ?_))); (case side2 => exact (Kd.R_reads' HO176.out).2.1); rintro e w' ⟨rfl, ⟨nd, rfl⟩⟩))
     go_meet
     case rel => exact ⟨_, (false), (by first | rfl | (simp; done) | (simp only [emptyNe_, emptyEq_]; done) | (simp [*]; done)), H', ⟨by first | omega | exact Nat.le_refl _⟩, ⟨by repeat (first | (with_reducible first | exact HB.out | apply below_alloc | apply pw_below_drewN | apply below_drew1) | exact HB.out)⟩⟩
   ·replace c9 := Bool.eq_false_iff.mpr c9
    subst c9
    have H1 : (history_Before.j0 k false) = some r := by rw [if_neg (show ¬ (false = true) by decide)] at H; exact H
    clear H
    have H := H1
    clear H1
    have H' := Aside0.mk H
    clear H
    obtain ⟨Ao16, co16, eo16⟩ := Kd.R_slice HO176.out
    subst eo16
    go_wp2_with (first | (go_at_call 29; (with_reducible refine (slices_Contains_int_int.calls k _ _ t174 a1 false _ ?side1 ?side2 A8.out).mono ?_); (case side1 => repeat (first | exact (Kd.R_reads' HO176.out).2.2 | (with_reducible refine Kd.C_alloc ?_ _) | (with_reducible refine Kd.C_drewN ?_ _) | (with_reducible refine Kd.C_drew ?_))); (case side2 => exact (Kd.R_reads' HO176.out).2.1); rintro e w' ⟨rfl, ⟨nd, rfl⟩⟩))
    go_meet
    case rel => exact ⟨_, (false), (by first | rfl | (simp; done) | (simp only [emptyNe_, emptyEq_]; done) | (simp [*]; done)), H', ⟨by first | omega | exact Nat.le_refl _⟩, ⟨by repeat (first | (with_reducible first | exact HB.out | apply below_alloc | apply pw_below_drewN | apply below_drew1) | exact HB.out)⟩⟩
 case rest =>
  clear HC5; try clear c1; try clear c2; try clear p2; try clear c7; try clear c7b0; try clear c7b1; try clear c9; try clear c11; try clear c12
  obtain ⟨kq, x6_4, rfl, HA, HJ4, HB⟩ := hcut
  cases kq with
  | zero => exact absurd HA.out (by simp [history_Before.j0])
  | succ kj4 =>
   have H := HA.out
   clear HA
   simp only [history_Before.j0] at H
   obtain rfl := Option.some.inj H
   go_wp2
   go_ret
   exact ⟨by first | rfl | (simp [errW_none, errW_some] <;> rfl) | (simp [*, errW_none, errW_some] <;> rfl), by repeat (first | (with_reducible first | exact HB.out | apply below_alloc | apply pw_below_drewN | apply below_drew1) | exact HB.out)⟩
end Go.Proofs.Ytadepdeckapgcaa.PHi
end

section
namespace Go.Proofs.Ytadepdeckapgcaa.Hi
open Go.RowKit Go.Proofs.YtadepdeckapgcaaW.PrintWords Go.Proofs.YtadepdeckapgcaaW.PrintLast Go.Proofs.YtadepdeckapgcaaW.PrintMore Go.Proofs.Ytadepdeckapgcaa.PHi Go.Proofs.Ytadepdeckapgcaa.Orc
set_option linter.unusedVariables false
set_option linter.unusedSimpArgs false
theorem Ev.step1 {α : Type} {g : Nat → Option α} {r : α} (h : ∀ k, g (k + 1) = some r) : Ev g r := Ev.step h (Ev.now r)
def MX : Nat := 9223372036854775807
theorem drop_cons' {α : Type} (d : α) (l : List α) (k : Nat) (h : k < l.length) : l.drop k = l.getD k d :: l.drop (k + 1) := by
  rw [List.drop_eq_getElem_cons h]; simp [h]
theorem wrap_succ (i : Nat) (n : Nat) (h : i < n) (hn : n ≤ MX) : wrap64 ((i : Int) + 1) = ((i + 1 : Nat) : Int) := by unfold wrap64; unfold MX at hn; omega
theorem ev_few (l : List Mk) : Ev (fun k => logjamlaw38_few.f k l) (l.take 120) := by
  by_cases q : (l.length : Int) > 120
  · refine Ev.congr (f := fun k => logjamlaw38_few.j0 k (l.take 120)) (fun k => by simp only [logjamlaw38_few.f]; rw [if_pos q, if_pos (by omega)]) ?_
    exact Ev.step1 (fun k => by simp only [logjamlaw38_few.j0, Option.bind_some]; rw [if_pos (by simp; omega)]; rfl)
  · rw [List.take_of_length_le (by omega)]
    refine Ev.congr (f := fun k => logjamlaw38_few.j0 k l) (fun k => by simp only [logjamlaw38_few.f]; rw [if_neg q]) ?_
    exact Ev.step1 (fun k => by simp only [logjamlaw38_few.j0, Option.bind_some]; rw [if_pos (by simp; omega)]; rfl)
theorem ends_nodup : ∀ (l : List Mk) (i : Nat) (L : List Int), ((endsG l i L).map (·.f0)).Nodup ∧ ∀ e ∈ endsG l i L, e.f0 ∉ L ∧ 0 < e.f0 := by
  intro l
  induction l with
  | nil => intro i L; exact ⟨List.nodup_nil, fun e he => by cases he⟩
  | cons x r ih =>
    intro i L
    unfold endsG
    split
    · rename_i hE
      split
      · exact ih _ _
      · rename_i hL
        obtain ⟨h1, h2⟩ := ih (i + 1) (x.f2 :: L)
        refine ⟨?_, fun e he => ?_⟩
        · rw [List.map_cons, List.nodup_cons]
          refine ⟨fun hm => ?_, h1⟩
          obtain ⟨e, he, hf⟩ := List.mem_map.1 hm
          exact (h2 e he).1 (by rw [hf]; exact List.mem_cons_self)
        · rcases List.mem_cons.1 he with rfl | he
          · exact ⟨hL, by unfold isEnd at hE; simp at hE; exact hE.1⟩
          · exact ⟨fun hm => (h2 e he).1 (List.mem_cons_of_mem _ hm), (h2 e he).2⟩
    · exact ih _ _
theorem comsG_sub (a : Int) : ∀ l : List En, a ∈ comsG l → a ∈ l.map (·.f0)
  | [], h => by cases h
  | e :: r, h => by
    unfold comsG at h
    split at h
    · rcases List.mem_cons.1 h with rfl | h
      · simp
      · exact List.mem_cons_of_mem _ (comsG_sub a r h)
    · exact List.mem_cons_of_mem _ (comsG_sub a r h)
theorem idx_l0 (l : List Int) (a : Int) (hl : l.length ≤ MX) : ∀ (d i : Nat), i + d = l.length → ∃ r, Ev (fun k => slices_Index_int_int.l0 k l a (l.length : Int) (i : Int)) r ∧ (r ≥ 0 ↔ a ∈ l.drop i) := by
  intro d
  induction d with
  | zero =>
    intro i hi
    rw [List.drop_of_length_le (by omega)]
    exact ⟨-1, Ev.step1 (fun k => by simp only [slices_Index_int_int.l0]; rw [if_neg (by omega)]), by simp⟩
  | succ d ih =>
    intro i hi
    have hw := Lib.hid (wrap_succ i l.length (by omega) hl)
    have hr : rd l (i : Int) = l.getD i 0 := rfl
    rw [drop_cons' 0 l i (by omega)]
    by_cases q : a = l.getD i 0
    · exact ⟨i, Ev.step1 (fun k => by simp only [slices_Index_int_int.l0]; rw [if_pos (by omega), if_pos (by omega), if_pos (by omega), hr, if_pos q]), by rw [q]; simp⟩
    · obtain ⟨r, h1, h2⟩ := ih (i + 1) (by omega)
      exact ⟨r, Ev.step (f := fun k => slices_Index_int_int.l0 k l a (l.length : Int) ((i + 1 : Nat) : Int)) (fun k => by simp only [slices_Index_int_int.l0]; rw [if_pos (by omega), if_pos (by omega), if_pos (by omega), hr, if_neg q, hw.out]) h1, by rw [h2, List.mem_cons]; exact ⟨.inr, fun e => e.elim (fun e => absurd e q) id⟩⟩
theorem ev_contains (l : List Int) (a : Int) (hl : l.length ≤ MX) : Ev (fun k => slices_Contains_int_int.f k l a) (decide (a ∈ l)) := by
  obtain ⟨r, h1, h2⟩ := idx_l0 l a hl l.length 0 (Nat.zero_add _)
  refine Ev.congr (f := fun k => (slices_Index_int_int.l0 k l a (l.length : Int) ((0 : Nat) : Int)).bind fun t173 => some (decide (t173 ≥ 0))) (fun k => rfl) ?_
  refine Ev.bind h1 ?_
  rw [show decide (a ∈ l) = decide (r ≥ 0) from by rw [Bool.eq_iff_iff, decide_eq_true_iff, decide_eq_true_iff, h2]; simp]
  exact Ev.now _
theorem any_or {α : Type} (p q : α → Bool) : ∀ l : List α, l.any (fun y => p y || q y) = (l.any p || l.any q)
  | [] => rfl
  | x :: r => by rw [List.any_cons, List.any_cons, List.any_cons, any_or p q r]; cases p x <;> cases q x <;> cases r.any p <;> cases r.any q <;> rfl
def rhitW (b : Int) (R W : List Int) (y : Mk) : Bool := y.f2 == b && acc y && (decide (y.f3 ∈ W) || (y.f0 == 2 && decide (y.f3 ∈ R)))
theorem conf_gen (a b : Int) : ∀ (l : List Mk) (R W : List Int), confS a b l R W = (rconf a b l || l.any (rhitW b R W))
  | [], R, W => rfl
  | x :: r, R, W => by
    rw [rconf_cons, List.any_cons]
    unfold confS
    by_cases ha : acc x = true
    · rw [if_pos ha]
      by_cases hx : x.f2 = b ∧ (x.f3 ∈ W ∨ (x.f0 = 2 ∧ x.f3 ∈ R))
      · rw [if_pos hx]
        have : rhitW b R W x = true := by unfold rhitW; rw [ha]; simp only [Bool.and_true, Bool.and_eq_true, Bool.or_eq_true, beq_iff_eq, decide_eq_true_iff]; exact hx
        rw [this]; simp
      · rw [if_neg hx]
        have h0 : rhitW b R W x = false := by
          rw [Bool.eq_false_iff]; intro h; apply hx
          unfold rhitW at h; simp only [Bool.and_eq_true, Bool.or_eq_true, beq_iff_eq, decide_eq_true_iff] at h
          exact ⟨h.1.1, h.2⟩
        rw [h0, conf_gen a b r]
        by_cases hg : x.f2 = a
        · have hgo : rgo a x = true := by unfold rgo; rw [ha, hg]; simp
          rw [hgo, Bool.true_and, if_pos hg]
          have hp : ∀ y, rhitW b (x.f3 :: R) (if x.f2 = a ∧ x.f0 = 2 then x.f3 :: W else W) y = (rhit b x y || rhitW b R W y) := by
            intro y
            unfold rhitW rhit
            rw [Bool.eq_iff_iff]
            by_cases h2 : x.f0 = 2
            · rw [if_pos ⟨hg, h2⟩, h2]
              simp only [Bool.and_eq_true, Bool.or_eq_true, beq_iff_eq, decide_eq_true_iff, List.mem_cons]
              by_cases h3 : y.f3 = x.f3
              · simp only [h3, true_or, or_true, and_true, true_and]
                exact ⟨fun q => .inl q, fun q => q.elim id (fun q => q.1)⟩
              · simp only [h3, false_or, false_and, and_false]
            · rw [if_neg (fun q => h2 q.2)]
              simp only [Bool.and_eq_true, Bool.or_eq_true, beq_iff_eq, decide_eq_true_iff, List.mem_cons]
              by_cases h3 : y.f3 = x.f3
              case neg => simp only [h3, false_or, false_and, and_false]
              simp only [h3, h2, true_or, or_true, and_true, true_and, false_or]
              constructor
              · rintro ⟨⟨h4, h5⟩, h6 | h6⟩
                · exact .inr ⟨⟨h4, h5⟩, .inl h6⟩
                · exact .inl ⟨⟨h4, h5⟩, h6⟩
              · rintro (⟨⟨h4, h5⟩, h6⟩ | ⟨⟨h4, h5⟩, h6 | h6⟩)
                · exact ⟨⟨h4, h5⟩, .inr h6⟩
                · exact ⟨⟨h4, h5⟩, .inl h6⟩
                · exact ⟨⟨h4, h5⟩, .inr h6.1⟩
          rw [show r.any (rhitW b (x.f3 :: R) (if x.f2 = a ∧ x.f0 = 2 then x.f3 :: W else W)) = r.any (fun y => rhit b x y || rhitW b R W y) from by congr 1; funext y; exact hp y, any_or]
          cases rconf a b r <;> cases r.any (rhit b x) <;> cases r.any (rhitW b R W) <;> rfl
        · have hgo : rgo a x = false := by unfold rgo; rw [beq_eq_false_iff_ne.2 hg]; rfl
          rw [hgo, if_neg hg, if_neg (fun q => hg q.1)]
          simp
    · rw [if_neg ha, conf_gen a b r]
      have ha' : acc x = false := by simpa using ha
      have h1 : rgo a x = false := by unfold rgo; rw [ha']; simp
      have h0 : rhitW b R W x = false := by unfold rhitW; rw [ha']; simp
      rw [h1, h0]; simp
theorem conf_eq (a b : Int) (m : List Mk) : confS a b m [] [] = rconf a b m := by
  rw [conf_gen]
  have : m.any (rhitW b [] []) = false := by rw [List.any_eq_false]; intro y _; unfold rhitW; simp
  rw [this, Bool.or_false]
def befG (m : List Mk) (a b : Int) : Bool := decide (a ≠ b) && (decide (a ∈ committedG m) && (decide (b ∈ committedG m) && rconf a b m))
theorem ev_before (m : List Mk) (a b : Int) (hok : okM m = true) : Ev (fun k => history_Before.f k m a b) (befG m a b) := by
  have hm := (okM_in hok).1
  have hc : (committedG m).length ≤ MX := by
    unfold committedG srt; rw [List.length_mergeSort]
    have := Nat.le_trans (comsG_len (endsG m 0 [])) (endsG_len m 0 [])
    unfold MX; omega
  have j0 : ∀ r, Ev (fun k => history_Before.j0 k r) r := fun r => Ev.step1 (fun k => rfl)
  have e1 : o_committed.f m = some (committedG m) := if_pos hok
  have e2 : o_conflict.f m a b = some (rconf a b m) := by rw [← conf_eq]; exact if_pos hok
  unfold befG
  by_cases q : a = b
  · rw [decide_eq_false (fun h => h q), Bool.false_and]
    exact Ev.congr (f := fun k => history_Before.j0 k false) (fun k => by simp only [history_Before.f, e1, Option.bind_some]; rw [if_pos q]) (j0 _)
  · rw [decide_eq_true (show a ≠ b from q), Bool.true_and]
    refine Ev.congr (f := fun k => (slices_Contains_int_int.f k (committedG m) a).bind fun t177 => (if t177 = true then ((slices_Contains_int_int.f k (committedG m) b).bind fun t178 => (if t178 = true then (history_Before.j0 k (rconf a b m)) else (history_Before.j0 k false))) else (history_Before.j0 k false))) (fun k => by simp only [history_Before.f, e1, e2, Option.bind_some]; rw [if_neg q]) ?_
    refine Ev.bind (ev_contains _ a hc) ?_
    cases decide (a ∈ committedG m)
    · exact Ev.congr (f := fun k => history_Before.j0 k false) (fun k => if_neg (by simp)) (j0 _)
    · refine Ev.congr (f := fun k => (slices_Contains_int_int.f k (committedG m) b).bind fun t178 => (if t178 = true then (history_Before.j0 k (rconf a b m)) else (history_Before.j0 k false))) (fun k => if_pos rfl) ?_
      refine Ev.bind (ev_contains _ b hc) ?_
      cases decide (b ∈ committedG m)
      · exact Ev.congr (f := fun k => history_Before.j0 k false) (fun k => if_neg (by simp)) (j0 _)
      · exact Ev.congr (f := fun k => history_Before.j0 k (rconf a b m)) (fun k => if_pos rfl) (j0 _)
end Go.Proofs.Ytadepdeckapgcaa.Hi
end

section
namespace Go.Proofs.Ytadepdeckapgcaa.Hi
open Go.RowKit Go.Proofs.YtadepdeckapgcaaW.PrintWords Go.Proofs.YtadepdeckapgcaaW.PrintLast Go.Proofs.YtadepdeckapgcaaW.PrintMore Go.Proofs.Ytadepdeckapgcaa.PHi Go.Proofs.Ytadepdeckapgcaa.Orc
set_option linter.unusedVariables false
set_option linter.unusedSimpArgs false
def frR (m : List Mk) (left : List Int) (b : Int) : Bool := !left.any (fun a => a != b && rconf a b m)
theorem frB_eq (m : List Mk) (left : List Int) : frB m left = frR m left := by
  funext b
  unfold frB frR
  congr 2
  funext a
  unfold ahd
  rw [conf_eq]
def pkR (fr : Int → Bool) : Int → List Int → Int
  | x, [] => x
  | x, b :: r => pkR fr (if fr b = true then (if x = 0 then b else if b < x then b else x) else x) r
theorem pkR_spec (fr : Int → Bool) : ∀ (l : List Int) (x : Int), 0 ≤ x → (∀ b ∈ l, 0 < b) → (pkR fr x l = x ∨ (pkR fr x l ∈ l ∧ fr (pkR fr x l) = true)) ∧ (x ≠ 0 → pkR fr x l ≠ 0 ∧ pkR fr x l ≤ x) ∧ ∀ b ∈ l, fr b = true → pkR fr x l ≠ 0 ∧ pkR fr x l ≤ b
  | [], x, h0, h => ⟨.inl rfl, fun h => ⟨h, Int.le_refl _⟩, fun b hb => by cases hb⟩
  | b :: r, x, h0, h => by
    have hb := h b List.mem_cons_self
    have hr : ∀ c ∈ r, 0 < c := fun c hc => h c (List.mem_cons_of_mem _ hc)
    unfold pkR
    by_cases hf : fr b = true
    · rw [if_pos hf]
      by_cases hx : x = 0
      · rw [if_pos hx]
        obtain ⟨h1, h2, h3⟩ := pkR_spec fr r b (by omega) hr
        obtain ⟨h4, h5⟩ := h2 (by omega)
        refine ⟨.inr ?_, fun q => absurd hx q, fun c hc hfc => ?_⟩
        · rcases h1 with e | ⟨e, f⟩
          · rw [e]; exact ⟨List.mem_cons_self, hf⟩
          · exact ⟨List.mem_cons_of_mem _ e, f⟩
        · rcases List.mem_cons.1 hc with rfl | hc
          · exact ⟨h4, h5⟩
          · exact h3 c hc hfc
      · rw [if_neg hx]
        by_cases hlt : b < x
        · rw [if_pos hlt]
          obtain ⟨h1, h2, h3⟩ := pkR_spec fr r b (by omega) hr
          obtain ⟨h4, h5⟩ := h2 (by omega)
          refine ⟨.inr ?_, fun q => ⟨h4, by omega⟩, fun c hc hfc => ?_⟩
          · rcases h1 with e | ⟨e, f⟩
            · rw [e]; exact ⟨List.mem_cons_self, hf⟩
            · exact ⟨List.mem_cons_of_mem _ e, f⟩
          · rcases List.mem_cons.1 hc with rfl | hc
            · exact ⟨h4, h5⟩
            · exact h3 c hc hfc
        · rw [if_neg hlt]
          obtain ⟨h1, h2, h3⟩ := pkR_spec fr r x h0 hr
          obtain ⟨h4, h5⟩ := h2 hx
          refine ⟨?_, fun q => ⟨h4, h5⟩, fun c hc hfc => ?_⟩
          · rcases h1 with e | ⟨e, f⟩
            · exact .inl e
            · exact .inr ⟨List.mem_cons_of_mem _ e, f⟩
          · rcases List.mem_cons.1 hc with rfl | hc
            · exact ⟨h4, by omega⟩
            · exact h3 c hc hfc
    · rw [if_neg hf]
      obtain ⟨h1, h2, h3⟩ := pkR_spec fr r x h0 hr
      refine ⟨?_, h2, fun c hc hfc => ?_⟩
      · rcases h1 with e | ⟨e, f⟩
        · exact .inl e
        · exact .inr ⟨List.mem_cons_of_mem _ e, f⟩
      · rcases List.mem_cons.1 hc with rfl | hc
        · exact absurd hfc hf
        · exact h3 c hc hfc
theorem idxP_spec (p : Int → Bool) : ∀ (l : List Int) (k : Nat), (idxP p k l = -1 ∧ ∀ x ∈ l, p x = false) ∨ ∃ i, ∃ h : i < l.length, idxP p k l = ((k + i : Nat) : Int) ∧ p l[i] = true ∧ ∀ j (hj : j < i), p (l[j]'(by omega)) = false
  | [], k => .inl ⟨rfl, fun x hx => by cases hx⟩
  | x :: r, k => by
    by_cases q : p x = true
    · exact .inr ⟨0, by simp, by simp [idxP, q], q, fun j hj => by omega⟩
    · have e : idxP p k (x :: r) = idxP p (k + 1) r := by simp only [idxP]; rw [if_neg q]
      rw [e]
      rcases idxP_spec p r (k + 1) with ⟨h1, h2⟩ | ⟨i, hi, h1, h2, h3⟩
      · exact .inl ⟨h1, fun y hy => by rcases List.mem_cons.1 hy with rfl | hy; simpa using q; exact h2 y hy⟩
      · refine .inr ⟨i + 1, by simpa using hi, by rw [h1]; congr 1; omega, by simpa using h2, fun j hj => ?_⟩
        cases j with
        | zero => simpa using q
        | succ j => simpa using h3 j (by omega)
theorem erase_filter : ∀ (S : List Int) (i : Nat) (hi : i < S.length), S.Nodup → S.eraseIdx i = S.filter (fun x => x != S[i])
  | x :: r, 0, hi, h => by
    rw [List.nodup_cons] at h
    simp only [List.eraseIdx_cons_zero, List.getElem_cons_zero, List.filter_cons, bne_self_eq_false, Bool.false_eq_true, if_false]
    symm
    rw [List.filter_eq_self]
    intro y hy
    simp only [bne_iff_ne, ne_eq]
    rintro rfl; exact h.1 hy
  | x :: r, i + 1, hi, h => by
    rw [List.nodup_cons] at h
    have hi' : i < r.length := by simpa using hi
    have hne : (x != r[i]) = true := by
      simp only [bne_iff_ne, ne_eq]; intro e; exact h.1 (e ▸ List.getElem_mem hi')
    rw [List.eraseIdx_cons_succ, List.getElem_cons_succ, List.filter_cons, hne, if_pos rfl, erase_filter r i hi' h.2]
theorem filter_len (l : List Int) (b : Int) (h : l.Nodup) (hb : b ∈ l) : (l.filter (fun x => x != b)).length + 1 = l.length := by
  rw [← h.erase_eq_filter, List.length_erase_of_mem hb]
  have := List.length_pos_of_mem hb
  omega
def rser (m : List Mk) : Nat → List Int → List Int → List Int × Bool
  | 0, _, out => (out, true)
  | k + 1, left, out => if pkR (frR m left) 0 left = 0 then (out, false) else rser m k (left.filter (fun x => x != pkR (frR m left) 0 left)) (out ++ [pkR (frR m left) 0 left])
theorem serial_eq (m : List Mk) : ∀ (n : Nat) (S left out : List Int), S.length = n → S.Perm left → S.Pairwise (· ≤ ·) → S.Nodup → (∀ b ∈ S, 0 < b) → serG m n S out = rser m n left out
  | 0, S, left, out, _, _, _, _, _ => rfl
  | n + 1, S, left, out, hn, hp, hs, hd, h0 => by
    have hfr : frR m S = frR m left := by funext b; unfold frR; rw [hp.any_eq]
    unfold serG rser
    rw [frB_eq, hfr]
    obtain ⟨h1, _, h3⟩ := pkR_spec (frR m left) left 0 (Int.le_refl _) (fun b hb => h0 b (hp.mem_iff.2 hb))
    rcases idxP_spec (frR m left) S 0 with ⟨e, hno⟩ | ⟨i, hi, e, hfi, hbe⟩
    · rw [e, if_pos (by decide)]
      rcases h1 with e1 | ⟨hm, hf⟩
      · rw [if_pos e1]
      · rw [hno _ (hp.mem_iff.2 hm)] at hf; cases hf
    · rw [e, if_neg (by omega)]
      obtain ⟨g1, g2⟩ := h3 S[i] (hp.mem_iff.1 (List.getElem_mem hi)) hfi
      rw [if_neg g1]
      have hpe : pkR (frR m left) 0 left = S[i] := by
        rcases h1 with e1 | ⟨hm, hf⟩
        · exact absurd e1 g1
        · obtain ⟨j, hj, ej⟩ := List.getElem_of_mem (hp.mem_iff.2 hm)
          have hij : i ≤ j := by
            rcases Nat.lt_or_ge j i with q | q
            · have := hbe j q; rw [ej, hf] at this; cases this
            · exact q
          rcases Nat.lt_or_eq_of_le hij with q | q
          · have := List.pairwise_iff_getElem.1 hs i j hi hj q
            rw [ej] at this; omega
          · subst q; exact ej.symm
      have ht : (((0 + i : Nat) : Int)).toNat = i := by omega
      rw [ht, hpe, erase_filter S i hi hd, show S.getD i 0 = S[i] from by simp [hi]]
      have hl := filter_len S S[i] hd (List.getElem_mem hi)
      exact serial_eq m n _ _ _ (by omega) (hp.filter _) (hs.sublist List.filter_sublist) (hd.sublist List.filter_sublist) (fun b hb => h0 b (List.mem_filter.1 hb).1)
theorem comsG_sublist : ∀ l : List En, (comsG l).Sublist (l.map (·.f0))
  | [] => List.Sublist.slnil
  | e :: r => by
    unfold comsG
    split
    · exact (comsG_sublist r).cons_cons _
    · exact (comsG_sublist r).cons _
theorem coms_nodup (m : List Mk) : (comsG (endsG m 0 [])).Nodup := (ends_nodup m 0 []).1.sublist (comsG_sublist _)
theorem coms_pos (m : List Mk) : ∀ b ∈ comsG (endsG m 0 []), 0 < b := fun b hb => by
  obtain ⟨e, he, hf⟩ := List.mem_map.1 (comsG_sub b _ hb)
  exact hf ▸ ((ends_nodup m 0 []).2 e he).2
theorem serial_page (m : List Mk) : serialG m = rser m (comsG (endsG m 0 [])).length (comsG (endsG m 0 [])) [] := by
  have hp : (committedG m).Perm (comsG (endsG m 0 [])) := List.mergeSort_perm _ _
  unfold serialG
  rw [← hp.length_eq]
  refine serial_eq m _ _ _ _ rfl hp ?_ (hp.nodup_iff.2 (coms_nodup m)) (fun b hb => coms_pos m b (hp.mem_iff.1 hb))
  have := List.pairwise_mergeSort (le := fun x y : Int => decide (x ≤ y)) (fun a b c => by simp; omega) (fun a b => by simp; omega) (comsG (endsG m 0 []))
  exact this.imp (fun h => by simpa using h)
def scanR (q c : Int) : List Mk → Bool
  | [] => true
  | y :: r => if y.f2 = q then (if y.f0 = 3 ∨ y.f0 = 4 then true else scanR q c r) else if acc y = true ∧ y.f3 = c then false else scanR q c r
def strictR : List Mk → Bool
  | [] => true
  | x :: r => if x.f0 = 2 ∧ ¬ x.f2 < 1 then scanR x.f2 x.f3 r && strictR r else strictR r
theorem strict_gen : ∀ (l : List Mk) (D : Int → List Int), (∀ c, ∀ q ∈ D c, 0 < q) → (strictG l D = true ↔ ((∀ c, ∀ q ∈ D c, scanR q c l = true) ∧ strictR l = true))
  | [], D, h0 => by simp [strictG, scanR, strictR]
  | y :: r, D, h0 => by
    unfold strictG
    by_cases hE : isEnd y = true
    · rw [if_pos hE]
      have hE' := hE
      unfold isEnd at hE'
      simp only [Bool.and_eq_true, decide_eq_true_iff, Bool.or_eq_true, beq_iff_eq] at hE'
      obtain ⟨hp, hk⟩ := hE'
      have hna : acc y = false := by
        unfold acc
        rcases hk with e | e <;> rw [e] <;> rfl
      have hsR : strictR (y :: r) = strictR r := by
        rw [strictR, if_neg]
        rintro ⟨e, _⟩; rcases hk with q | q <;> rw [q] at e <;> cases e
      have hmem : ∀ c q, q ∈ flt y.f2 (D c) ↔ q ∈ D c ∧ q ≠ y.f2 := fun c q => by unfold flt; rw [List.mem_filter]; simp
      rw [strict_gen r _ (fun c q hq => h0 c q ((hmem c q).1 hq).1), hsR]
      refine and_congr_left (fun _ => ⟨fun h c q hq => ?_, fun h c q hq => ?_⟩)
      · unfold scanR
        by_cases e : y.f2 = q
        · rw [if_pos e, if_pos hk]
        · rw [if_neg e, if_neg (by rw [hna]; simp)]
          exact h c q ((hmem c q).2 ⟨hq, fun e2 => e e2.symm⟩)
      · obtain ⟨h1, h2⟩ := (hmem c q).1 hq
        have := h c q h1
        unfold scanR at this
        rw [if_neg (fun e => h2 e.symm), if_neg (by rw [hna]; simp)] at this
        exact this
    · rw [if_neg hE]
      by_cases ha : acc y = true
      · rw [if_pos ha]
        have hk : ¬ (y.f0 = 3 ∨ y.f0 = 4) := by
          unfold acc at ha; simp only [Bool.or_eq_true, beq_iff_eq] at ha; omega
        by_cases hany : (D y.f3).any (fun x => x != y.f2) = true
        · rw [if_pos hany]
          obtain ⟨q, hq, hne⟩ := List.any_eq_true.1 hany
          refine ⟨fun h => by simp at h, fun ⟨h, _⟩ => ?_⟩
          have := h y.f3 q hq
          unfold scanR at this
          rw [if_neg (fun e => by rw [e] at hne; simp at hne), if_pos ⟨ha, rfl⟩] at this
          cases this
        · rw [if_neg hany]
          have hall : ∀ q ∈ D y.f3, q = y.f2 := fun q hq => by
            by_cases e : q = y.f2
            · exact e
            · exact absurd (List.any_eq_true.2 ⟨q, hq, by simpa using e⟩) hany
          have hsc : ∀ c q, q ∈ D c → scanR q c (y :: r) = scanR q c r := fun c q hq => by
            rw [scanR]
            by_cases e : y.f2 = q
            · rw [if_pos e, if_neg hk]
            · rw [if_neg e, if_neg]
              rintro ⟨_, e2⟩
              subst e2
              exact e (hall q hq).symm
          have hDs : (∀ c, ∀ q ∈ D c, scanR q c (y :: r) = true) ↔ ∀ c, ∀ q ∈ D c, scanR q c r = true :=
            ⟨fun h c q hq => by rw [← hsc c q hq]; exact h c q hq, fun h c q hq => by rw [hsc c q hq]; exact h c q hq⟩
          rw [hDs]
          by_cases hw : y.f0 = 2 ∧ y.f2 > 0
          · rw [if_pos hw]
            have hsR : strictR (y :: r) = (scanR y.f2 y.f3 r && strictR r) := by rw [strictR, if_pos ⟨hw.1, by omega⟩]
            have hmem : ∀ c q, q ∈ updI D y.f3 (D y.f3 ++ [y.f2]) c ↔ q ∈ D c ∨ (c = y.f3 ∧ q = y.f2) := fun c q => by
              unfold updI
              by_cases e : c = y.f3
              · rw [if_pos e, List.mem_append, e]; simp
              · rw [if_neg e]; simp [e]
            rw [strict_gen r _ (fun c q hq => by rcases (hmem c q).1 hq with h | ⟨_, e⟩; exact h0 c q h; omega), hsR]
            simp only [Bool.and_eq_true]
            constructor
            · rintro ⟨h1, h2⟩
              exact ⟨fun c q hq => h1 c q ((hmem c q).2 (.inl hq)), h1 y.f3 y.f2 ((hmem _ _).2 (.inr ⟨rfl, rfl⟩)), h2⟩
            · rintro ⟨h1, h2, h3⟩
              refine ⟨fun c q hq => ?_, h3⟩
              rcases (hmem c q).1 hq with h | ⟨rfl, rfl⟩
              · exact h1 c q h
              · exact h2
          · rw [if_neg hw]
            have hsR : strictR (y :: r) = strictR r := by rw [strictR, if_neg (fun q => hw ⟨q.1, by omega⟩)]
            rw [strict_gen r D h0, hsR]
      · rw [if_neg ha]
        have hsR : strictR (y :: r) = strictR r := by
          rw [strictR, if_neg]; rintro ⟨e, _⟩
          unfold acc at ha; rw [e] at ha; exact ha rfl
        have hsc : ∀ c q, q ∈ D c → scanR q c (y :: r) = scanR q c r := fun c q hq => by
          rw [scanR]
          by_cases e : y.f2 = q
          · rw [if_pos e, if_neg]
            intro hk
            apply hE
            unfold isEnd
            have := h0 c q hq
            simp only [Bool.and_eq_true, decide_eq_true_iff, Bool.or_eq_true, beq_iff_eq]
            exact ⟨by omega, hk⟩
          · rw [if_neg e, if_neg (fun q => ha q.1)]
        rw [strict_gen r D h0, hsR]
        exact and_congr_left (fun _ => ⟨fun h c q hq => by rw [hsc c q hq]; exact h c q hq, fun h c q hq => by rw [← hsc c q hq]; exact h c q hq⟩)
theorem strict_eq (m : List Mk) : strictG m (fun _ => []) = strictR m := by
  rw [Bool.eq_iff_iff, strict_gen m _ (fun c q hq => by cases hq)]
  exact ⟨fun h => h.2, fun h => ⟨fun c q hq => (by cases hq), h⟩⟩
end Go.Proofs.Ytadepdeckapgcaa.Hi
end

section
namespace Go.Proofs.Ytadepdeckapgcaa.PHi
open Go.RowKit Go.Proofs.Ytadepdeckapgcaa.Orc Go.Proofs.YtadepdeckapgcaaW.PrintWords Go.Proofs.YtadepdeckapgcaaW.PrintLast Go.Proofs.YtadepdeckapgcaaW.PrintMore
attribute [local go_sem] max2_int min2_int max_two min_two max_three min_three max_four min_four
set_option linter.unusedVariables false
set_option linter.unusedSimpArgs false
theorem eqA31 (d : Nat) (w : World) (x0 y0 : Int) (x1 y1 : Int) (x2 y2 : Int) (x3 y3 : Int) :
  (Op.equalIn (d + 2) 31 (.agg #[.int .i64 x0, .int .i64 x1, .int .i64 x2, .int .i64 x3]) (.agg #[.int .i64 y0, .int .i64 y1, .int .i64 y2, .int .i64 y3])).run Try.prog w = .ok (x0 == y0 && (x1 == y1 && (x2 == y2 && (x3 == y3)))) w := by
 refine eqA_of Try.underlying31 (by kernel_rfl) ?_
 refine eqf_cons (by rfl) (by go_simp; rfl) (by go_simp; rfl) (by go_simp) ?_
 refine eqf_cons (by rfl) (by go_simp; rfl) (by go_simp; rfl) (by go_simp) ?_
 refine eqf_cons (by rfl) (by go_simp; rfl) (by go_simp; rfl) (by go_simp) ?_
 exact eqf_last (by rfl) (by go_simp; rfl) (by go_simp; rfl) (by go_simp)
end Go.Proofs.Ytadepdeckapgcaa.PHi
end
