/- Walks over package pool. -/
import Derived.Test.YtcmfbkajafbjnaaRows
import Derived.Test.YtcmfbkajafbjnaaBase
import Derived.RegionTactic
import Derived.BigRegion
namespace Go.Proofs.Ytcmfbkajafbjnaa
open Go.RowKit
set_option linter.unusedSimpArgs false
set_option linter.unusedVariables false

/-- A pool: all, free, and what each of 64 threads has. -/
structure Pl where
  T : Int
  F : Int
  hs : List Int
  deriving DecidableEq

def Pl.ok (p : Pl) : Prop := p.hs.length = 64 ∧ 0 ≤ p.F ∧ (∀ x ∈ p.hs, 0 ≤ x) ∧ p.F + p.hs.sum = p.T ∧ p.T ≤ 1000
def PlAt (w : World) (b : Nat) (p : Pl) : Prop := Blk w b (Value.int .i64 p.T :: Value.int .i64 p.F :: p.hs.map (Value.int .i64)).toArray 86

theorem PlAt.total {w : World} {b : Nat} {p : Pl} (h : PlAt w b p) : w.cell? ⟨b, 0, none⟩ = some (.int .i64 p.T) := by simpa using h.cell 0
theorem PlAt.free {w : World} {b : Nat} {p : Pl} (h : PlAt w b p) : w.cell? ⟨b, 1, none⟩ = some (.int .i64 p.F) := by simpa using h.cell 1
theorem PlAt.has {w : World} {b : Nat} {p : Pl} (h : PlAt w b p) (k : Nat) (hk : k < p.hs.length) : w.cell? ⟨b, 2 + k, none⟩ = some (.int .i64 (p.hs.getD k 0)) := by
  have q := h.cell (2 + k)
  rw [q, show 2 + k = k + 1 + 1 by omega]
  simp [hk]

def Pl.held (p : Pl) (t : Int) : Int := if 0 ≤ t ∧ t < 64 then p.hs.getD t.toNat 0 else 0
def Pl.take (p : Pl) (t n : Int) : Pl × Bool := if 0 ≤ t ∧ t < 64 ∧ 1 ≤ n ∧ n ≤ p.F then (⟨p.T, p.F - n, p.hs.set t.toNat (p.hs.getD t.toNat 0 + n)⟩, true) else (p, false)
def Pl.give (p : Pl) (t n : Int) : Pl × Int :=
  if 0 ≤ t ∧ t < 64 ∧ 1 ≤ n then (if n ≤ p.hs.getD t.toNat 0 then (⟨p.T, p.F + n, p.hs.set t.toNat (p.hs.getD t.toNat 0 - n)⟩, 0) else (p, 9)) else (p, 1)
def Pl.back (p : Pl) (t : Int) : Pl × Int := if 0 < p.held t then ((p.give t (p.held t)).1, p.held t) else (p, p.held t)
def Pl.new (total : Int) : Pl := ⟨min (max total 0) 1000, min (max total 0) 1000, List.replicate 64 0⟩

theorem plHeld (w : World) (b : Nat) (p : Pl) (h : PlAt w b p) (hp : p.hs.length = 64) (t : Int) : Calls Try.prog 33 #[.pointer (some ⟨b, 0, none⟩), .int .i64 t] w fun e w' => e = .returned (.int .i64 (p.held t)) ∧ w = w' := by
  by_cases c : 0 ≤ t ∧ t < 64
  · obtain ⟨c1, c2⟩ := c
    obtain ⟨k, rfl⟩ := Int.eq_ofNat_of_zero_le c1
    have E : Hid (p.held k = p.hs.getD k 0) := by unfold Pl.held Hid; rw [if_pos ⟨c1, c2⟩]; simp
    have h0 := h.has k (by omega)
    have h1 : (k : Int) < 64 := c2
    have HP := Lib.hid hp; clear hp
    clear h
    go_enter Try.func33, Try.ntmps33
    go_wp2
    go_ret
    exact ⟨ret_int E.out.symm, rfl⟩
  · have E : Hid (p.held t = 0) := by unfold Pl.held Hid; rw [if_neg c]
    clear h hp
    by_cases c1 : t < 0
    · go_enter Try.func33, Try.ntmps33
      go_wp2
      go_ret
      exact ⟨ret_int E.out.symm, rfl⟩
    · have c2 : 64 ≤ t := by omega
      clear c
      go_enter Try.func33, Try.ntmps33
      go_wp2
      go_ret
      exact ⟨ret_int E.out.symm, rfl⟩

theorem plFree (w : World) (b : Nat) (p : Pl) (h : PlAt w b p) : Calls Try.prog 31 #[.pointer (some ⟨b, 0, none⟩)] w fun e w' => e = .returned (.int .i64 p.F) ∧ w = w' := by
  have h0 := h.free; clear h
  go_enter Try.func31, Try.ntmps31
  go_wp2
  go_ret
  exact ⟨rfl, rfl⟩
theorem plTotal (w : World) (b : Nat) (p : Pl) (h : PlAt w b p) : Calls Try.prog 27 #[.pointer (some ⟨b, 0, none⟩)] w fun e w' => e = .returned (.int .i64 p.T) ∧ w = w' := by
  have h0 := h.total; clear h
  go_enter Try.func27, Try.ntmps27
  go_wp2
  go_ret
  exact ⟨rfl, rfl⟩

theorem sum_set (l : List Int) : ∀ (k : Nat) (x : Int), k < l.length → (l.set k x).sum = l.sum - l.getD k 0 + x := by
  induction l with
  | nil => intro k x h; simp at h
  | cons a l ih =>
    intro k x h
    cases k with
    | zero => simp; omega
    | succ k =>
      have := ih k x (by simpa using h)
      simp at this ⊢
      omega
theorem sum_nonneg (l : List Int) (h : ∀ x ∈ l, 0 ≤ x) : 0 ≤ l.sum := by
  induction l with
  | nil => simp
  | cons a l ih =>
    have h1 := h a (by simp)
    have h2 := ih (fun x hx => h x (by simp [hx]))
    simp; omega
theorem getD_le_sum (l : List Int) (h : ∀ x ∈ l, 0 ≤ x) (k : Nat) : 0 ≤ l.getD k 0 ∧ l.getD k 0 ≤ l.sum := by
  induction l generalizing k with
  | nil => simp
  | cons a l ih =>
    have h1 := h a (by simp)
    have h2 := sum_nonneg l (fun x hx => h x (by simp [hx]))
    cases k with
    | zero => simp; omega
    | succ k =>
      have := ih (fun x hx => h x (by simp [hx])) k
      simp at this ⊢
      omega
theorem Pl.ok.has {p : Pl} (h : p.ok) (k : Nat) : 0 ≤ p.hs.getD k 0 ∧ p.hs.getD k 0 + p.F ≤ 1000 := by
  obtain ⟨h1, h2, h3, h4, h5⟩ := h
  have := getD_le_sum p.hs h3 k
  omega

set_option maxRecDepth 100000 in
set_option maxHeartbeats 1000000 in
theorem plTake (w : World) (b : Nat) (p : Pl) (h : PlAt w b p) (hp : p.ok) (t n : Int) : Calls Try.prog 50 #[.pointer (some ⟨b, 0, none⟩), .int .i64 t, .int .i64 n] w fun e w' => e = .returned (.bool (p.take t n).2) ∧ PlAt w' b (p.take t n).1 ∧ Fr (· = b) w w' := by
  by_cases c : 0 ≤ t ∧ t < 64 ∧ 1 ≤ n ∧ n ≤ p.F
  · obtain ⟨c1, c2, c3, c4⟩ := c
    have q := hp.has t.toNat
    have hF := hp.2.1
    have h1 := h.free
    obtain ⟨k, rfl⟩ := Int.eq_ofNat_of_zero_le c1
    have h0 := h.has k (by have := hp.1; omega)
    have f1 := Blk.free h 1
    have f0 := Blk.free h (2 + k)
    obtain ⟨T, F, hs⟩ := p
    simp only [Int.toNat_natCast] at q h0 h1 c4 hF
    have E : Hid (Pl.take ⟨T, F, hs⟩ k n = (⟨T, F - n, hs.set k (hs.getD k 0 + n)⟩, true)) := by unfold Pl.take Hid; rw [if_pos ⟨c1, c2, c3, c4⟩]; simp
    have H := Lib.hid h; clear h
    have HP := Lib.hid hp; clear hp
    generalize hs.getD k 0 = x at *
    have q1 := q.1
    have q2 := q.2
    clear q
    go_enter Try.func50, Try.ntmps50
    go_wp2
    go_region
    go_wp2
    go_ret
    rw [E.out]
    refine ⟨rfl, ?_, ((Fr.one_set _ _ _ _).one_setCell _ _).drew⟩
    have q := ((H.out.set (2 + k) (.int .i64 (x + n))).set 1 (.int .i64 (F - n))).drew
    rw [show 2 + k = k + 1 + 1 by omega] at q ⊢
    simpa [PlAt, List.map_set] using q
  · have E : Hid (p.take t n = (p, false)) := by unfold Pl.take Hid; rw [if_neg c]
    have h1 := h.free
    have H := Lib.hid h; clear h
    have CASES : t < 0 ∨ (0 ≤ t ∧ 64 ≤ t) ∨ (0 ≤ t ∧ t < 64 ∧ n < 1) ∨ (0 ≤ t ∧ t < 64 ∧ 1 ≤ n ∧ p.F < n) := by omega
    clear c hp
    rcases CASES with c | ⟨c0, c⟩ | ⟨c0, c1, c⟩ | ⟨c0, c1, c2, c⟩
    all_goals
      go_enter Try.func50, Try.ntmps50
      go_wp2
      go_ret
      rw [E.out]
      exact ⟨rfl, H.out, Fr.refl _ _⟩

set_option maxRecDepth 100000 in
set_option maxHeartbeats 1000000 in
theorem plGive (w : World) (b : Nat) (p : Pl) (h : PlAt w b p) (hp : p.ok) (t n : Int) : Calls Try.prog 51 #[.pointer (some ⟨b, 0, none⟩), .int .i64 t, .int .i64 n] w fun e w' => e = .returned (.int .i64 (p.give t n).2) ∧ PlAt w' b (p.give t n).1 ∧ Fr (· = b) w w' := by
  by_cases c : 0 ≤ t ∧ t < 64 ∧ 1 ≤ n
  · obtain ⟨c1, c2, c3⟩ := c
    have q := hp.has t.toNat
    have hF := hp.2.1
    have h1 := h.free
    obtain ⟨k, rfl⟩ := Int.eq_ofNat_of_zero_le c1
    have h0 := h.has k (by have := hp.1; omega)
    have f1 := Blk.free h 1
    have f0 := Blk.free h (2 + k)
    obtain ⟨T, F, hs⟩ := p
    simp only [Int.toNat_natCast] at q h0 h1 hF
    by_cases c4 : n ≤ hs.getD k 0
    · have E : Hid (Pl.give ⟨T, F, hs⟩ k n = (⟨T, F + n, hs.set k (hs.getD k 0 - n)⟩, 0)) := by unfold Pl.give Hid; rw [if_pos ⟨c1, c2, c3⟩]; simp only [Int.toNat_natCast]; rw [if_pos c4]
      have H := Lib.hid h; clear h
      have HP := Lib.hid hp; clear hp
      generalize hs.getD k 0 = x at *
      have q1 := q.1
      have q2 := q.2
      clear q
      go_enter Try.func51, Try.ntmps51
      go_wp2
      go_region
      go_wp2
      go_ret
      rw [E.out]
      refine ⟨rfl, ?_, ((Fr.one_set _ _ _ _).one_setCell _ _).drew⟩
      have q := ((H.out.set (2 + k) (.int .i64 (x - n))).set 1 (.int .i64 (F + n))).drew
      rw [show 2 + k = k + 1 + 1 by omega] at q ⊢
      simpa [PlAt, List.map_set] using q
    · have E : Hid (Pl.give ⟨T, F, hs⟩ k n = (⟨T, F, hs⟩, 9)) := by unfold Pl.give Hid; rw [if_pos ⟨c1, c2, c3⟩]; simp only [Int.toNat_natCast]; rw [if_neg c4]
      have H := Lib.hid h; clear h
      have HP := Lib.hid hp; clear hp
      generalize hs.getD k 0 = x at *
      have q1 := q.1
      have q2 := q.2
      clear q
      go_enter Try.func51, Try.ntmps51
      go_wp2
      go_ret
      rw [E.out]
      exact ⟨rfl, H.out, Fr.refl _ _⟩
  · have E : Hid (p.give t n = (p, 1)) := by unfold Pl.give Hid; rw [if_neg c]
    have H := Lib.hid h; clear h
    have CASES : t < 0 ∨ (0 ≤ t ∧ 64 ≤ t) ∨ (0 ≤ t ∧ t < 64 ∧ n < 1) := by omega
    clear c hp
    rcases CASES with c | ⟨c0, c⟩ | ⟨c0, c1, c⟩
    all_goals
      go_enter Try.func51, Try.ntmps51
      go_wp2
      go_ret
      rw [E.out]
      exact ⟨rfl, H.out, Fr.refl _ _⟩

theorem plBack (w : World) (b : Nat) (p : Pl) (h : PlAt w b p) (hp : p.ok) (t : Int) : Calls Try.prog 52 #[.pointer (some ⟨b, 0, none⟩), .int .i64 t] w fun e w' => e = .returned (.int .i64 (p.back t).2) ∧ PlAt w' b (p.back t).1 ∧ Fr (· = b) w w' := by
  by_cases c : 0 < p.held t
  · have E : Hid (p.back t = ((p.give t (p.held t)).1, p.held t)) := by unfold Pl.back Hid; rw [if_pos c]
    have G := Lib.hid (plGive w b p h hp t (p.held t))
    have HH := Lib.hid (plHeld w b p h hp.1 t)
    rw [E.out]
    generalize p.held t = n at *
    generalize p.give t n = r at *
    have H := Lib.hid h; clear h E
    go_enter Try.func52, Try.ntmps52
    go_wp2_with (first
      | (go_at_call 33; refine HH.out.mono ?_; rintro e w' ⟨rfl, rfl⟩)
      | (go_at_call 51; refine G.out.mono ?_; rintro e w' ⟨rfl, hw, hf⟩))
    go_ret
    exact ⟨rfl, hw, hf⟩
  · have E : Hid (p.back t = (p, p.held t)) := by unfold Pl.back Hid; rw [if_neg c]
    have HH := Lib.hid (plHeld w b p h hp.1 t)
    rw [E.out]
    generalize p.held t = n at *
    have H := Lib.hid h; clear h E
    go_enter Try.func52, Try.ntmps52
    go_wp2_with ((go_at_call 33; refine HH.out.mono ?_; rintro e w' ⟨rfl, rfl⟩))
    go_ret
    exact ⟨rfl, H.out, Fr.refl _ _⟩

theorem take_ok (p : Pl) (hp : p.ok) (t n : Int) : (p.take t n).1.ok := by
  unfold Pl.take
  split
  · rename_i c
    obtain ⟨c1, c2, c3, c4⟩ := c
    obtain ⟨h1, h2, h3, h4, h5⟩ := hp
    have hl : t.toNat < p.hs.length := by omega
    refine ⟨by simp [h1], by show 0 ≤ p.F - n; omega, fun x hx => ?_, ?_, h5⟩
    · rcases List.mem_or_eq_of_mem_set hx with h | rfl
      · exact h3 x h
      · have := (getD_le_sum p.hs h3 t.toNat).1; omega
    · show p.F - n + (p.hs.set _ _).sum = p.T
      rw [sum_set _ _ _ hl]; omega
  · exact hp
theorem give_ok (p : Pl) (hp : p.ok) (t n : Int) : (p.give t n).1.ok := by
  unfold Pl.give
  split
  · rename_i c
    obtain ⟨c1, c2, c3⟩ := c
    split
    · rename_i c4
      obtain ⟨h1, h2, h3, h4, h5⟩ := hp
      have hl : t.toNat < p.hs.length := by omega
      refine ⟨by simp [h1], by show 0 ≤ p.F + n; omega, fun x hx => ?_, ?_, h5⟩
      · rcases List.mem_or_eq_of_mem_set hx with h | rfl
        · exact h3 x h
        · omega
      · show p.F + n + (p.hs.set _ _).sum = p.T
        rw [sum_set _ _ _ hl]; omega
    · exact hp
  · exact hp
theorem back_ok (p : Pl) (hp : p.ok) (t : Int) : (p.back t).1.ok := by
  unfold Pl.back
  split
  · exact give_ok p hp _ _
  · exact hp
theorem new_ok (total : Int) : (Pl.new total).ok := by
  refine ⟨by simp [Pl.new], by simp [Pl.new]; omega, fun x hx => ?_, ?_, by simp [Pl.new]; omega⟩
  · simp [Pl.new] at hx; omega
  · simp [Pl.new]

theorem zeroPool (a b : Value) : (Try.zeroCells86.setIfInBounds 0 a).setIfInBounds 1 b = (a :: b :: (List.replicate 64 (0 : Int)).map (Value.int .i64)).toArray := by kernel_rfl

set_option maxRecDepth 100000 in
theorem plNew (w : World) (total : Int) : Calls Try.prog 25 #[.int .i64 total] w fun e w' => e = .returned (.pointer (some ⟨w.heap.size, 0, none⟩)) ∧ PlAt w' w.heap.size (Pl.new total) ∧ Quiet w w' := by
  have Z := Lib.hid (fun x : Int => Blk.new w ((Try.zeroCells86.setIfInBounds 0 (Value.int .i64 x)).setIfInBounds 1 (Value.int .i64 x)) 86)
  by_cases c1 : total < 0
  · have E : Hid (Pl.new total = ⟨0, 0, List.replicate 64 0⟩) := by unfold Pl.new Hid; rw [show min (max total 0) 1000 = 0 by omega]
    go_enter Try.func25, Try.ntmps25
    go_wp2
    go_ret
    rw [E.out]
    refine ⟨rfl, ?_, by (repeat (first | exact Fr.refl _ _ | assumption | (refine Fr.quiet ?_ (by assumption)) | refine Fr.quiet ?_ HF.out | refine Fr.quiet ?_ HF2.out | refine Fr.drew ?_ | refine Fr.drewN ?_ _ | refine Fr.alloc ?_ _ | refine Fr.setCell ?_ (.inr (by simp)) _))⟩
    have q := Z.out 0
    rw [zeroPool] at q ⊢
    exact q
  by_cases c2 : total ≤ 1000
  · have E : Hid (Pl.new total = ⟨total, total, List.replicate 64 0⟩) := by unfold Pl.new Hid; rw [show min (max total 0) 1000 = total by omega]
    have c3 : (if total < 0 then 0 else total) ≤ 1000 := by rw [if_neg c1]; exact c2
    go_enter Try.func25, Try.ntmps25
    go_wp2
    go_ret
    rw [E.out]
    refine ⟨rfl, ?_, by (repeat (first | exact Fr.refl _ _ | assumption | (refine Fr.quiet ?_ (by assumption)) | refine Fr.quiet ?_ HF.out | refine Fr.quiet ?_ HF2.out | refine Fr.drew ?_ | refine Fr.drewN ?_ _ | refine Fr.alloc ?_ _ | refine Fr.setCell ?_ (.inr (by simp)) _))⟩
    have q := Z.out total
    rw [zeroPool] at q ⊢
    exact q
  · have E : Hid (Pl.new total = ⟨1000, 1000, List.replicate 64 0⟩) := by unfold Pl.new Hid; rw [show min (max total 0) 1000 = 1000 by omega]
    have c3 : 1000 < (if total < 0 then 0 else total) := by rw [if_neg c1]; omega
    go_enter Try.func25, Try.ntmps25
    go_wp2
    go_ret
    rw [E.out]
    refine ⟨rfl, ?_, by (repeat (first | exact Fr.refl _ _ | assumption | (refine Fr.quiet ?_ (by assumption)) | refine Fr.quiet ?_ HF.out | refine Fr.quiet ?_ HF2.out | refine Fr.drew ?_ | refine Fr.drewN ?_ _ | refine Fr.alloc ?_ _ | refine Fr.setCell ?_ (.inr (by simp)) _))⟩
    have q := Z.out 1000
    rw [zeroPool] at q ⊢
    exact q

theorem setRow_blk {w : World} {g : Nat} {old cells : Array Value} {t : TypeId} (h : Blk w g old t) : Blk (w.setRow g cells) g cells t := by
  unfold Blk at *
  simp [World.setRow, Array.getElem?_modify, h]
theorem setRow_fr (w : World) (g : Nat) (cells : Array Value) : Fr (· = g) w (w.setRow g cells) := by
  refine ⟨rfl, rfl, rfl, by simp [World.setRow], fun i hi hn => ?_⟩
  simp only [World.setRow, Array.getElem?_modify]
  rw [if_neg (fun e => hn e.symm)]

theorem poolSize : (Try.prog.info? 86).map (·.size) = some 66 := by kernel_rfl
theorem poolZero : Try.zeroCells86.size = 66 := by kernel_rfl

set_option maxRecDepth 100000 in
theorem plClone (w : World) (b : Nat) (p : Pl) (h : PlAt w b p) (hp : p.hs.length = 64) : Calls Try.prog 49 #[.pointer (some ⟨b, 0, none⟩)] w fun e w' => e = .returned (.pointer (some ⟨w.heap.size, 0, none⟩)) ∧ PlAt w' w.heap.size p ∧ Quiet w w' := by
  unfold PlAt Blk at h
  have hi : (Try.prog.info? 86).map (·.size) = some (Value.int .i64 p.T :: Value.int .i64 p.F :: p.hs.map (Value.int .i64)).toArray.size := by
    have e : (Value.int .i64 p.T :: Value.int .i64 p.F :: p.hs.map (Value.int .i64)).toArray.size = 66 := by simp [hp]
    rw [e]; exact poolSize
  have hall : (Value.int .i64 p.T :: Value.int .i64 p.F :: p.hs.map (Value.int .i64)).toArray.all (·.oneCell') = true := by
    rw [Array.all_eq_true_iff_forall_mem]
    intro v hv
    simp at hv
    rcases hv with rfl | rfl | ⟨x, _, rfl⟩ <;> rfl
  have hz : Try.zeroCells86.size = (Value.int .i64 p.T :: Value.int .i64 p.F :: p.hs.map (Value.int .i64)).toArray.size := by
    have e : (Value.int .i64 p.T :: Value.int .i64 p.F :: p.hs.map (Value.int .i64)).toArray.size = 66 := by simp [hp]
    rw [e]; exact poolZero
  have H := Lib.hid h; have HI := Lib.hid hi; have HA := Lib.hid hall; have HZ := Lib.hid hz
  generalize hcs : (Value.int .i64 p.T :: Value.int .i64 p.F :: p.hs.map (Value.int .i64)).toArray = cs at *
  have HCS := Lib.hid hcs; clear hcs
  clear h hi hall hz
  go_enter Try.func49, Try.ntmps49
  go_wp2_with (first
    | (refine wpList_load_row rfl 86 (.tmp 7) rfl b rfl 86 cs (0, 0) _ H.out Try.underlying86 rfl HI.out ?_)
    | (refine wpList_store_row rfl 86 (.tmp 3) (.tmp 8) rfl w.heap.size cs rfl rfl 86 Try.zeroCells86 (Blk.new w _ _) HI.out HZ.out HA.out ?_))
  go_ret
  refine ⟨rfl, ?_, ((Fr.refl _ _).alloc _).one (setRow_fr _ _ _) (.inr (Nat.le_refl _))⟩
  unfold PlAt
  rw [HCS.out]
  exact setRow_blk (Blk.new w _ _)

theorem plNilW (w : World) : Calls Try.prog 30 #[.pointer none] w fun e w' => e = .returned (.slice none 0 0) ∧ Quiet w w' := by
  go_enter Try.func30, Try.ntmps30
  go_wp2_with fail
  go_loop [3, 6] (fun v i => ∃ k : Nat, k ≤ 64 ∧ i = .int .i64 k ∧ v = .slice none 0 0) (fun _ i => 64 - (intOf i).toNat)
  case atStart => exact ⟨0, by omega, rfl, rfl⟩
  case round =>
    obtain ⟨k, hk, rfl, rfl⟩ := hrel
    by_cases hlt : k < 64
    · go_wp2
      go_round
      case rel => exact ⟨k + 1, by omega, by go_num, rfl⟩
      case measure => simp [intOf]; omega
    · go_wp2
      go_ret
      exact ⟨rfl, Fr.refl _ _⟩

def p0L : Pl := ⟨3, 3, List.replicate 64 0⟩
def p1L : Pl := ⟨3, 1, (List.replicate 64 0).set 1 2⟩
theorem lT0 : Pl.new 3 = p0L := by decide
theorem lT1 : p0L.take 1 2 = (p1L, true) := by decide
theorem lT2 : p1L.take 2 2 = (p1L, false) := by decide
theorem lH : p1L.held 1 = 2 := by decide
theorem lG : p1L.give 1 3 = (p1L, 9) := by decide
theorem lB : (p1L.back 1).2 = 2 := by decide
theorem p0L_ok : p0L.ok := lT0 ▸ new_ok 3
theorem p1L_ok : p1L.ok := by have := take_ok p0L p0L_ok 1 2; rwa [lT1] at this

set_option maxHeartbeats 1000000 in
theorem plLives (w : World) : Calls Try.prog 35 #[] w fun e w' => e = .returned (.bool true) ∧ Quiet w w' := by
  have C0 := Lib.hid (plNew w 3)
  rw [lT0] at C0
  have C1 := Lib.hid (fun w b h => plTake w b p0L h p0L_ok 1 2)
  rw [lT1] at C1
  have C2 := Lib.hid (fun w b h => plTake w b p1L h p1L_ok 2 2)
  rw [lT2] at C2
  have C3 := Lib.hid (fun w b h => plHeld w b p1L h p1L_ok.1 1)
  rw [lH] at C3
  have C4 := Lib.hid (fun w b h => plGive w b p1L h p1L_ok 1 3)
  rw [lG] at C4
  have C5 := Lib.hid (fun w b h => plBack w b p1L h p1L_ok 1)
  rw [lB] at C5
  go_enter Try.func35, Try.ntmps35
  go_wp2_with ((go_at_call 25; refine C0.out.mono ?_; rintro e w' ⟨rfl, h0, hf0⟩))
  refine (C1.out _ _ h0).mono ?_
  rintro e w1 ⟨rfl, h1, hf1⟩
  go_wp2_with fail
  refine (C2.out _ _ h1).mono ?_
  rintro e w2 ⟨rfl, h2, hf2⟩
  go_wp2_with (first
    | (go_at_call 31; refine (plFree _ _ _ h2).mono ?_; rintro e w' ⟨rfl, rfl⟩)
    | (go_at_call 33; refine (C3.out _ _ h2).mono ?_; rintro e w' ⟨rfl, rfl⟩)
    | (go_at_call 51; refine (C4.out _ _ h2).mono ?_; rintro e w3 ⟨rfl, h3, hf3⟩)
    | (go_at_call 52; refine (C5.out _ _ h3).mono ?_; rintro e w4 ⟨rfl, h4, hf4⟩))
  go_ret
  exact ⟨rfl, (((hf0.one hf1 (.inr (Nat.le_refl _))).one hf2 (.inr (Nat.le_refl _))).one hf3 (.inr (Nat.le_refl _))).one hf4 (.inr (Nat.le_refl _))⟩

end Go.Proofs.Ytcmfbkajafbjnaa
