/- Walks over package cell. -/
import Derived.Test.YtcmfbkajafbjnaaBase
import Derived.Test.YtcmfbkajafbjnaaRows
import Derived.Test.YtcmfbkajafbjnaaPCellPlaysx2
import Derived.Deep.RegionHeld3
import Derived.LoopTactic
import Derived.Deep.DeepCutAuto
namespace Go.Proofs.Ytcmfbkajafbjnaa
open Go.RowKit Go.Proofs.YtcmfbkajafbjnaaW.PrintWords Go.Proofs.YtcmfbkajafbjnaaW.PrintLast Go.Proofs.YtcmfbkajafbjnaaW.PrintMore PCellPlays
set_option linter.unusedSimpArgs false
set_option linter.unusedVariables false

/-! ### three ints a row -/
def enc3 (l : List (Int × Int × Int)) : List Value := l.flatMap fun x => [.int .i64 x.1, .int .i64 x.2.1, .int .i64 x.2.2]
theorem enc3_cons (x : Int × Int × Int) (l : List (Int × Int × Int)) : enc3 (x :: l) = .int .i64 x.1 :: .int .i64 x.2.1 :: .int .i64 x.2.2 :: enc3 l := by simp [enc3]
theorem enc3_append (l m : List (Int × Int × Int)) : enc3 (l ++ m) = enc3 l ++ enc3 m := by simp [enc3]
theorem enc3_len (l : List (Int × Int × Int)) : (enc3 l).length = l.length * 3 := by
  induction l with
  | nil => rfl
  | cons x l ih => rw [enc3_cons]; simp [ih]; omega
theorem enc3_get (l : List (Int × Int × Int)) : ∀ i (h : i < l.length), (enc3 l)[i * 3]? = some (.int .i64 l[i].1) ∧ (enc3 l)[i * 3 + 1]? = some (.int .i64 l[i].2.1) ∧ (enc3 l)[i * 3 + 2]? = some (.int .i64 l[i].2.2) := by
  induction l with
  | nil => intro i h; simp at h
  | cons x l ih =>
    intro i h
    rw [enc3_cons]
    cases i with
    | zero => simp
    | succ i =>
      have := ih i (by simpa using h)
      rw [show (i + 1) * 3 = i * 3 + 1 + 1 + 1 by omega]
      simpa using this
theorem enc3_set (l : List (Int × Int × Int)) (v : Int) : ∀ i (h : i < l.length), (enc3 l).set (i * 3 + 2) (.int .i64 v) = enc3 (l.set i (l[i].1, l[i].2.1, v)) := by
  induction l with
  | nil => intro i h; simp at h
  | cons x l ih =>
    intro i h
    cases i with
    | zero => simp [enc3_cons]
    | succ i =>
      have := ih i (by simpa using h)
      rw [show (i + 1) * 3 + 2 = i * 3 + 2 + 1 + 1 + 1 by omega, enc3_cons]
      simp [enc3_cons, this]

theorem Fr.owns {F : Nat → Prop} {w w' : World} {base : Nat} {e : TypeId} {size n : Nat} {v : Value} {xs : List Value} (h : w.ownsRow base e size v n xs) (hf : Fr F w w') (hF : ∀ k, v.ownBlock = some k → ¬ F k) : w'.ownsRow base e size v n xs :=
  own_move h (fun k hk => hf.block k (h.lt k hk).2 (hF k hk))
theorem own_ne {w : World} {base : Nat} {e : TypeId} {size n : Nat} {v : Value} {xs : List Value} (h : w.ownsRow base e size v n xs) {g : Nat} {cs : Array Value} {t : TypeId} (hb : Blk w g cs t) (ht : e ≠ t) : v.ownBlock ≠ some g := fun q => by
  obtain ⟨cells, hc⟩ := own_typed h g q
  unfold Blk at hb
  rw [hc] at hb
  injection hb with hb
  injection hb with _ hb
  exact ht hb

/-- The word of the lowest bits. -/
def low (n : Int) : Int := wrap32 (n % 4294967296)
theorem wLow (w : World) (n : Int) : Calls Try.prog 53 #[.int .i64 n] w fun e w' => e = .returned (.int .i64 (low n)) ∧ Quiet w w' :=
  (word_Low.calls n (low n) w (by unfold word_Low.f low; congr 1; unfold wrap32 wrap64; omega)).mono fun e w' ⟨h1, h2⟩ => ⟨h1, by obtain ⟨n, rfl⟩ := h2; exact (Fr.refl _ _).drewN n⟩
theorem rLow_f (n : Int) : logjamref03_Low.f n = some (low n) := by
  have h1 : Int.tmod n 4294967296 = if 0 ≤ n then n % 4294967296 else -((-n) % 4294967296) := by
    split
    · rename_i h; exact Int.tmod_eq_emod_of_nonneg h
    · rename_i h
      have e : n = -(-n) := by omega
      conv => lhs; rw [e, Int.neg_tmod]
      rw [Int.tmod_eq_emod_of_nonneg (by omega)]
  unfold logjamref03_Low.f low wrap32 wrap64
  rw [h1]
  by_cases h0 : 0 ≤ n
  · simp only [h0, if_true]
    repeat' split
    all_goals (congr 1; omega)
  · simp only [h0, if_false]
    repeat' split
    all_goals (congr 1; omega)
theorem rLow (w : World) (n : Int) : Calls Try.prog 17 #[.int .i64 n] w fun e w' => e = .returned (.int .i64 (low n)) ∧ Quiet w w' :=
  (logjamref03_Low.calls n (low n) w (rLow_f n)).mono fun e w' ⟨h1, h2⟩ => ⟨h1, by obtain ⟨n, rfl⟩ := h2; exact (Fr.refl _ _).drewN n⟩

/-- Cells: their block, and the row of all. -/
def CeAt (w : World) (b base : Nat) (l : List (Int × Int × Int)) : Prop := ∃ v, Blk w b #[v] 79 ∧ w.ownsRow base 81 3 v l.length (enc3 l)

def fidx (obj : Int) : List (Int × Int × Int) → Option Nat
  | [] => none
  | x :: xs => if x.1 = obj then some 0 else (fidx obj xs).map (· + 1)
theorem fidx_some (obj : Int) : ∀ (l : List (Int × Int × Int)) (k : Nat) (h : k < l.length), l[k].1 = obj → (∀ j (hj : j < k), (l[j]'(by omega)).1 ≠ obj) → fidx obj l = some k
  | [], k, h, _, _ => by simp at h
  | x :: xs, 0, h, h1, _ => by simp at h1; simp [fidx, h1]
  | x :: xs, k + 1, h, h1, h2 => by
    have h0 := h2 0 (by omega)
    simp at h0
    simp only [fidx, h0, if_false]
    rw [fidx_some obj xs k (by simpa using h) (by simpa using h1) (fun j hj => by have := h2 (j + 1) (by omega); simpa using this)]
    rfl
theorem fidx_none (obj : Int) : ∀ (l : List (Int × Int × Int)), (∀ j (hj : j < l.length), l[j].1 ≠ obj) → fidx obj l = none
  | [], _ => rfl
  | x :: xs, h => by
    have h0 := h 0 (by simp)
    simp at h0
    simp only [fidx, h0, if_false]
    rw [fidx_none obj xs (fun j hj => by have := h (j + 1) (by simpa using hj); simpa using this)]
    rfl
theorem fidx_lt (obj : Int) : ∀ (l : List (Int × Int × Int)) (k : Nat), fidx obj l = some k → ∃ h : k < l.length, l[k].1 = obj
  | [], k, h => by simp [fidx] at h
  | x :: xs, k, h => by
    simp only [fidx] at h
    split at h
    · rename_i c; simp at h; subst h; exact ⟨by simp, by simpa using c⟩
    · rw [Option.map_eq_some_iff] at h
      obtain ⟨j, hj, rfl⟩ := h
      obtain ⟨h1, h2⟩ := fidx_lt obj xs j hj
      exact ⟨by simpa using h1, by simpa using h2⟩

set_option maxHeartbeats 1000000 in
/-- find, in a row that lies at block g. -/
theorem ceFind (w : World) (b g cap : Nat) (base : Nat) (l : List (Int × Int × Int)) (hb : Blk w b #[.slice (some ⟨g, 0, none⟩) l.length cap] 79) (ho : w.ownsRow base 81 3 (.slice (some ⟨g, 0, none⟩) l.length cap) l.length (enc3 l)) (hl : l.length ≤ 1000) (obj : Int) :
    Calls Try.prog 54 #[.pointer (some ⟨b, 0, none⟩), .int .i64 obj] w fun e w' => e = .returned (.pointer ((fidx obj l).map fun i => ⟨g, i * 3, none⟩)) ∧ w = w' := by
  have h0 := hb.cell 0; simp at h0
  have HO := Lib.hid ho; have HB := Lib.hid hb; clear ho hb
  go_enter Try.func54, Try.ntmps54
  go_wp2
  go_loop [5, 13] (fun _ i => ∃ k : Nat, k ≤ l.length ∧ i = .int .i64 k ∧ ∀ j (hj : j < l.length), j < k → l[j].1 ≠ obj) (fun _ i => l.length - (intOf i).toNat)
  case atStart => exact ⟨0, by omega, rfl, fun j _ h => by omega⟩
  case round =>
    obtain ⟨k, hk, rfl, hno⟩ := hrel
    have HN := Lib.hid hno; clear hno
    by_cases hlt : k < l.length
    · have hc : w.cell? ⟨g, k * 3, none⟩ = some (.int .i64 l[k].1) := by
        rw [HO.out.cellAt (k * 3) (by omega)]; exact (enc3_get l k hlt).1
      by_cases hx : l[k].1 = obj
      · have E : Hid (fidx obj l = some k) := fidx_some obj l k hlt hx (fun j hj => HN.out j (by omega) hj)
        have hx' : (l[k].1 == obj) = true := by simpa using hx
        clear hx
        generalize l[k].1 = x at *
        go_wp2
        go_ret
        rw [E.out]
        exact ⟨rfl, rfl⟩
      · have hx' : (l[k].1 == obj) = false := by simpa using hx
        have R : Hid (∀ j (hj : j < l.length), j < k + 1 → l[j].1 ≠ obj) := fun j hj h => by
          by_cases e : j = k
          · subst e; exact hx
          · exact HN.out j hj (by omega)
        clear hx
        generalize l[k].1 = x at hc hx'
        go_wp2
        go_round
        case rel => exact ⟨k + 1, by omega, by go_num, R.out⟩
        case measure => simp [intOf]; omega
    · obtain rfl : k = l.length := by omega
      have E : Hid (fidx obj l = none) := fidx_none obj l (fun j hj => HN.out j hj hj)
      go_wp2
      go_ret
      rw [E.out]
      exact ⟨rfl, rfl⟩

/-- Only blocks of type t from base on, and new ones, may have turned. -/
def TFr (t : TypeId) (base : Nat) (w w' : World) : Prop := Fr (fun k => base ≤ k ∧ ∃ cells, w.heap[k]? = some (.cells cells t (0, 0))) w w'
theorem TFr.refl (t : TypeId) (base : Nat) (w : World) : TFr t base w w := Fr.refl _ _
theorem TFr.trans {t : TypeId} {base : Nat} {a b c : World} (h : TFr t base a b) (k : TFr t base b c) : TFr t base a c :=
  Fr.trans h k (fun i ⟨h1, cells, hc⟩ => by
    by_cases hi : i < a.heap.size
    · left
      by_cases q : base ≤ i ∧ ∃ cells, a.heap[i]? = some (.cells cells t (0, 0))
      · exact q
      · exact ⟨h1, cells, by rw [← h.block i hi q]; exact hc⟩
    · right; omega)
theorem TFr.quiet {t : TypeId} {base : Nat} {a b c : World} (h : TFr t base a b) (k : Quiet b c) : TFr t base a c := Fr.quiet h k
theorem TFr.of_quiet {t : TypeId} {base : Nat} {a b : World} (k : Quiet a b) : TFr t base a b := (TFr.refl t base a).quiet k
theorem TFr.blk {t t' : TypeId} {base : Nat} {w w' : World} (h : TFr t base w w') {b : Nat} {cs : Array Value} (hb : Blk w b cs t') (ht : t ≠ t') : Blk w' b cs t' :=
  Fr.blk h hb (fun ⟨_, cells, hc⟩ => by
    unfold Blk at hb
    rw [hc] at hb
    injection hb with hb
    injection hb with _ hb
    exact ht hb)
theorem TFr.owns {t : TypeId} {base : Nat} {w w' : World} (h : TFr t base w w') {b2 : Nat} {e : TypeId} {size n : Nat} {v : Value} {xs : List Value} (ho : w.ownsRow b2 e size v n xs) (ht : t ≠ e) : w'.ownsRow b2 e size v n xs :=
  Fr.owns ho h (fun k hk ⟨_, cells, hc⟩ => by
    obtain ⟨c2, hc2⟩ := own_typed ho k hk
    rw [hc] at hc2
    injection hc2 with hc2
    injection hc2 with _ hc2
    exact ht hc2)
theorem TFr.old {t : TypeId} {base : Nat} {w0 w w' : World} (h : TFr t base w w') (hq : Quiet w0 w) (hb : w0.heap.size ≤ base) : Quiet w0 w' :=
  hq.trans h (fun i ⟨h1, _⟩ => .inr (by omega))
theorem TFr.set {t : TypeId} {base : Nat} {w : World} {g : Nat} {cs : Array Value} (hg : Blk w g cs t) (hb : base ≤ g) (j : Nat) (v : Value) : TFr t base w (w.setCell ⟨g, j, none⟩ v) :=
  Fr.setCell (p := ⟨g, j, none⟩) (Fr.refl _ _) (.inl ⟨hb, _, hg⟩) v

def cAt (l : List (Int × Int × Int)) (i : Nat) : Int × Int × Int := l.getD i (0, 0, 0)
def cGet (obj : Int) (l : List (Int × Int × Int)) : Int × Bool := match fidx obj l with | some i => ((cAt l i).2.2, true) | none => (0, false)
def cSet (obj v : Int) (l : List (Int × Int × Int)) : List (Int × Int × Int) × Bool := match fidx obj l with | some i => (l.set i ((cAt l i).1, (cAt l i).2.1, low v), true) | none => (l, false)
def cGuard (obj : Int) (l : List (Int × Int × Int)) : Int := match fidx obj l with | some i => (cAt l i).2.1 | none => -1
theorem cAt_lt (l : List (Int × Int × Int)) (i : Nat) (h : i < l.length) : cAt l i = l[i] := by unfold cAt; simp [h]

theorem ceOpenV {w : World} {b base : Nat} {v : Value} {l : List (Int × Int × Int)} (hb : Blk w b #[v] 79) (ho : w.ownsRow base 81 3 v l.length (enc3 l)) (hl : l.length ≤ 1000) :
    ∃ g, (l ≠ [] → ∃ cap, v = .slice (some ⟨g, 0, none⟩) l.length cap) ∧
      ∀ obj, Calls Try.prog 54 #[.pointer (some ⟨b, 0, none⟩), .int .i64 obj] w fun e w' => e = .returned (.pointer ((fidx obj l).map fun i => ⟨g, i * 3, none⟩)) ∧ w = w' := by
  rcases ho.2 with ⟨e, hn⟩ | ⟨g, cap, cur, e, _⟩
  · subst e
    have : l = [] := List.eq_nil_of_length_eq_zero hn
    subst this
    refine ⟨0, fun q => absurd rfl q, fun obj => ?_⟩
    have h0 := hb.cell 0; simp at h0
    have HO := Lib.hid ho; have HB := Lib.hid hb; clear ho hb hn hl
    go_enter Try.func54, Try.ntmps54
    go_wp2
    refine wp_loop_rounds 1 ?_; rw [rounds_succ]
    go_wp2
    go_ret
    exact ⟨rfl, rfl⟩
  · subst e
    exact ⟨g, fun _ => ⟨cap, rfl⟩, fun obj => ceFind w b g cap base l hb ho hl obj⟩

theorem ceOpen {w : World} {b base : Nat} {l : List (Int × Int × Int)} (h : CeAt w b base l) (hl : l.length ≤ 1000) :
    ∃ g v, Blk w b #[v] 79 ∧ w.ownsRow base 81 3 v l.length (enc3 l) ∧ (l ≠ [] → ∃ cap, v = .slice (some ⟨g, 0, none⟩) l.length cap) ∧
      ∀ obj, Calls Try.prog 54 #[.pointer (some ⟨b, 0, none⟩), .int .i64 obj] w fun e w' => e = .returned (.pointer ((fidx obj l).map fun i => ⟨g, i * 3, none⟩)) ∧ w = w' := by
  obtain ⟨v, hb, ho⟩ := h
  obtain ⟨g, h1, h2⟩ := ceOpenV hb ho hl
  exact ⟨g, v, hb, ho, h1, h2⟩

theorem ceGet {w : World} {b base : Nat} {l : List (Int × Int × Int)} (h : CeAt w b base l) (hl : l.length ≤ 1000) (obj : Int) :
    Calls Try.prog 15 #[.pointer (some ⟨b, 0, none⟩), .int .i64 obj] w fun e w' => e = .returned (.tuple #[.int .i64 (cGet obj l).1, .bool (cGet obj l).2]) ∧ w = w' := by
  obtain ⟨g, v, hb, ho, hv, hf⟩ := ceOpen h hl
  have HF := Lib.hid (hf obj); clear hf h
  cases hi : fidx obj l with
  | none =>
    have E : Hid (cGet obj l = (0, false)) := by unfold cGet Hid; rw [hi]
    rw [hi] at HF
    clear hi hb ho hv
    go_enter Try.func15, Try.ntmps15
    go_wp2_with ((go_at_call 54; refine HF.out.mono ?_; rintro e w' ⟨rfl, rfl⟩))
    go_ret2
    rw [E.out]
    exact ⟨rfl, rfl⟩
  | some i =>
    obtain ⟨hlt, _⟩ := fidx_lt obj l i hi
    have E : Hid (cGet obj l = (l[i].2.2, true)) := by unfold cGet Hid; rw [hi]; simp only [cAt_lt l i hlt]
    rw [hi] at HF
    obtain ⟨cap, rfl⟩ := hv (by intro q; subst q; simp at hlt)
    have hc : w.cell? ⟨g, i * 3 + 2, none⟩ = some (.int .i64 l[i].2.2) := by rw [ho.cellAt (i * 3 + 2) (by omega)]; exact (enc3_get l i hlt).2.2
    clear hi hb ho hv
    generalize l[i].2.2 = x at *
    go_enter Try.func15, Try.ntmps15
    go_wp2_with ((go_at_call 54; refine HF.out.mono ?_; rintro e w' ⟨rfl, rfl⟩))
    go_ret2
    rw [E.out]
    exact ⟨rfl, rfl⟩

theorem ceGuard {w : World} {b base : Nat} {l : List (Int × Int × Int)} (h : CeAt w b base l) (hl : l.length ≤ 1000) (obj : Int) :
    Calls Try.prog 24 #[.pointer (some ⟨b, 0, none⟩), .int .i64 obj] w fun e w' => e = .returned (.int .i64 (cGuard obj l)) ∧ w = w' := by
  obtain ⟨g, v, hb, ho, hv, hf⟩ := ceOpen h hl
  have HF := Lib.hid (hf obj); clear hf h
  cases hi : fidx obj l with
  | none =>
    have E : Hid (cGuard obj l = -1) := by unfold cGuard Hid; rw [hi]
    rw [hi] at HF
    clear hi hb ho hv
    go_enter Try.func24, Try.ntmps24
    go_wp2_with ((go_at_call 54; refine HF.out.mono ?_; rintro e w' ⟨rfl, rfl⟩))
    go_ret
    rw [E.out]
    exact ⟨rfl, rfl⟩
  | some i =>
    obtain ⟨hlt, _⟩ := fidx_lt obj l i hi
    have E : Hid (cGuard obj l = l[i].2.1) := by unfold cGuard Hid; rw [hi]; simp only [cAt_lt l i hlt]
    rw [hi] at HF
    obtain ⟨cap, rfl⟩ := hv (by intro q; subst q; simp at hlt)
    have hc : w.cell? ⟨g, i * 3 + 1, none⟩ = some (.int .i64 l[i].2.1) := by rw [ho.cellAt (i * 3 + 1) (by omega)]; exact (enc3_get l i hlt).2.1
    clear hi hb ho hv
    generalize l[i].2.1 = x at *
    go_enter Try.func24, Try.ntmps24
    go_wp2_with ((go_at_call 54; refine HF.out.mono ?_; rintro e w' ⟨rfl, rfl⟩))
    go_ret
    rw [E.out]
    exact ⟨rfl, rfl⟩

theorem ceSetV {w : World} {b base : Nat} {vv : Value} {l : List (Int × Int × Int)} (hb : Blk w b #[vv] 79) (ho : w.ownsRow base 81 3 vv l.length (enc3 l)) (hl : l.length ≤ 1000) (obj v : Int) :
    Calls Try.prog 16 #[.pointer (some ⟨b, 0, none⟩), .int .i64 obj, .int .i64 v] w fun e w' => e = .returned (.bool (cSet obj v l).2) ∧ (Blk w' b #[vv] 79 ∧ w'.ownsRow base 81 3 vv (cSet obj v l).1.length (enc3 (cSet obj v l).1)) ∧ Fr (fun k => vv.ownBlock = some k) w w' := by
  have H := Lib.hid (And.intro hb ho)
  obtain ⟨g, hv, hf⟩ := ceOpenV hb ho hl
  have HF := Lib.hid (hf obj); clear hf
  cases hi : fidx obj l with
  | none =>
    have E : Hid (cSet obj v l = (l, false)) := by unfold cSet Hid; rw [hi]
    rw [hi] at HF
    clear hi hb ho hv
    go_enter Try.func16, Try.ntmps16
    go_wp2_with ((go_at_call 54; refine HF.out.mono ?_; rintro e w' ⟨rfl, rfl⟩))
    go_ret
    rw [E.out]
    exact ⟨rfl, H.out, Fr.refl _ _⟩
  | some i =>
    obtain ⟨hlt, _⟩ := fidx_lt obj l i hi
    have E : Hid (cSet obj v l = (l.set i (l[i].1, l[i].2.1, low v), true)) := by unfold cSet Hid; rw [hi]; simp only [cAt_lt l i hlt]
    rw [hi] at HF
    obtain ⟨cap, rfl⟩ := hv (by intro q; subst q; simp at hlt)
    have hc : w.cell? ⟨g, i * 3 + 2, none⟩ = some (.int .i64 l[i].2.2) := by rw [ho.cellAt (i * 3 + 2) (by omega)]; exact (enc3_get l i hlt).2.2
    have fz := ho.frozenAt (i * 3 + 2)
    have HB := Lib.hid hb; have HO := Lib.hid ho
    clear hi hb ho hv
    generalize l[i].2.2 = x at hc
    go_enter Try.func16, Try.ntmps16
    go_wp2_with (first
      | (go_at_call 54; refine HF.out.mono ?_; rintro e w' ⟨rfl, rfl⟩)
      | (go_at_call 53; refine (wLow _ v).mono ?_; rintro e w1 ⟨rfl, hf⟩; have hc1 := hf.cell hc (fun q => q); have fz1 : w1.frozen? ⟨g, i * 3 + 2, none⟩ = false := (hf.rules.2 g _ (World.block_lt_of_cell? _ _ hc)).trans fz; have HQ := Lib.hid hf; clear hf))
    go_ret
    rw [E.out]
    have hb1 := HQ.out.blk HB.out (fun q => q)
    have ho1 := Fr.owns HO.out HQ.out (fun _ _ q => q)
    have hne := own_ne ho1 hb1 (by decide)
    refine ⟨rfl, ⟨hb1.set_other (a := ⟨g, i * 3 + 2, none⟩) (fun q => hne (by rw [← q]; rfl)) _, ?_⟩, ?_⟩
    · have q := (ho1.stored (i * 3 + 2) (.int .i64 (low v))).1
      rw [enc3_set l (low v) i hlt] at q
      simpa using q
    · exact Fr.setCell (F := fun k => (Value.slice (some ⟨g, 0, none⟩) l.length cap).ownBlock = some k) (p := ⟨g, i * 3 + 2, none⟩) (HQ.out.mono (fun _ q => q.elim)) (.inl rfl) _

theorem ceSet {w : World} {b base : Nat} {l : List (Int × Int × Int)} (h : CeAt w b base l) (hl : l.length ≤ 1000) (obj v : Int) :
    Calls Try.prog 16 #[.pointer (some ⟨b, 0, none⟩), .int .i64 obj, .int .i64 v] w fun e w' => e = .returned (.bool (cSet obj v l).2) ∧ CeAt w' b base (cSet obj v l).1 ∧ TFr 81 base w w' := by
  obtain ⟨vv, hb, ho⟩ := h
  refine (ceSetV hb ho hl obj v).mono ?_
  rintro e w' ⟨h1, ⟨h2, h3⟩, h4⟩
  exact ⟨h1, ⟨vv, h2, h3⟩, h4.mono (fun k hk => .inl ⟨(ho.lt k hk).1, own_typed ho k hk⟩)⟩

end Go.Proofs.Ytcmfbkajafbjnaa
