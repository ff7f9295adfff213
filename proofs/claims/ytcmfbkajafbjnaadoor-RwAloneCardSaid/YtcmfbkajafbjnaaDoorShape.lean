/- How arguments read: integers, bools, strings, structs and slices of them, to any depth, as Lean's own lists and pairs. No program in sight. -/
import Derived.Test.YtcmfbkajafbjnaaDoorBase
import Derived.ProofKit
import Derived.ChangeOld
import Derived.Deep.Slices
namespace Go.Proofs.YtcmfbkajafbjnaaDoor
open Go.ChangeShapes Go.WideShapes Go.ChangeAt Go.RowKit
set_option linter.unusedVariables false
set_option linter.unusedSimpArgs false

/-- A shape: how many cells, and what these say in a world, all memory being below block B. -/
structure Sh (α : Type) where
  n : Nat
  rd : World → Nat → α → List Value → Prop

/-- Whatever reads as a datum of type t has the shape. -/
def Opens {α : Type} (P : Program) (t : TypeId) (S : Sh α) : Prop :=
  P.cellsOf t = S.n ∧ ∀ (H : Type) (enc : TypeId × Value → H) (w : World) (fuel : Nat) (cs : List Value) (x : DataW H × List MemPlace),
    DataW.trod enc P w 0 (fun _ => true) true fuel t cs = some x → ∃ a, S.rd w w.heap.size a cs

/-- An int. -/
def shInt : Sh Int := ⟨1, fun _ _ a cs => cs = [.int .i64 a] ∧ -9223372036854775808 ≤ a ∧ a ≤ 9223372036854775807⟩
def shU64 : Sh Int := ⟨1, fun _ _ a cs => cs = [.int .u64 a] ∧ 0 ≤ a ∧ a ≤ 18446744073709551615⟩
def shBool : Sh Bool := ⟨1, fun _ _ a cs => cs = [.bool a]⟩
def shStr : Sh ByteArray := ⟨1, fun _ _ a cs => cs = [.string a] ∧ a.size ≤ maxLen⟩
/-- One behind the other. -/
def shP {α β : Type} (S : Sh α) (T : Sh β) : Sh (α × β) := ⟨S.n + T.n, fun w B x cs => ∃ c1 c2, cs = c1 ++ c2 ∧ c1.length = S.n ∧ S.rd w B x.1 c1 ∧ T.rd w B x.2 c2⟩
/-- A slice. -/
def shL {α : Type} (S : Sh α) : Sh (List α) := ⟨1, fun w B l cs => (l = [] ∧ ∃ a, cs = [.slice a 0 0]) ∨
  ∃ b o cap : Nat, b < B ∧ l.length ≤ cap ∧ cap ≤ maxLen ∧ cs = [.slice (some ⟨b, o, none⟩) l.length cap] ∧
    ∀ i (h : i < l.length), ∃ ci, S.rd w B l[i] ci ∧ ci.length = S.n ∧ ∀ j, j < S.n → w.cell? ⟨b, o + i * S.n + j, none⟩ = ci[j]?⟩

section
variable {P : Program}

theorem opens_int {t : TypeId} (ht : P.underlying t = some (.int .i64)) (hC : P.cellsOf t = 1) : Opens P t shInt :=
  ⟨hC, fun H enc w fuel cs x h => by
    obtain ⟨n, rfl, _, hw⟩ := DataW.trod_int ht h
    refine ⟨n, rfl, ?_⟩
    simp only [Lit.wf, IntKind.min, IntKind.max, IntKind.signed, IntKind.bits, Bool.and_eq_true, decide_eq_true_eq, if_true] at hw
    omega⟩

theorem opens_u64 {t : TypeId} (ht : P.underlying t = some (.int .u64)) (hC : P.cellsOf t = 1) : Opens P t shU64 :=
  ⟨hC, fun H enc w fuel cs x h => by
    obtain ⟨n, rfl, _, hw⟩ := DataW.trod_int ht h
    refine ⟨n, rfl, ?_⟩
    simp [Lit.wf, IntKind.min, IntKind.max, IntKind.signed, IntKind.bits] at hw
    omega⟩

theorem opens_bool {t : TypeId} (ht : P.underlying t = some .bool) (hC : P.cellsOf t = 1) : Opens P t shBool :=
  ⟨hC, fun H enc w fuel cs x h => by
    obtain ⟨n, rfl, _⟩ := DataW.trod_bool ht h
    exact ⟨n, rfl⟩⟩

theorem opens_str {t : TypeId} (ht : P.underlying t = some .string) (hC : P.cellsOf t = 1) : Opens P t shStr :=
  ⟨hC, fun H enc w fuel cs x h => by
    obtain ⟨n, rfl, _, hw⟩ := DataW.trod_string ht h
    exact ⟨n, rfl, hw⟩⟩

/-- The fields of a struct, from place off on. -/
def OpensFs {α : Type} (P : Program) (fs : List Field) (off : Nat) (S : Sh α) : Prop :=
  ∀ (H : Type) (enc : TypeId × Value → H) (w : World) (n : Nat) (cs : List Value), off + S.n ≤ cs.length →
    (∀ f ∈ fs, ∃ x, DataW.trod enc P w 0 (fun _ => true) true n f.type ((cs.drop f.offset).take (P.cellsOf f.type)) = some x) → ∃ a, S.rd w w.heap.size a ((cs.drop off).take S.n)

theorem opensFs_one {α : Type} {S : Sh α} {f : Field} {off : Nat} (ho : f.offset = off) (h : Opens P f.type S) : OpensFs P [f] off S := by
  intro H enc w n cs _ hf
  obtain ⟨x, hx⟩ := hf f (by simp)
  rw [ho, h.1] at hx
  exact h.2 H enc w n _ x hx

theorem opensFs_cons {α β : Type} {S : Sh α} {T : Sh β} {f : Field} {fs : List Field} {off : Nat} (ho : f.offset = off) (h : Opens P f.type S) (hs : OpensFs P fs (off + S.n) T) : OpensFs P (f :: fs) off (shP S T) := by
  intro H enc w n cs hl hf
  have hl' : off + S.n + T.n ≤ cs.length := by simpa [shP, Nat.add_assoc] using hl
  obtain ⟨x, hx⟩ := hf f (by simp)
  rw [ho, h.1] at hx
  obtain ⟨a, ha⟩ := h.2 H enc w n _ x hx
  obtain ⟨b, hb⟩ := hs H enc w n cs hl' (fun g hg => hf g (by simp [hg]))
  refine ⟨(a, b), (cs.drop off).take S.n, (cs.drop (off + S.n)).take T.n, ?_, ?_, ha, hb⟩
  · show (cs.drop off).take (S.n + T.n) = _
    rw [List.take_add, List.drop_drop]
  · simp; omega

theorem opens_struct {α : Type} {S : Sh α} {t : TypeId} {fs : Array Field} (ht : P.underlying t = some (.struct fs)) (hC : P.cellsOf t = S.n) (h : OpensFs P fs.toList 0 S) : Opens P t S :=
  ⟨hC, fun H enc w fuel cs x hx => by
    obtain ⟨xs, n, _, _, hlen, hxl, hf⟩ := DataW.trod_struct ht hx
    obtain ⟨a, ha⟩ := h H enc w n cs (by omega) (fun f hfm => by
      obtain ⟨i, hi, rfl⟩ := List.getElem_of_mem hfm
      have hi' : i < fs.size := by simpa using hi
      have q := hf i fs[i] (Array.getElem?_eq_getElem hi')
      rw [List.getElem?_eq_getElem (by omega)] at q
      exact ⟨_, by simpa using q⟩)
    refine ⟨a, ?_⟩
    have e : (cs.drop 0).take S.n = cs := by rw [List.drop_zero, List.take_of_length_le (by omega)]
    rwa [e] at ha⟩

theorem addr_add (b o k : Nat) : (⟨b, o, none⟩ : Addr).add k = ⟨b, o + k, none⟩ := by
  unfold Addr.add
  by_cases h : k = 0 <;> simp [h]

theorem list_of_each {α : Type} {p : Nat → α → Prop} : ∀ n : Nat, (∀ i, i < n → ∃ x, p i x) → ∃ l : List α, l.length = n ∧ ∀ i (h : i < l.length), p i l[i]
  | 0, _ => ⟨[], rfl, fun i h => by simp at h⟩
  | n + 1, h => by
    obtain ⟨l, hl, hp⟩ := list_of_each n (fun i hi => h i (by omega))
    obtain ⟨x, hx⟩ := h n (by omega)
    refine ⟨l ++ [x], by simp [hl], fun i hi => ?_⟩
    by_cases hi' : i < l.length
    · rw [List.getElem_append_left hi']; exact hp i hi'
    · have e : i = n := by simp at hi; omega
      subst e
      rw [List.getElem_append_right (by omega)]
      simpa [hl] using hx

theorem opens_slice {α : Type} {S : Sh α} {t e : TypeId} (ht : P.underlying t = some (.slice e)) (hC : P.cellsOf t = 1) (hn : 0 < S.n) (h : Opens P e S) : Opens P t (shL S) :=
  ⟨hC, fun H enc w fuel cs x hx => by
    rcases Go.Deep.open_slice ht hx with ⟨rfl, _⟩ | ⟨a, len, cap, m, n, D, Pl, rfl, _, hl, hm, hmm, _, hi⟩
    · exact ⟨[], .inl ⟨rfl, none, rfl⟩⟩
    simp only [if_true] at hmm
    subst hmm
    rw [h.1] at hi
    by_cases hc0 : m = 0
    · subst hc0
      obtain rfl : len = 0 := by omega
      exact ⟨[], .inl ⟨rfl, some a, rfl⟩⟩
    obtain ⟨b, o, sp⟩ := a
    have hb : b < w.heap.size ∧ sp = none := by
      obtain ⟨cs', hc, _⟩ := hi 0 (by omega)
      obtain ⟨_, hcl, hat⟩ := World.cells?_some hc
      have q := hat 0 hn
      rw [List.getElem?_eq_getElem (by omega)] at q
      have hlt := World.block_lt_of_cell? _ _ q
      simp [Addr.add] at q hlt
      refine ⟨hlt, ?_⟩
      unfold World.cell? at q
      split at q
      · cases sp with
        | none => rfl
        | some _ => simp at q
      · simp at q
    obtain ⟨hb, rfl⟩ := hb
    obtain ⟨l, hll, hp⟩ := list_of_each (p := fun i (y : α) => ∃ ci, S.rd w w.heap.size y ci ∧ ci.length = S.n ∧ ∀ j, j < S.n → w.cell? ⟨b, o + i * S.n + j, none⟩ = ci[j]?) len (fun i hil => by
      obtain ⟨cs', hc, htr⟩ := hi i (by omega)
      obtain ⟨_, hcl, hat⟩ := World.cells?_some hc
      obtain ⟨y, hy⟩ := h.2 H enc w n cs' _ htr
      refine ⟨y, cs', hy, hcl, fun j hj => ?_⟩
      rw [← hat j hj, Go.Deep.add_add]
      rw [addr_add, Nat.add_assoc])
    subst hll
    exact ⟨l, .inr ⟨b, o, m, hb, hl, hm, rfl, hp⟩⟩⟩

theorem val_int {t : TypeId} {w : World} {r : Reach} {b0 : Nat} {v : Value} {B : Nat} {a : Int} (ht : P.underlying t = some (.int .i64)) (hval : Value.okWide P w r b0 t v) (h : shInt.rd w B a v.cells.toList) : v = .int .i64 a := by
  obtain ⟨n, rfl⟩ := okWide_int ht hval
  have := h.1
  simp [Value.cells] at this
  rw [this]
theorem val_slice {α : Type} {S : Sh α} {t e : TypeId} {w : World} {r : Reach} {b0 : Nat} {v : Value} {B : Nat} {l : List α} (ht : P.underlying t = some (.slice e)) (hval : Value.okWide P w r b0 t v) (h : (shL S).rd w B l v.cells.toList) : (shL S).rd w B l [v] := by
  obtain ⟨n, ln, cp, rfl⟩ := okWide_slice ht hval
  simpa [Value.cells] using h
end

def w3 (W : World) (b o i : Nat) (x : Int × Int × Int) : Prop :=
  W.cell? ⟨b, o + i * 3, none⟩ = some (.int .i64 x.1) ∧ W.cell? ⟨b, o + i * 3 + 1, none⟩ = some (.int .i64 x.2.1) ∧ W.cell? ⟨b, o + i * 3 + 2, none⟩ = some (.int .i64 x.2.2) ∧
    (-9223372036854775808 ≤ x.1 ∧ x.1 ≤ 9223372036854775807) ∧ (-9223372036854775808 ≤ x.2.1 ∧ x.2.1 ≤ 9223372036854775807) ∧ (-9223372036854775808 ≤ x.2.2 ∧ x.2.2 ≤ 9223372036854775807)

/-- A slice of pairs of ints, cell by cell. -/
theorem rd_pairs {w : World} {B : Nat} {l : List (Int × Int)} {v : Value} (h : (shL (shP shInt shInt)).rd w B l [v]) :
    (l = [] ∧ ∃ a, v = .slice a 0 0) ∨ ∃ b o cap : Nat, b < B ∧ l.length ≤ cap ∧ cap ≤ maxLen ∧ v = .slice (some ⟨b, o, none⟩) l.length cap ∧
      ∀ i (h : i < l.length), w.cell? ⟨b, o + i * 2, none⟩ = some (.int .i64 l[i].1) ∧ w.cell? ⟨b, o + i * 2 + 1, none⟩ = some (.int .i64 l[i].2) ∧
        (-9223372036854775808 ≤ l[i].1 ∧ l[i].1 ≤ 9223372036854775807) ∧ (-9223372036854775808 ≤ l[i].2 ∧ l[i].2 ≤ 9223372036854775807) := by
  rcases h with ⟨rfl, a, h⟩ | ⟨b, o, cap, hb, hl, hm, h, hi⟩
  · simp at h; exact .inl ⟨rfl, a, h⟩
  · simp at h
    refine .inr ⟨b, o, cap, hb, hl, hm, h, fun i hil => ?_⟩
    obtain ⟨ci, ⟨c1, c2, rfl, _, ⟨rfl, r1⟩, ⟨rfl, r2⟩⟩, _, hc⟩ := hi i hil
    have e0 := hc 0 (by show 0 < 2; omega)
    have e1 := hc 1 (by show 1 < 2; omega)
    exact ⟨by simpa [shP, shInt] using e0, by simpa [shP, shInt] using e1, r1, r2⟩

def opC3 (ks ts ns : Nat → Int) (i j : Nat) : Value := if j = 0 then .int .i64 (ks i) else if j = 1 then .int .i64 (ts i) else .int .i64 (ns i)

theorem slR_triples {W : World} {v : Value} {l : List (Int × Int × Int)} (h : (shL (shP shInt (shP shInt shInt))).rd W W.heap.size l [v]) :
    SlR W W.heap.size v 3 l.length (opC3 (fun i => (l.getD i (0, 0, 0)).1) (fun i => (l.getD i (0, 0, 0)).2.1) (fun i => (l.getD i (0, 0, 0)).2.2)) ∧
      ∀ i, i < l.length → (-9223372036854775808 ≤ (l.getD i (0, 0, 0)).1 ∧ (l.getD i (0, 0, 0)).1 ≤ 9223372036854775807) ∧ (-9223372036854775808 ≤ (l.getD i (0, 0, 0)).2.1 ∧ (l.getD i (0, 0, 0)).2.1 ≤ 9223372036854775807) ∧
        (-9223372036854775808 ≤ (l.getD i (0, 0, 0)).2.2 ∧ (l.getD i (0, 0, 0)).2.2 ≤ 9223372036854775807) := by
  rcases h with ⟨rfl, a, h⟩ | ⟨b, o, cap, hb, hl, hm, h, hi⟩
  · simp at h; exact ⟨.inl ⟨rfl, a, h⟩, fun i hi => by simp at hi⟩
  · simp at h
    have K : ∀ i (hil : i < l.length), w3 W b o i l[i] := fun i hil => by
      obtain ⟨ci, ⟨c1, c2, rfl, _, ⟨rfl, r1⟩, ⟨c3, c4, rfl, _, ⟨rfl, r2⟩, ⟨rfl, r3⟩⟩⟩, _, hc⟩ := hi i hil
      have e0 := hc 0 (by show 0 < 3; omega)
      have e1 := hc 1 (by show 1 < 3; omega)
      have e2 := hc 2 (by show 2 < 3; omega)
      exact ⟨by simpa [shP, shInt] using e0, by simpa [shP, shInt] using e1, by simpa [shP, shInt] using e2, r1, r2, r3⟩
    refine ⟨.inr ⟨b, o, cap, hb, by unfold maxLen at hm; omega, h, fun i j hil hj => ?_⟩, fun i hil => ?_⟩
    · obtain ⟨h0, h1, h2, _⟩ := K i hil
      have e : l.getD i (0, 0, 0) = l[i] := by simp [hil]
      unfold opC3
      rcases (by omega : j = 0 ∨ j = 1 ∨ j = 2) with rfl | rfl | rfl
      · rw [if_pos rfl]; show _ = some (Value.int .i64 (l.getD i (0, 0, 0)).1); rw [e]; exact h0
      · rw [if_neg (by omega), if_pos rfl]; show _ = some (Value.int .i64 (l.getD i (0, 0, 0)).2.1); rw [e]; exact h1
      · rw [if_neg (by omega), if_neg (by omega)]; show _ = some (Value.int .i64 (l.getD i (0, 0, 0)).2.2); rw [e]; exact h2
    · obtain ⟨_, _, _, h3⟩ := K i hil
      have e : l.getD i (0, 0, 0) = l[i] := by simp [hil]
      rw [e]; exact h3

end Go.Proofs.YtcmfbkajafbjnaaDoor
