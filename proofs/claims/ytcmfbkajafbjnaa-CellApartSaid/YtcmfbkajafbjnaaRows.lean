/-
  No cell of these rows narrows 'for every input' (looked for: loops, veiled, ifaces, maps, wideKeys, modest, calm, conditions, laid).
  DERIVED. THE GIVEN ROWS OF THIS SEAT. 10 by the template 'for every input the law returns true; each argument reads behind the call as it read before'; 0 by the template 'total and deterministic' (their statements: YtcmfbkajafbjnaaTotals.lean).
  GIVEN WITH THE SEED: the statements are not yours to turn. If you find one false, say at which input.
  Laid BY PROGRAM, IN A SANDBOX (cutbox-rows.mjs): the forced cells as the released guide's own fill.sh prints them over the translation c0d9fab0b79bb13a… (all of the seat's roots in one cut). By AI agents, Wed Nov 11 2026. No macro, syntax, notation, axiom, sorry.
-/
import Derived.Test.YtcmfbkajafbjnaaChecked
import GoSem.Claim
import GoSem.ClaimJoined
import GoSem.ClaimMapViews
import Derived.JoinedTies
import Derived.KernelRfl
namespace Go.Proofs.Ytcmfbkajafbjnaa
/- THE CELL 'sum', in the pinned program and in every row, IS THE sha256 OF THE DUMP (.gsa) THAT YtcmfbkajafbjnaaProg.lean LOADS. Nothing in Lean hashes anything: it is a label: what it is worth is what the hold of that sum in a sandbox is worth. -/
noncomputable def Try.pinned : Pinned := { name := "ytcmfbkajafbjnaa", sum := "c0d9fab0b79bb13aafa0255a6f0c85087677387d0365f18e4c07a963d6b77ce2", checked := Try.checked }
namespace Rows
def none {H : Type} : Left H := { results := [], args := [] }

/-- 'logjamlaw22.CellLast': WHATEVER THE INPUT: true; the input reads as it did. -/
def cellLastSpec : ChangeSpec := { name := "cellLast", fn := fun _ => fun
  | [d1, d2, d3] => { results := [.lit (.bool true)], args := [d1, d2, d3] }
  | _ => none }
def cellLastRow : OpenClaim := { program := "ytcmfbkajafbjnaa", sum := "c0d9fab0b79bb13aafa0255a6f0c85087677387d0365f18e4c07a963d6b77ce2", func := "logjam/logjamlaw22.CellLast", spec := "cellLast", apart := false }
def CellLastSaid : Prop := cellLastRow.holds Try.pinned (OpenSpec.ofChange cellLastSpec)

/-- ITS FALSE NEIGHBOUR: 'it returns false'. Refute it at one input. -/
def cellLastWrong : ChangeSpec := { name := "cellLast", fn := fun _ => fun
  | [d1, d2, d3] => { results := [.lit (.bool false)], args := [d1, d2, d3] }
  | _ => none }
def CellLastWrongFalsely : Prop := cellLastRow.holds Try.pinned (OpenSpec.ofChange cellLastWrong)

/-- 'logjamlaw22.CellPlays': WHATEVER THE INPUT: true; the input reads as it did. -/
def cellPlaysSpec : ChangeSpec := { name := "cellPlays", fn := fun _ => fun
  | [d1, d2, d3] => { results := [.lit (.bool true)], args := [d1, d2, d3] }
  | _ => none }
def cellPlaysRow : OpenClaim := { program := "ytcmfbkajafbjnaa", sum := "c0d9fab0b79bb13aafa0255a6f0c85087677387d0365f18e4c07a963d6b77ce2", func := "logjam/logjamlaw22.CellPlays", spec := "cellPlays", apart := false }
def CellPlaysSaid : Prop := cellPlaysRow.holds Try.pinned (OpenSpec.ofChange cellPlaysSpec)

/-- ITS FALSE NEIGHBOUR: 'it returns false'. Refute it at one input. -/
def cellPlaysWrong : ChangeSpec := { name := "cellPlays", fn := fun _ => fun
  | [d1, d2, d3] => { results := [.lit (.bool false)], args := [d1, d2, d3] }
  | _ => none }
def CellPlaysWrongFalsely : Prop := cellPlaysRow.holds Try.pinned (OpenSpec.ofChange cellPlaysWrong)

/-- 'logjamlaw20.PoolPlays': WHATEVER THE INPUT: true; the input reads as it did. -/
def poolPlaysSpec : ChangeSpec := { name := "poolPlays", fn := fun _ => fun
  | [d1, d2] => { results := [.lit (.bool true)], args := [d1, d2] }
  | _ => none }
def poolPlaysRow : OpenClaim := { program := "ytcmfbkajafbjnaa", sum := "c0d9fab0b79bb13aafa0255a6f0c85087677387d0365f18e4c07a963d6b77ce2", func := "logjam/logjamlaw20.PoolPlays", spec := "poolPlays", apart := false }
def PoolPlaysSaid : Prop := poolPlaysRow.holds Try.pinned (OpenSpec.ofChange poolPlaysSpec)

/-- ITS FALSE NEIGHBOUR: 'it returns false'. Refute it at one input. -/
def poolPlaysWrong : ChangeSpec := { name := "poolPlays", fn := fun _ => fun
  | [d1, d2] => { results := [.lit (.bool false)], args := [d1, d2] }
  | _ => none }
def PoolPlaysWrongFalsely : Prop := poolPlaysRow.holds Try.pinned (OpenSpec.ofChange poolPlaysWrong)

/-- 'logjamlaw20.PoolSums': WHATEVER THE INPUT: true; the input reads as it did. -/
def poolSumsSpec : ChangeSpec := { name := "poolSums", fn := fun _ => fun
  | [d1, d2] => { results := [.lit (.bool true)], args := [d1, d2] }
  | _ => none }
def poolSumsRow : OpenClaim := { program := "ytcmfbkajafbjnaa", sum := "c0d9fab0b79bb13aafa0255a6f0c85087677387d0365f18e4c07a963d6b77ce2", func := "logjam/logjamlaw20.PoolSums", spec := "poolSums", apart := false }
def PoolSumsSaid : Prop := poolSumsRow.holds Try.pinned (OpenSpec.ofChange poolSumsSpec)

/-- ITS FALSE NEIGHBOUR: 'it returns false'. Refute it at one input. -/
def poolSumsWrong : ChangeSpec := { name := "poolSums", fn := fun _ => fun
  | [d1, d2] => { results := [.lit (.bool false)], args := [d1, d2] }
  | _ => none }
def PoolSumsWrongFalsely : Prop := poolSumsRow.holds Try.pinned (OpenSpec.ofChange poolSumsWrong)

/-- 'logjamlaw22.CellApart': WHATEVER THE INPUT: true; the input reads as it did. -/
def cellApartSpec : ChangeSpec := { name := "cellApart", fn := fun _ => fun
  | [d1, d2, d3] => { results := [.lit (.bool true)], args := [d1, d2, d3] }
  | _ => none }
def cellApartRow : OpenClaim := { program := "ytcmfbkajafbjnaa", sum := "c0d9fab0b79bb13aafa0255a6f0c85087677387d0365f18e4c07a963d6b77ce2", func := "logjam/logjamlaw22.CellApart", spec := "cellApart", apart := false }
def CellApartSaid : Prop := cellApartRow.holds Try.pinned (OpenSpec.ofChange cellApartSpec)

/-- ITS FALSE NEIGHBOUR: 'it returns false'. Refute it at one input. -/
def cellApartWrong : ChangeSpec := { name := "cellApart", fn := fun _ => fun
  | [d1, d2, d3] => { results := [.lit (.bool false)], args := [d1, d2, d3] }
  | _ => none }
def CellApartWrongFalsely : Prop := cellApartRow.holds Try.pinned (OpenSpec.ofChange cellApartWrong)

/-- 'logjamlaw16.MutexPlays': WHATEVER THE INPUT: true; the input reads as it did. -/
def mutexPlaysSpec : ChangeSpec := { name := "mutexPlays", fn := fun _ => fun
  | [d] => { results := [.lit (.bool true)], args := [d] }
  | _ => none }
def mutexPlaysRow : OpenClaim := { program := "ytcmfbkajafbjnaa", sum := "c0d9fab0b79bb13aafa0255a6f0c85087677387d0365f18e4c07a963d6b77ce2", func := "logjam/logjamlaw16.MutexPlays", spec := "mutexPlays", apart := false }
def MutexPlaysSaid : Prop := mutexPlaysRow.holds Try.pinned (OpenSpec.ofChange mutexPlaysSpec)

/-- ITS FALSE NEIGHBOUR: 'it returns false'. Refute it at one input. -/
def mutexPlaysWrong : ChangeSpec := { name := "mutexPlays", fn := fun _ => fun
  | [d] => { results := [.lit (.bool false)], args := [d] }
  | _ => none }
def MutexPlaysWrongFalsely : Prop := mutexPlaysRow.holds Try.pinned (OpenSpec.ofChange mutexPlaysWrong)

/-- 'logjamlaw16.MutexStays': WHATEVER THE INPUT: true; the input reads as it did. -/
def mutexStaysSpec : ChangeSpec := { name := "mutexStays", fn := fun _ => fun
  | [d] => { results := [.lit (.bool true)], args := [d] }
  | _ => none }
def mutexStaysRow : OpenClaim := { program := "ytcmfbkajafbjnaa", sum := "c0d9fab0b79bb13aafa0255a6f0c85087677387d0365f18e4c07a963d6b77ce2", func := "logjam/logjamlaw16.MutexStays", spec := "mutexStays", apart := false }
def MutexStaysSaid : Prop := mutexStaysRow.holds Try.pinned (OpenSpec.ofChange mutexStaysSpec)

/-- ITS FALSE NEIGHBOUR: 'it returns false'. Refute it at one input. -/
def mutexStaysWrong : ChangeSpec := { name := "mutexStays", fn := fun _ => fun
  | [d] => { results := [.lit (.bool false)], args := [d] }
  | _ => none }
def MutexStaysWrongFalsely : Prop := mutexStaysRow.holds Try.pinned (OpenSpec.ofChange mutexStaysWrong)

/-- 'logjamlaw16.MutexNil': WHATEVER THE INPUT: true; the input reads as it did. -/
def mutexNilSpec : ChangeSpec := { name := "mutexNil", fn := fun _ => fun
  | [d] => { results := [.lit (.bool true)], args := [d] }
  | _ => none }
def mutexNilRow : OpenClaim := { program := "ytcmfbkajafbjnaa", sum := "c0d9fab0b79bb13aafa0255a6f0c85087677387d0365f18e4c07a963d6b77ce2", func := "logjam/logjamlaw16.MutexNil", spec := "mutexNil", apart := false }
def MutexNilSaid : Prop := mutexNilRow.holds Try.pinned (OpenSpec.ofChange mutexNilSpec)

/-- ITS FALSE NEIGHBOUR: 'it returns false'. Refute it at one input. -/
def mutexNilWrong : ChangeSpec := { name := "mutexNil", fn := fun _ => fun
  | [d] => { results := [.lit (.bool false)], args := [d] }
  | _ => none }
def MutexNilWrongFalsely : Prop := mutexNilRow.holds Try.pinned (OpenSpec.ofChange mutexNilWrong)

/-- 'logjamlaw20.PoolApart': WHATEVER THE INPUT: true; the input reads as it did. -/
def poolApartSpec : ChangeSpec := { name := "poolApart", fn := fun _ => fun
  | [d1, d2, d3] => { results := [.lit (.bool true)], args := [d1, d2, d3] }
  | _ => none }
def poolApartRow : OpenClaim := { program := "ytcmfbkajafbjnaa", sum := "c0d9fab0b79bb13aafa0255a6f0c85087677387d0365f18e4c07a963d6b77ce2", func := "logjam/logjamlaw20.PoolApart", spec := "poolApart", apart := false }
def PoolApartSaid : Prop := poolApartRow.holds Try.pinned (OpenSpec.ofChange poolApartSpec)

/-- ITS FALSE NEIGHBOUR: 'it returns false'. Refute it at one input. -/
def poolApartWrong : ChangeSpec := { name := "poolApart", fn := fun _ => fun
  | [d1, d2, d3] => { results := [.lit (.bool false)], args := [d1, d2, d3] }
  | _ => none }
def PoolApartWrongFalsely : Prop := poolApartRow.holds Try.pinned (OpenSpec.ofChange poolApartWrong)

/-- 'logjamlaw20.PoolNil': WHATEVER THE INPUT: true; the input reads as it did. -/
def poolNilSpec : ChangeSpec := { name := "poolNil", fn := fun _ => fun
  | [d1, d2] => { results := [.lit (.bool true)], args := [d1, d2] }
  | _ => none }
def poolNilRow : OpenClaim := { program := "ytcmfbkajafbjnaa", sum := "c0d9fab0b79bb13aafa0255a6f0c85087677387d0365f18e4c07a963d6b77ce2", func := "logjam/logjamlaw20.PoolNil", spec := "poolNil", apart := false }
def PoolNilSaid : Prop := poolNilRow.holds Try.pinned (OpenSpec.ofChange poolNilSpec)

/-- ITS FALSE NEIGHBOUR: 'it returns false'. Refute it at one input. -/
def poolNilWrong : ChangeSpec := { name := "poolNil", fn := fun _ => fun
  | [d1, d2] => { results := [.lit (.bool false)], args := [d1, d2] }
  | _ => none }
def PoolNilWrongFalsely : Prop := poolNilRow.holds Try.pinned (OpenSpec.ofChange poolNilWrong)

/- THE SECOND FORM. 'bulk': how many values and letters a reading holds, each counted each time it is reached (what is shared counts as often as it is met; a slice's spare places count too). A statement '..UptoSaid' is the law's where the arguments, and the package variables that the reading takes, are together of bulk at most 1048576: NARROWER than '..Said'. Prove '..Said' where nothing that the law and all that it calls make is longer than what came in: it says more and counts as full. Else prove '..UptoSaid'. A law counts once. -/
mutual
def uptoBulk {H : Type} : DataW H → Nat
  | .lit (.string bytes) => bytes.length + 1
  | .lit _ => 1
  | .nil => 1
  | .ptr d => uptoBulk d + 1
  | .slice elems spare => uptoBulkAll elems + uptoBulkAll spare + 1
  | .agg parts => uptoBulkAll parts + 1
  | .iface _ d => uptoBulk d + 1
  | .map entries => uptoBulkEntries entries + 1
  | .held _ => 1
def uptoBulkAll {H : Type} : List (DataW H) → Nat
  | [] => 0
  | d :: r => uptoBulk d + uptoBulkAll r
def uptoBulkEntries {H : Type} : List (Lit × DataW H) → Nat
  | [] => 0
  | x :: r => uptoBulkEntry x + uptoBulkEntries r
def uptoBulkEntry {H : Type} : Lit × DataW H → Nat
  | (.string bytes, d) => bytes.length + uptoBulk d + 1
  | (_, d) => uptoBulk d + 1
 end
def uptoSmall : (H : Type) → List (DataW H) → Bool := fun _ ds => decide (uptoBulkAll ds ≤ 1048576)
def OpenSpec.upto (s : _root_.Go.ChangeSpec) : _root_.Go.OpenSpec := { _root_.Go.OpenSpec.ofChange s with cond := some uptoSmall }

/-- 'logjamlaw22.CellLast', WHERE WHAT IT READS IS OF BULK AT MOST 1048576: true; the input reads as it did. -/
def cellLastUptoRow : OpenClaim := { program := "ytcmfbkajafbjnaa", sum := "c0d9fab0b79bb13aafa0255a6f0c85087677387d0365f18e4c07a963d6b77ce2", func := "logjam/logjamlaw22.CellLast", spec := "cellLast", apart := false, narrowed := true }
def CellLastUptoSaid : Prop := cellLastUptoRow.holds Try.pinned (OpenSpec.upto cellLastSpec)

/-- 'logjamlaw22.CellPlays', WHERE WHAT IT READS IS OF BULK AT MOST 1048576: true; the input reads as it did. -/
def cellPlaysUptoRow : OpenClaim := { program := "ytcmfbkajafbjnaa", sum := "c0d9fab0b79bb13aafa0255a6f0c85087677387d0365f18e4c07a963d6b77ce2", func := "logjam/logjamlaw22.CellPlays", spec := "cellPlays", apart := false, narrowed := true }
def CellPlaysUptoSaid : Prop := cellPlaysUptoRow.holds Try.pinned (OpenSpec.upto cellPlaysSpec)

/-- 'logjamlaw20.PoolPlays', WHERE WHAT IT READS IS OF BULK AT MOST 1048576: true; the input reads as it did. -/
def poolPlaysUptoRow : OpenClaim := { program := "ytcmfbkajafbjnaa", sum := "c0d9fab0b79bb13aafa0255a6f0c85087677387d0365f18e4c07a963d6b77ce2", func := "logjam/logjamlaw20.PoolPlays", spec := "poolPlays", apart := false, narrowed := true }
def PoolPlaysUptoSaid : Prop := poolPlaysUptoRow.holds Try.pinned (OpenSpec.upto poolPlaysSpec)

/-- 'logjamlaw20.PoolSums', WHERE WHAT IT READS IS OF BULK AT MOST 1048576: true; the input reads as it did. -/
def poolSumsUptoRow : OpenClaim := { program := "ytcmfbkajafbjnaa", sum := "c0d9fab0b79bb13aafa0255a6f0c85087677387d0365f18e4c07a963d6b77ce2", func := "logjam/logjamlaw20.PoolSums", spec := "poolSums", apart := false, narrowed := true }
def PoolSumsUptoSaid : Prop := poolSumsUptoRow.holds Try.pinned (OpenSpec.upto poolSumsSpec)

/-- 'logjamlaw22.CellApart', WHERE WHAT IT READS IS OF BULK AT MOST 1048576: true; the input reads as it did. -/
def cellApartUptoRow : OpenClaim := { program := "ytcmfbkajafbjnaa", sum := "c0d9fab0b79bb13aafa0255a6f0c85087677387d0365f18e4c07a963d6b77ce2", func := "logjam/logjamlaw22.CellApart", spec := "cellApart", apart := false, narrowed := true }
def CellApartUptoSaid : Prop := cellApartUptoRow.holds Try.pinned (OpenSpec.upto cellApartSpec)

/-- 'logjamlaw16.MutexPlays', WHERE WHAT IT READS IS OF BULK AT MOST 1048576: true; the input reads as it did. -/
def mutexPlaysUptoRow : OpenClaim := { program := "ytcmfbkajafbjnaa", sum := "c0d9fab0b79bb13aafa0255a6f0c85087677387d0365f18e4c07a963d6b77ce2", func := "logjam/logjamlaw16.MutexPlays", spec := "mutexPlays", apart := false, narrowed := true }
def MutexPlaysUptoSaid : Prop := mutexPlaysUptoRow.holds Try.pinned (OpenSpec.upto mutexPlaysSpec)

/-- 'logjamlaw16.MutexStays', WHERE WHAT IT READS IS OF BULK AT MOST 1048576: true; the input reads as it did. -/
def mutexStaysUptoRow : OpenClaim := { program := "ytcmfbkajafbjnaa", sum := "c0d9fab0b79bb13aafa0255a6f0c85087677387d0365f18e4c07a963d6b77ce2", func := "logjam/logjamlaw16.MutexStays", spec := "mutexStays", apart := false, narrowed := true }
def MutexStaysUptoSaid : Prop := mutexStaysUptoRow.holds Try.pinned (OpenSpec.upto mutexStaysSpec)

/-- 'logjamlaw16.MutexNil', WHERE WHAT IT READS IS OF BULK AT MOST 1048576: true; the input reads as it did. -/
def mutexNilUptoRow : OpenClaim := { program := "ytcmfbkajafbjnaa", sum := "c0d9fab0b79bb13aafa0255a6f0c85087677387d0365f18e4c07a963d6b77ce2", func := "logjam/logjamlaw16.MutexNil", spec := "mutexNil", apart := false, narrowed := true }
def MutexNilUptoSaid : Prop := mutexNilUptoRow.holds Try.pinned (OpenSpec.upto mutexNilSpec)

/-- 'logjamlaw20.PoolApart', WHERE WHAT IT READS IS OF BULK AT MOST 1048576: true; the input reads as it did. -/
def poolApartUptoRow : OpenClaim := { program := "ytcmfbkajafbjnaa", sum := "c0d9fab0b79bb13aafa0255a6f0c85087677387d0365f18e4c07a963d6b77ce2", func := "logjam/logjamlaw20.PoolApart", spec := "poolApart", apart := false, narrowed := true }
def PoolApartUptoSaid : Prop := poolApartUptoRow.holds Try.pinned (OpenSpec.upto poolApartSpec)

/-- 'logjamlaw20.PoolNil', WHERE WHAT IT READS IS OF BULK AT MOST 1048576: true; the input reads as it did. -/
def poolNilUptoRow : OpenClaim := { program := "ytcmfbkajafbjnaa", sum := "c0d9fab0b79bb13aafa0255a6f0c85087677387d0365f18e4c07a963d6b77ce2", func := "logjam/logjamlaw20.PoolNil", spec := "poolNil", apart := false, narrowed := true }
def PoolNilUptoSaid : Prop := poolNilUptoRow.holds Try.pinned (OpenSpec.upto poolNilSpec)

end Rows
end Go.Proofs.Ytcmfbkajafbjnaa
