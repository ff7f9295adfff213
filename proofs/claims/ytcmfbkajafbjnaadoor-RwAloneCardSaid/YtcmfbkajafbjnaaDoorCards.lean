/-
  DERIVED. GIVEN WITH THE SEED: THE CARDS: each row of YtcmfbkajafbjnaaDoorRows.lean that lists a variable, with what it lists TIED to the program's text (the seventh form; the later family's looks); each row that meets fmt, with fmt's text TOLD by the authors' own Lean function (tested against real Go, not proved from fmt's source: count such statements apart). THE CARD IS WHAT COUNTS. Prove the row's statement (the work); the ties are given (YtcmfbkajafbjnaaDoorTie.lean); close each card by the builder's one call (the guide's Derived/Test/ToyasCard.lean, 'card_holds'). Laid BY PROGRAM, IN A SANDBOX (cutbox-door.mjs). By AI agents, Wed Nov 11 2026. No macro, syntax, notation, axiom, sorry.
-/
import Derived.Test.YtcmfbkajafbjnaaDoorRows
import GoSem.ClaimSeven
namespace Go.Proofs.YtcmfbkajafbjnaaDoor
namespace Rows

/-- THE TIED CARD OF 'logjamlaw17.RwPlays'. -/
def rwPlaysCard : Claim7 := { stood := { row := rwPlaysRow, standIns := [], harness := (true, "46d68177c45176b0cc8f8c22167fd380bb644c1d5379cf0b3c7d32ad96ea34dd"), looks := false }, kinds := [], alts := [], laidByText := true, laidKinds := [.data], laidTests := true, laidLooks := .later }
def RwPlaysCardSaid : Prop := Claim7.holds Tryd.pinned (.plain (OpenSpec.ofChange rwPlaysSpec)) rwPlaysCard

/-- THE TIED CARD OF 'logjamlaw17.RwAlone'. -/
def rwAloneCard : Claim7 := { stood := { row := rwAloneRow, standIns := [], harness := (true, "46d68177c45176b0cc8f8c22167fd380bb644c1d5379cf0b3c7d32ad96ea34dd"), looks := false }, kinds := [], alts := [], laidByText := true, laidKinds := [.data], laidTests := true, laidLooks := .later }
def RwAloneCardSaid : Prop := Claim7.holds Tryd.pinned (.plain (OpenSpec.ofChange rwAloneSpec)) rwAloneCard

/-- THE TIED CARD OF 'logjamlaw17.RwNil'. -/
def rwNilCard : Claim7 := { stood := { row := rwNilRow, standIns := [], harness := (true, "46d68177c45176b0cc8f8c22167fd380bb644c1d5379cf0b3c7d32ad96ea34dd"), looks := false }, kinds := [], alts := [], laidByText := true, laidKinds := [.data], laidTests := true, laidLooks := .later }
def RwNilCardSaid : Prop := Claim7.holds Tryd.pinned (.plain (OpenSpec.ofChange rwNilSpec)) rwNilCard

/-- THE SECOND FORM's CARD OF 'logjamlaw17.RwPlays'. -/
def rwPlaysUptoCard : Claim7 := { stood := { row := rwPlaysUptoRow, standIns := [], harness := (true, "46d68177c45176b0cc8f8c22167fd380bb644c1d5379cf0b3c7d32ad96ea34dd"), looks := false }, kinds := [], alts := [], laidByText := true, laidKinds := [.data], laidTests := true, laidLooks := .later }
def RwPlaysUptoCardSaid : Prop := Claim7.holds Tryd.pinned (.plain (OpenSpec.upto rwPlaysSpec)) rwPlaysUptoCard

/-- THE SECOND FORM's CARD OF 'logjamlaw17.RwAlone'. -/
def rwAloneUptoCard : Claim7 := { stood := { row := rwAloneUptoRow, standIns := [], harness := (true, "46d68177c45176b0cc8f8c22167fd380bb644c1d5379cf0b3c7d32ad96ea34dd"), looks := false }, kinds := [], alts := [], laidByText := true, laidKinds := [.data], laidTests := true, laidLooks := .later }
def RwAloneUptoCardSaid : Prop := Claim7.holds Tryd.pinned (.plain (OpenSpec.upto rwAloneSpec)) rwAloneUptoCard

/-- THE SECOND FORM's CARD OF 'logjamlaw17.RwNil'. -/
def rwNilUptoCard : Claim7 := { stood := { row := rwNilUptoRow, standIns := [], harness := (true, "46d68177c45176b0cc8f8c22167fd380bb644c1d5379cf0b3c7d32ad96ea34dd"), looks := false }, kinds := [], alts := [], laidByText := true, laidKinds := [.data], laidTests := true, laidLooks := .later }
def RwNilUptoCardSaid : Prop := Claim7.holds Tryd.pinned (.plain (OpenSpec.upto rwNilSpec)) rwNilUptoCard
end Rows
end Go.Proofs.YtcmfbkajafbjnaaDoor
