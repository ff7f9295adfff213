/-
  DERIVED. GIVEN WITH THE SEED: THE CARDS: each row of YtadepdeckapgcaaDoorRows.lean that lists a variable, with what it lists TIED to the program's text (the seventh form; the later family's looks); each row that meets fmt, with fmt's text TOLD by the authors' own Lean function (tested against real Go, not proved from fmt's source: count such statements apart). THE CARD IS WHAT COUNTS. Prove the row's statement (the work); the ties are given (YtadepdeckapgcaaDoorTie.lean); close each card by the builder's one call (the guide's Derived/Test/ToyasCard.lean, 'card_holds'). Laid BY PROGRAM, IN A SANDBOX (cutbox-door.mjs). By AI agents, Wed Nov 11 2026. No macro, syntax, notation, axiom, sorry.
-/
import Derived.Test.YtadepdeckapgcaaDoorRows
import GoSem.ClaimSeven
namespace Go.Proofs.YtadepdeckapgcaaDoor
namespace Rows

/-- THE TIED CARD OF 'logjamlaw37.WitnessTells'. -/
def witnessTellsCard : Claim7 := { stood := { row := witnessTellsRow, standIns := [], harness := (true, "bb26db706657078348f512110012af2b93b0e83c497c1e84f7b02990bd31abda"), looks := true }, kinds := [], alts := [], laidByText := true, laidKinds := [.data], laidTests := true, laidLooks := .later }
def WitnessTellsCardSaid : Prop := Claim7.holds Tryd.pinned (.plain (OpenSpec.ofChange witnessTellsSpec)) witnessTellsCard

/-- THE TIED CARD OF 'logjamlaw37.WitnessCores'. -/
def witnessCoresCard : Claim7 := { stood := { row := witnessCoresRow, standIns := [], harness := (true, "bb26db706657078348f512110012af2b93b0e83c497c1e84f7b02990bd31abda"), looks := true }, kinds := [], alts := [], laidByText := true, laidKinds := [.data], laidTests := true, laidLooks := .later }
def WitnessCoresCardSaid : Prop := Claim7.holds Tryd.pinned (.plain (OpenSpec.ofChange witnessCoresSpec)) witnessCoresCard

/-- THE TIED CARD OF 'logjamlaw37.WitnessProves'. -/
def witnessProvesCard : Claim7 := { stood := { row := witnessProvesRow, standIns := [], harness := (true, "bb26db706657078348f512110012af2b93b0e83c497c1e84f7b02990bd31abda"), looks := true }, kinds := [], alts := [], laidByText := true, laidKinds := [.data], laidTests := true, laidLooks := .later }
def WitnessProvesCardSaid : Prop := Claim7.holds Tryd.pinned (.plain (OpenSpec.ofChange witnessProvesSpec)) witnessProvesCard

/-- THE TIED CARD OF 'logjamlaw33.VictimPicks'. -/
def victimPicksCard : Claim7 := { stood := { row := victimPicksRow, standIns := [], harness := (true, "bb26db706657078348f512110012af2b93b0e83c497c1e84f7b02990bd31abda"), looks := true }, kinds := [], alts := [], laidByText := true, laidKinds := [.data], laidTests := true, laidLooks := .later }
def VictimPicksCardSaid : Prop := Claim7.holds Tryd.pinned (.plain (OpenSpec.ofChange victimPicksSpec)) victimPicksCard

/-- THE TIED CARD OF 'logjamlaw33.VictimIs'. -/
def victimIsCard : Claim7 := { stood := { row := victimIsRow, standIns := [], harness := (true, "bb26db706657078348f512110012af2b93b0e83c497c1e84f7b02990bd31abda"), looks := true }, kinds := [], alts := [], laidByText := true, laidKinds := [.data], laidTests := true, laidLooks := .later }
def VictimIsCardSaid : Prop := Claim7.holds Tryd.pinned (.plain (OpenSpec.ofChange victimIsSpec)) victimIsCard

/-- THE TIED CARD OF 'logjamlaw36.ReportTexts'. -/
def reportTextsCard : Claim7 := { stood := { row := reportTextsRow, standIns := [], harness := (true, "bb26db706657078348f512110012af2b93b0e83c497c1e84f7b02990bd31abda"), looks := true }, kinds := [], alts := [], laidByText := true, laidKinds := [.data, .data, .data, .data, .sentinel, .sentinel, .pinned], laidTests := true, laidLooks := .later }
def ReportTextsCardSaid : Prop := Claim7.holds Tryd.pinned (.plain (OpenSpec.ofChange reportTextsSpec)) reportTextsCard

/-- THE TIED CARD OF 'logjamlaw36.ReportBack'. -/
def reportBackCard : Claim7 := { stood := { row := reportBackRow, standIns := [], harness := (true, "bb26db706657078348f512110012af2b93b0e83c497c1e84f7b02990bd31abda"), looks := true }, kinds := [], alts := [], laidByText := true, laidKinds := [.data, .data, .data, .data, .sentinel, .sentinel, .pinned], laidTests := true, laidLooks := .later }
def ReportBackCardSaid : Prop := Claim7.holds Tryd.pinned (.plain (OpenSpec.ofChange reportBackSpec)) reportBackCard

/-- THE TIED CARD OF 'logjamlaw41.TraceLines'. -/
def traceLinesCard : Claim7 := { stood := { row := traceLinesRow, standIns := [], harness := (true, "bb26db706657078348f512110012af2b93b0e83c497c1e84f7b02990bd31abda"), looks := true }, kinds := [], alts := [], laidByText := true, laidKinds := [.data, .data, .data, .data, .sentinel, .sentinel, .listed, .data, .pinned], laidTests := true, laidLooks := .later }
def TraceLinesCardSaid : Prop := Claim7.holds Tryd.pinned (.plain (OpenSpec.ofChange traceLinesSpec)) traceLinesCard

/-- THE TIED CARD OF 'logjamlaw41.TraceParses'. -/
def traceParsesCard : Claim7 := { stood := { row := traceParsesRow, standIns := [], harness := (true, "bb26db706657078348f512110012af2b93b0e83c497c1e84f7b02990bd31abda"), looks := true }, kinds := [], alts := [], laidByText := true, laidKinds := [.data, .data, .data, .data, .sentinel, .sentinel, .listed, .data, .pinned], laidTests := true, laidLooks := .later }
def TraceParsesCardSaid : Prop := Claim7.holds Tryd.pinned (.plain (OpenSpec.ofChange traceParsesSpec)) traceParsesCard

/-- THE TIED CARD OF 'logjamlaw41.TraceBack'. -/
def traceBackCard : Claim7 := { stood := { row := traceBackRow, standIns := [], harness := (true, "bb26db706657078348f512110012af2b93b0e83c497c1e84f7b02990bd31abda"), looks := true }, kinds := [], alts := [], laidByText := true, laidKinds := [.data, .data, .data, .data, .sentinel, .sentinel, .listed, .data, .pinned], laidTests := true, laidLooks := .later }
def TraceBackCardSaid : Prop := Claim7.holds Tryd.pinned (.plain (OpenSpec.ofChange traceBackSpec)) traceBackCard

/-- THE SECOND FORM's CARD OF 'logjamlaw37.WitnessTells'. -/
def witnessTellsUptoCard : Claim7 := { stood := { row := witnessTellsUptoRow, standIns := [], harness := (true, "bb26db706657078348f512110012af2b93b0e83c497c1e84f7b02990bd31abda"), looks := true }, kinds := [], alts := [], laidByText := true, laidKinds := [.data], laidTests := true, laidLooks := .later }
def WitnessTellsUptoCardSaid : Prop := Claim7.holds Tryd.pinned (.plain (OpenSpec.upto witnessTellsSpec)) witnessTellsUptoCard

/-- THE SECOND FORM's CARD OF 'logjamlaw37.WitnessCores'. -/
def witnessCoresUptoCard : Claim7 := { stood := { row := witnessCoresUptoRow, standIns := [], harness := (true, "bb26db706657078348f512110012af2b93b0e83c497c1e84f7b02990bd31abda"), looks := true }, kinds := [], alts := [], laidByText := true, laidKinds := [.data], laidTests := true, laidLooks := .later }
def WitnessCoresUptoCardSaid : Prop := Claim7.holds Tryd.pinned (.plain (OpenSpec.upto witnessCoresSpec)) witnessCoresUptoCard

/-- THE SECOND FORM's CARD OF 'logjamlaw37.WitnessProves'. -/
def witnessProvesUptoCard : Claim7 := { stood := { row := witnessProvesUptoRow, standIns := [], harness := (true, "bb26db706657078348f512110012af2b93b0e83c497c1e84f7b02990bd31abda"), looks := true }, kinds := [], alts := [], laidByText := true, laidKinds := [.data], laidTests := true, laidLooks := .later }
def WitnessProvesUptoCardSaid : Prop := Claim7.holds Tryd.pinned (.plain (OpenSpec.upto witnessProvesSpec)) witnessProvesUptoCard

/-- THE SECOND FORM's CARD OF 'logjamlaw33.VictimPicks'. -/
def victimPicksUptoCard : Claim7 := { stood := { row := victimPicksUptoRow, standIns := [], harness := (true, "bb26db706657078348f512110012af2b93b0e83c497c1e84f7b02990bd31abda"), looks := true }, kinds := [], alts := [], laidByText := true, laidKinds := [.data], laidTests := true, laidLooks := .later }
def VictimPicksUptoCardSaid : Prop := Claim7.holds Tryd.pinned (.plain (OpenSpec.upto victimPicksSpec)) victimPicksUptoCard

/-- THE SECOND FORM's CARD OF 'logjamlaw33.VictimIs'. -/
def victimIsUptoCard : Claim7 := { stood := { row := victimIsUptoRow, standIns := [], harness := (true, "bb26db706657078348f512110012af2b93b0e83c497c1e84f7b02990bd31abda"), looks := true }, kinds := [], alts := [], laidByText := true, laidKinds := [.data], laidTests := true, laidLooks := .later }
def VictimIsUptoCardSaid : Prop := Claim7.holds Tryd.pinned (.plain (OpenSpec.upto victimIsSpec)) victimIsUptoCard

/-- THE SECOND FORM's CARD OF 'logjamlaw36.ReportTexts'. -/
def reportTextsUptoCard : Claim7 := { stood := { row := reportTextsUptoRow, standIns := [], harness := (true, "bb26db706657078348f512110012af2b93b0e83c497c1e84f7b02990bd31abda"), looks := true }, kinds := [], alts := [], laidByText := true, laidKinds := [.data, .data, .data, .data, .sentinel, .sentinel, .pinned], laidTests := true, laidLooks := .later }
def ReportTextsUptoCardSaid : Prop := Claim7.holds Tryd.pinned (.plain (OpenSpec.upto reportTextsSpec)) reportTextsUptoCard

/-- THE SECOND FORM's CARD OF 'logjamlaw36.ReportBack'. -/
def reportBackUptoCard : Claim7 := { stood := { row := reportBackUptoRow, standIns := [], harness := (true, "bb26db706657078348f512110012af2b93b0e83c497c1e84f7b02990bd31abda"), looks := true }, kinds := [], alts := [], laidByText := true, laidKinds := [.data, .data, .data, .data, .sentinel, .sentinel, .pinned], laidTests := true, laidLooks := .later }
def ReportBackUptoCardSaid : Prop := Claim7.holds Tryd.pinned (.plain (OpenSpec.upto reportBackSpec)) reportBackUptoCard

/-- THE SECOND FORM's CARD OF 'logjamlaw41.TraceLines'. -/
def traceLinesUptoCard : Claim7 := { stood := { row := traceLinesUptoRow, standIns := [], harness := (true, "bb26db706657078348f512110012af2b93b0e83c497c1e84f7b02990bd31abda"), looks := true }, kinds := [], alts := [], laidByText := true, laidKinds := [.data, .data, .data, .data, .sentinel, .sentinel, .listed, .data, .pinned], laidTests := true, laidLooks := .later }
def TraceLinesUptoCardSaid : Prop := Claim7.holds Tryd.pinned (.plain (OpenSpec.upto traceLinesSpec)) traceLinesUptoCard

/-- THE SECOND FORM's CARD OF 'logjamlaw41.TraceParses'. -/
def traceParsesUptoCard : Claim7 := { stood := { row := traceParsesUptoRow, standIns := [], harness := (true, "bb26db706657078348f512110012af2b93b0e83c497c1e84f7b02990bd31abda"), looks := true }, kinds := [], alts := [], laidByText := true, laidKinds := [.data, .data, .data, .data, .sentinel, .sentinel, .listed, .data, .pinned], laidTests := true, laidLooks := .later }
def TraceParsesUptoCardSaid : Prop := Claim7.holds Tryd.pinned (.plain (OpenSpec.upto traceParsesSpec)) traceParsesUptoCard

/-- THE SECOND FORM's CARD OF 'logjamlaw41.TraceBack'. -/
def traceBackUptoCard : Claim7 := { stood := { row := traceBackUptoRow, standIns := [], harness := (true, "bb26db706657078348f512110012af2b93b0e83c497c1e84f7b02990bd31abda"), looks := true }, kinds := [], alts := [], laidByText := true, laidKinds := [.data, .data, .data, .data, .sentinel, .sentinel, .listed, .data, .pinned], laidTests := true, laidLooks := .later }
def TraceBackUptoCardSaid : Prop := Claim7.holds Tryd.pinned (.plain (OpenSpec.upto traceBackSpec)) traceBackUptoCard
end Rows
end Go.Proofs.YtadepdeckapgcaaDoor
