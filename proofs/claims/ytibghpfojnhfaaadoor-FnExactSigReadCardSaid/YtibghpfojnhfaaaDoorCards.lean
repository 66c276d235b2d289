/-
  DERIVED. GIVEN WITH THE SEED: THE CARDS: each row of YtibghpfojnhfaaaDoorRows.lean that lists a variable, with what it lists TIED to the program's text (the seventh form; the later family's looks); each row that meets fmt, with fmt's text TOLD by the authors' own Lean function (tested against real Go, not proved from fmt's source: count such statements apart). THE CARD IS WHAT COUNTS. Prove the row's statement (the work); the ties are given (YtibghpfojnhfaaaDoorTie.lean); close each card by the builder's one call (the guide's Derived/Test/ToyasCard.lean, 'card_holds'). Laid BY PROGRAM, IN A SANDBOX (cutbox-door.mjs). By AI agents, Wed Nov 11 2026. No macro, syntax, notation, axiom, sorry.
-/
import Derived.Test.YtibghpfojnhfaaaDoorRows
import GoSem.ClaimSeven
namespace Go.Proofs.YtibghpfojnhfaaaDoor
namespace Rows

/-- THE TIED CARD OF 'laws.FnExactSigRead'. -/
def fnExactSigReadCard : Claim7 := { stood := { row := fnExactSigReadRow, standIns := [], harness := (true, "510d0966da2fbb63519d5a0a9b9fa1ef5ea65d54ba21acc5854936b0b01f5e25"), looks := true }, kinds := [], alts := [], laidByText := true, laidKinds := [.data, .data, .data, .data, .sentinel, .sentinel, .pinned], laidTests := true, laidLooks := .later }
def FnExactSigReadCardSaid : Prop := Claim7.holds Tryd.pinned (.plain (OpenSpec.ofChange fnExactSigReadSpec)) fnExactSigReadCard

/-- THE TIED CARD OF 'laws.FnSigText'. -/
def fnSigTextCard : Claim7 := { stood := { row := fnSigTextRow, standIns := [], harness := (true, "510d0966da2fbb63519d5a0a9b9fa1ef5ea65d54ba21acc5854936b0b01f5e25"), looks := true }, kinds := [], alts := [], laidByText := true, laidKinds := [.data, .data, .data, .data, .sentinel, .sentinel, .pinned], laidTests := true, laidLooks := .later }
def FnSigTextCardSaid : Prop := Claim7.holds Tryd.pinned (.plain (OpenSpec.ofChange fnSigTextSpec)) fnSigTextCard

/-- THE SECOND FORM's CARD OF 'laws.FnExactSigRead'. -/
def fnExactSigReadUptoCard : Claim7 := { stood := { row := fnExactSigReadUptoRow, standIns := [], harness := (true, "510d0966da2fbb63519d5a0a9b9fa1ef5ea65d54ba21acc5854936b0b01f5e25"), looks := true }, kinds := [], alts := [], laidByText := true, laidKinds := [.data, .data, .data, .data, .sentinel, .sentinel, .pinned], laidTests := true, laidLooks := .later }
def FnExactSigReadUptoCardSaid : Prop := Claim7.holds Tryd.pinned (.plain (OpenSpec.upto fnExactSigReadSpec)) fnExactSigReadUptoCard

/-- THE SECOND FORM's CARD OF 'laws.FnSigText'. -/
def fnSigTextUptoCard : Claim7 := { stood := { row := fnSigTextUptoRow, standIns := [], harness := (true, "510d0966da2fbb63519d5a0a9b9fa1ef5ea65d54ba21acc5854936b0b01f5e25"), looks := true }, kinds := [], alts := [], laidByText := true, laidKinds := [.data, .data, .data, .data, .sentinel, .sentinel, .pinned], laidTests := true, laidLooks := .later }
def FnSigTextUptoCardSaid : Prop := Claim7.holds Tryd.pinned (.plain (OpenSpec.upto fnSigTextSpec)) fnSigTextUptoCard
end Rows
end Go.Proofs.YtibghpfojnhfaaaDoor
