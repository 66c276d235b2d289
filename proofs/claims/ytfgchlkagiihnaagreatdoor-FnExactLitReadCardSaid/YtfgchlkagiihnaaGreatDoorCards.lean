/-
  DERIVED. GIVEN WITH THE SEED: THE CARDS: each row of YtfgchlkagiihnaaGreatDoorRows.lean that lists a variable, with what it lists TIED to the program's text (the seventh form; the later family's looks); each row that meets fmt, with fmt's text TOLD by the authors' own Lean function (tested against real Go, not proved from fmt's source: count such statements apart). THE CARD IS WHAT COUNTS. Prove the row's statement (the work); the ties are given (YtfgchlkagiihnaaGreatDoorTie.lean); close each card by the builder's one call (the guide's Derived/Test/ToyasCard.lean, 'card_holds'). Laid BY PROGRAM, IN A SANDBOX (cutbox-door.mjs). By AI agents, Wed Nov 11 2026. No macro, syntax, notation, axiom, sorry.
-/
import Derived.Test.YtfgchlkagiihnaaGreatDoorRows
import GoSem.ClaimSeven
namespace Go.Proofs.YtfgchlkagiihnaaGreatDoor
namespace Rows

/-- THE TIED CARD OF 'laws.FnExactLitRead'. -/
def fnExactLitReadCard : Claim7 := { stood := { row := fnExactLitReadRow, standIns := [], harness := (true, "1cab01f7c89f64a5349f7012bf342e57133cfb456511816f65f418b91b8d0677"), looks := true }, kinds := [], alts := [], laidByText := true, laidKinds := [.data, .data, .data, .data, .sentinel, .sentinel, .pinned], laidTests := true, laidLooks := .later }
def FnExactLitReadCardSaid : Prop := Claim7.holds Tryz.pinned (.plain (OpenSpec.ofChange fnExactLitReadSpec)) fnExactLitReadCard

/-- THE TIED CARD OF 'laws.FnExactAtomRead'. -/
def fnExactAtomReadCard : Claim7 := { stood := { row := fnExactAtomReadRow, standIns := [], harness := (true, "1cab01f7c89f64a5349f7012bf342e57133cfb456511816f65f418b91b8d0677"), looks := true }, kinds := [], alts := [], laidByText := true, laidKinds := [.data, .data, .data, .data, .sentinel, .sentinel, .pinned], laidTests := true, laidLooks := .later }
def FnExactAtomReadCardSaid : Prop := Claim7.holds Tryz.pinned (.plain (OpenSpec.ofChange fnExactAtomReadSpec)) fnExactAtomReadCard

/-- THE SECOND FORM's CARD OF 'laws.FnExactLitRead'. -/
def fnExactLitReadUptoCard : Claim7 := { stood := { row := fnExactLitReadUptoRow, standIns := [], harness := (true, "1cab01f7c89f64a5349f7012bf342e57133cfb456511816f65f418b91b8d0677"), looks := true }, kinds := [], alts := [], laidByText := true, laidKinds := [.data, .data, .data, .data, .sentinel, .sentinel, .pinned], laidTests := true, laidLooks := .later }
def FnExactLitReadUptoCardSaid : Prop := Claim7.holds Tryz.pinned (.plain (OpenSpec.upto fnExactLitReadSpec)) fnExactLitReadUptoCard

/-- THE SECOND FORM's CARD OF 'laws.FnExactAtomRead'. -/
def fnExactAtomReadUptoCard : Claim7 := { stood := { row := fnExactAtomReadUptoRow, standIns := [], harness := (true, "1cab01f7c89f64a5349f7012bf342e57133cfb456511816f65f418b91b8d0677"), looks := true }, kinds := [], alts := [], laidByText := true, laidKinds := [.data, .data, .data, .data, .sentinel, .sentinel, .pinned], laidTests := true, laidLooks := .later }
def FnExactAtomReadUptoCardSaid : Prop := Claim7.holds Tryz.pinned (.plain (OpenSpec.upto fnExactAtomReadSpec)) fnExactAtomReadUptoCard
end Rows
end Go.Proofs.YtfgchlkagiihnaaGreatDoor
