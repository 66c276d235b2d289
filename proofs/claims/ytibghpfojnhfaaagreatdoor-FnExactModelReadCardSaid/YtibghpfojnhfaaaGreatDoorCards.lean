/-
  DERIVED. GIVEN WITH THE SEED: THE CARDS: each row of YtibghpfojnhfaaaGreatDoorRows.lean that lists a variable, with what it lists TIED to the program's text (the seventh form; the later family's looks); each row that meets fmt, with fmt's text TOLD by the authors' own Lean function (tested against real Go, not proved from fmt's source: count such statements apart). THE CARD IS WHAT COUNTS. Prove the row's statement (the work); the ties are given (YtibghpfojnhfaaaGreatDoorTie.lean); close each card by the builder's one call (the guide's Derived/Test/ToyasCard.lean, 'card_holds'). Laid BY PROGRAM, IN A SANDBOX (cutbox-door.mjs). By AI agents, Wed Nov 11 2026. No macro, syntax, notation, axiom, sorry.
-/
import Derived.Test.YtibghpfojnhfaaaGreatDoorRows
import GoSem.ClaimSeven
namespace Go.Proofs.YtibghpfojnhfaaaGreatDoor
namespace Rows

/-- THE TIED CARD OF 'laws.FnExactLitRead'. -/
def fnExactLitReadCard : Claim7 := { stood := { row := fnExactLitReadRow, standIns := [], harness := (true, "fcd4e78791ce48845af9ce1695543383caccc6f9b9dd578cfc65ef777ffc54b2"), looks := true }, kinds := [], alts := [], laidByText := true, laidKinds := [.data, .data, .data, .data, .sentinel, .sentinel, .pinned], laidTests := true, laidLooks := .later }
def FnExactLitReadCardSaid : Prop := Claim7.holds Tryz.pinned (.plain (OpenSpec.ofChange fnExactLitReadSpec)) fnExactLitReadCard

/-- THE TIED CARD OF 'laws.FnAtomText'. -/
def fnAtomTextCard : Claim7 := { stood := { row := fnAtomTextRow, standIns := [], harness := (true, "fcd4e78791ce48845af9ce1695543383caccc6f9b9dd578cfc65ef777ffc54b2"), looks := true }, kinds := [], alts := [], laidByText := true, laidKinds := [.data, .data, .data, .data, .sentinel, .sentinel, .pinned], laidTests := true, laidLooks := .later }
def FnAtomTextCardSaid : Prop := Claim7.holds Tryz.pinned (.plain (OpenSpec.ofChange fnAtomTextSpec)) fnAtomTextCard

/-- THE TIED CARD OF 'laws.FnLitText'. -/
def fnLitTextCard : Claim7 := { stood := { row := fnLitTextRow, standIns := [], harness := (true, "fcd4e78791ce48845af9ce1695543383caccc6f9b9dd578cfc65ef777ffc54b2"), looks := true }, kinds := [], alts := [], laidByText := true, laidKinds := [.data, .data, .data, .data, .sentinel, .sentinel, .pinned], laidTests := true, laidLooks := .later }
def FnLitTextCardSaid : Prop := Claim7.holds Tryz.pinned (.plain (OpenSpec.ofChange fnLitTextSpec)) fnLitTextCard

/-- THE TIED CARD OF 'laws.FnExactModelRead'. -/
def fnExactModelReadCard : Claim7 := { stood := { row := fnExactModelReadRow, standIns := [], harness := (true, "fcd4e78791ce48845af9ce1695543383caccc6f9b9dd578cfc65ef777ffc54b2"), looks := true }, kinds := [], alts := [], laidByText := true, laidKinds := [.data, .data, .data, .data, .sentinel, .sentinel, .pinned], laidTests := true, laidLooks := .later }
def FnExactModelReadCardSaid : Prop := Claim7.holds Tryz.pinned (.plain (OpenSpec.ofChange fnExactModelReadSpec)) fnExactModelReadCard

/-- THE TIED CARD OF 'laws.FnExactAtomRead'. -/
def fnExactAtomReadCard : Claim7 := { stood := { row := fnExactAtomReadRow, standIns := [], harness := (true, "fcd4e78791ce48845af9ce1695543383caccc6f9b9dd578cfc65ef777ffc54b2"), looks := true }, kinds := [], alts := [], laidByText := true, laidKinds := [.data, .data, .data, .data, .sentinel, .sentinel, .pinned], laidTests := true, laidLooks := .later }
def FnExactAtomReadCardSaid : Prop := Claim7.holds Tryz.pinned (.plain (OpenSpec.ofChange fnExactAtomReadSpec)) fnExactAtomReadCard

/-- THE TIED CARD OF 'laws.FnModelText'. -/
def fnModelTextCard : Claim7 := { stood := { row := fnModelTextRow, standIns := [], harness := (true, "fcd4e78791ce48845af9ce1695543383caccc6f9b9dd578cfc65ef777ffc54b2"), looks := true }, kinds := [], alts := [], laidByText := true, laidKinds := [.data, .data, .data, .data, .sentinel, .sentinel, .pinned], laidTests := true, laidLooks := .later }
def FnModelTextCardSaid : Prop := Claim7.holds Tryz.pinned (.plain (OpenSpec.ofChange fnModelTextSpec)) fnModelTextCard

/-- THE SECOND FORM's CARD OF 'laws.FnExactLitRead'. -/
def fnExactLitReadUptoCard : Claim7 := { stood := { row := fnExactLitReadUptoRow, standIns := [], harness := (true, "fcd4e78791ce48845af9ce1695543383caccc6f9b9dd578cfc65ef777ffc54b2"), looks := true }, kinds := [], alts := [], laidByText := true, laidKinds := [.data, .data, .data, .data, .sentinel, .sentinel, .pinned], laidTests := true, laidLooks := .later }
def FnExactLitReadUptoCardSaid : Prop := Claim7.holds Tryz.pinned (.plain (OpenSpec.upto fnExactLitReadSpec)) fnExactLitReadUptoCard

/-- THE SECOND FORM's CARD OF 'laws.FnAtomText'. -/
def fnAtomTextUptoCard : Claim7 := { stood := { row := fnAtomTextUptoRow, standIns := [], harness := (true, "fcd4e78791ce48845af9ce1695543383caccc6f9b9dd578cfc65ef777ffc54b2"), looks := true }, kinds := [], alts := [], laidByText := true, laidKinds := [.data, .data, .data, .data, .sentinel, .sentinel, .pinned], laidTests := true, laidLooks := .later }
def FnAtomTextUptoCardSaid : Prop := Claim7.holds Tryz.pinned (.plain (OpenSpec.upto fnAtomTextSpec)) fnAtomTextUptoCard

/-- THE SECOND FORM's CARD OF 'laws.FnLitText'. -/
def fnLitTextUptoCard : Claim7 := { stood := { row := fnLitTextUptoRow, standIns := [], harness := (true, "fcd4e78791ce48845af9ce1695543383caccc6f9b9dd578cfc65ef777ffc54b2"), looks := true }, kinds := [], alts := [], laidByText := true, laidKinds := [.data, .data, .data, .data, .sentinel, .sentinel, .pinned], laidTests := true, laidLooks := .later }
def FnLitTextUptoCardSaid : Prop := Claim7.holds Tryz.pinned (.plain (OpenSpec.upto fnLitTextSpec)) fnLitTextUptoCard

/-- THE SECOND FORM's CARD OF 'laws.FnExactModelRead'. -/
def fnExactModelReadUptoCard : Claim7 := { stood := { row := fnExactModelReadUptoRow, standIns := [], harness := (true, "fcd4e78791ce48845af9ce1695543383caccc6f9b9dd578cfc65ef777ffc54b2"), looks := true }, kinds := [], alts := [], laidByText := true, laidKinds := [.data, .data, .data, .data, .sentinel, .sentinel, .pinned], laidTests := true, laidLooks := .later }
def FnExactModelReadUptoCardSaid : Prop := Claim7.holds Tryz.pinned (.plain (OpenSpec.upto fnExactModelReadSpec)) fnExactModelReadUptoCard

/-- THE SECOND FORM's CARD OF 'laws.FnExactAtomRead'. -/
def fnExactAtomReadUptoCard : Claim7 := { stood := { row := fnExactAtomReadUptoRow, standIns := [], harness := (true, "fcd4e78791ce48845af9ce1695543383caccc6f9b9dd578cfc65ef777ffc54b2"), looks := true }, kinds := [], alts := [], laidByText := true, laidKinds := [.data, .data, .data, .data, .sentinel, .sentinel, .pinned], laidTests := true, laidLooks := .later }
def FnExactAtomReadUptoCardSaid : Prop := Claim7.holds Tryz.pinned (.plain (OpenSpec.upto fnExactAtomReadSpec)) fnExactAtomReadUptoCard

/-- THE SECOND FORM's CARD OF 'laws.FnModelText'. -/
def fnModelTextUptoCard : Claim7 := { stood := { row := fnModelTextUptoRow, standIns := [], harness := (true, "fcd4e78791ce48845af9ce1695543383caccc6f9b9dd578cfc65ef777ffc54b2"), looks := true }, kinds := [], alts := [], laidByText := true, laidKinds := [.data, .data, .data, .data, .sentinel, .sentinel, .pinned], laidTests := true, laidLooks := .later }
def FnModelTextUptoCardSaid : Prop := Claim7.holds Tryz.pinned (.plain (OpenSpec.upto fnModelTextSpec)) fnModelTextUptoCard
end Rows
end Go.Proofs.YtibghpfojnhfaaaGreatDoor
