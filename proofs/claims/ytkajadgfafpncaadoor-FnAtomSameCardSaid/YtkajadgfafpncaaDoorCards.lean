/-
  DERIVED. GIVEN WITH THE SEED: THE CARDS: each row of YtkajadgfafpncaaDoorRows.lean that lists a variable, with what it lists TIED to the program's text (the seventh form; the later family's looks); each row that meets fmt, with fmt's text TOLD by the authors' own Lean function (tested against real Go, not proved from fmt's source: count such statements apart). THE CARD IS WHAT COUNTS. Prove the row's statement (the work); the ties are given (YtkajadgfafpncaaDoorTie.lean); close each card by the builder's one call (the guide's Derived/Test/ToyasCard.lean, 'card_holds'). Laid BY PROGRAM, IN A SANDBOX (cutbox-door.mjs). By AI agents, Wed Nov 11 2026. No macro, syntax, notation, axiom, sorry.
-/
import Derived.Test.YtkajadgfafpncaaDoorRows
import GoSem.ClaimSeven
namespace Go.Proofs.YtkajadgfafpncaaDoor
namespace Rows

/-- THE TIED CARD OF 'laws.FnExactAtomText'. -/
def fnExactAtomTextCard : Claim7 := { stood := { row := fnExactAtomTextRow, standIns := [], harness := (true, "cd8c37c564f92b9fb134e3e49029aa5558747c59e60af8301dde361a8ddd3305"), looks := false }, kinds := [], alts := [], laidByText := true, laidKinds := [.data, .data, .data], laidTests := true, laidLooks := .later }
def FnExactAtomTextCardSaid : Prop := Claim7.holds Tryd.pinned (.plain (OpenSpec.ofChange fnExactAtomTextSpec)) fnExactAtomTextCard

/-- THE TIED CARD OF 'laws.FnExactLitText'. -/
def fnExactLitTextCard : Claim7 := { stood := { row := fnExactLitTextRow, standIns := [], harness := (true, "cd8c37c564f92b9fb134e3e49029aa5558747c59e60af8301dde361a8ddd3305"), looks := false }, kinds := [], alts := [], laidByText := true, laidKinds := [.data, .data, .data], laidTests := true, laidLooks := .later }
def FnExactLitTextCardSaid : Prop := Claim7.holds Tryd.pinned (.plain (OpenSpec.ofChange fnExactLitTextSpec)) fnExactLitTextCard

/-- THE TIED CARD OF 'laws.FnAtomSame'. -/
def fnAtomSameCard : Claim7 := { stood := { row := fnAtomSameRow, standIns := [], harness := (true, "cd8c37c564f92b9fb134e3e49029aa5558747c59e60af8301dde361a8ddd3305"), looks := false }, kinds := [], alts := [], laidByText := true, laidKinds := [.data, .data, .data], laidTests := true, laidLooks := .later }
def FnAtomSameCardSaid : Prop := Claim7.holds Tryd.pinned (.plain (OpenSpec.ofChange fnAtomSameSpec)) fnAtomSameCard

/-- THE TIED CARD OF 'laws.FnExactLogText'. -/
def fnExactLogTextCard : Claim7 := { stood := { row := fnExactLogTextRow, standIns := [], harness := (true, "cd8c37c564f92b9fb134e3e49029aa5558747c59e60af8301dde361a8ddd3305"), looks := false }, kinds := [], alts := [], laidByText := true, laidKinds := [.data, .data, .data], laidTests := true, laidLooks := .later }
def FnExactLogTextCardSaid : Prop := Claim7.holds Tryd.pinned (.plain (OpenSpec.ofChange fnExactLogTextSpec)) fnExactLogTextCard

/-- THE TIED CARD OF 'laws.FnExactSigText'. -/
def fnExactSigTextCard : Claim7 := { stood := { row := fnExactSigTextRow, standIns := [], harness := (true, "cd8c37c564f92b9fb134e3e49029aa5558747c59e60af8301dde361a8ddd3305"), looks := false }, kinds := [], alts := [], laidByText := true, laidKinds := [.data, .data, .data], laidTests := true, laidLooks := .later }
def FnExactSigTextCardSaid : Prop := Claim7.holds Tryd.pinned (.plain (OpenSpec.ofChange fnExactSigTextSpec)) fnExactSigTextCard

/-- THE TIED CARD OF 'laws.FnExactModelText'. -/
def fnExactModelTextCard : Claim7 := { stood := { row := fnExactModelTextRow, standIns := [], harness := (true, "cd8c37c564f92b9fb134e3e49029aa5558747c59e60af8301dde361a8ddd3305"), looks := false }, kinds := [], alts := [], laidByText := true, laidKinds := [.data, .data, .data], laidTests := true, laidLooks := .later }
def FnExactModelTextCardSaid : Prop := Claim7.holds Tryd.pinned (.plain (OpenSpec.ofChange fnExactModelTextSpec)) fnExactModelTextCard

/-- THE SECOND FORM's CARD OF 'laws.FnExactAtomText'. -/
def fnExactAtomTextUptoCard : Claim7 := { stood := { row := fnExactAtomTextUptoRow, standIns := [], harness := (true, "cd8c37c564f92b9fb134e3e49029aa5558747c59e60af8301dde361a8ddd3305"), looks := false }, kinds := [], alts := [], laidByText := true, laidKinds := [.data, .data, .data], laidTests := true, laidLooks := .later }
def FnExactAtomTextUptoCardSaid : Prop := Claim7.holds Tryd.pinned (.plain (OpenSpec.upto fnExactAtomTextSpec)) fnExactAtomTextUptoCard

/-- THE SECOND FORM's CARD OF 'laws.FnExactLitText'. -/
def fnExactLitTextUptoCard : Claim7 := { stood := { row := fnExactLitTextUptoRow, standIns := [], harness := (true, "cd8c37c564f92b9fb134e3e49029aa5558747c59e60af8301dde361a8ddd3305"), looks := false }, kinds := [], alts := [], laidByText := true, laidKinds := [.data, .data, .data], laidTests := true, laidLooks := .later }
def FnExactLitTextUptoCardSaid : Prop := Claim7.holds Tryd.pinned (.plain (OpenSpec.upto fnExactLitTextSpec)) fnExactLitTextUptoCard

/-- THE SECOND FORM's CARD OF 'laws.FnAtomSame'. -/
def fnAtomSameUptoCard : Claim7 := { stood := { row := fnAtomSameUptoRow, standIns := [], harness := (true, "cd8c37c564f92b9fb134e3e49029aa5558747c59e60af8301dde361a8ddd3305"), looks := false }, kinds := [], alts := [], laidByText := true, laidKinds := [.data, .data, .data], laidTests := true, laidLooks := .later }
def FnAtomSameUptoCardSaid : Prop := Claim7.holds Tryd.pinned (.plain (OpenSpec.upto fnAtomSameSpec)) fnAtomSameUptoCard

/-- THE SECOND FORM's CARD OF 'laws.FnExactLogText'. -/
def fnExactLogTextUptoCard : Claim7 := { stood := { row := fnExactLogTextUptoRow, standIns := [], harness := (true, "cd8c37c564f92b9fb134e3e49029aa5558747c59e60af8301dde361a8ddd3305"), looks := false }, kinds := [], alts := [], laidByText := true, laidKinds := [.data, .data, .data], laidTests := true, laidLooks := .later }
def FnExactLogTextUptoCardSaid : Prop := Claim7.holds Tryd.pinned (.plain (OpenSpec.upto fnExactLogTextSpec)) fnExactLogTextUptoCard

/-- THE SECOND FORM's CARD OF 'laws.FnExactSigText'. -/
def fnExactSigTextUptoCard : Claim7 := { stood := { row := fnExactSigTextUptoRow, standIns := [], harness := (true, "cd8c37c564f92b9fb134e3e49029aa5558747c59e60af8301dde361a8ddd3305"), looks := false }, kinds := [], alts := [], laidByText := true, laidKinds := [.data, .data, .data], laidTests := true, laidLooks := .later }
def FnExactSigTextUptoCardSaid : Prop := Claim7.holds Tryd.pinned (.plain (OpenSpec.upto fnExactSigTextSpec)) fnExactSigTextUptoCard

/-- THE SECOND FORM's CARD OF 'laws.FnExactModelText'. -/
def fnExactModelTextUptoCard : Claim7 := { stood := { row := fnExactModelTextUptoRow, standIns := [], harness := (true, "cd8c37c564f92b9fb134e3e49029aa5558747c59e60af8301dde361a8ddd3305"), looks := false }, kinds := [], alts := [], laidByText := true, laidKinds := [.data, .data, .data], laidTests := true, laidLooks := .later }
def FnExactModelTextUptoCardSaid : Prop := Claim7.holds Tryd.pinned (.plain (OpenSpec.upto fnExactModelTextSpec)) fnExactModelTextUptoCard
end Rows
end Go.Proofs.YtkajadgfafpncaaDoor
