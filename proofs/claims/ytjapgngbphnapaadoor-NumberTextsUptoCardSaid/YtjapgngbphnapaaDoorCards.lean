/-
  DERIVED. GIVEN WITH THE SEED: THE CARDS: each row of YtjapgngbphnapaaDoorRows.lean that lists a variable, with what it lists TIED to the program's text (the seventh form; the later family's looks); each row that meets fmt, with fmt's text TOLD by the authors' own Lean function (tested against real Go, not proved from fmt's source: count such statements apart). THE CARD IS WHAT COUNTS. Prove the row's statement (the work); the ties are given (YtjapgngbphnapaaDoorTie.lean); close each card by the builder's one call (the guide's Derived/Test/ToyasCard.lean, 'card_holds'). Laid BY PROGRAM, IN A SANDBOX (cutbox-door.mjs). By AI agents, Wed Nov 11 2026. No macro, syntax, notation, axiom, sorry.
-/
import Derived.Test.YtjapgngbphnapaaDoorRows
import GoSem.ClaimSeven
namespace Go.Proofs.YtjapgngbphnapaaDoor
namespace Rows

/-- THE TIED CARD OF 'credenzalaw10.NumberTexts'. -/
def numberTextsCard : Claim7 := { stood := { row := numberTextsRow, standIns := [], harness := (true, "1b3aff427019c7a4c5f344895d76546c9f296442f92ceb371749df8c651c78fb"), looks := true }, kinds := [], alts := [], laidByText := true, laidKinds := [.data, .data, .data, .sentinel, .sentinel], laidTests := true, laidLooks := .later }
def NumberTextsCardSaid : Prop := Claim7.holds Tryd.pinned (.plain (OpenSpec.ofChange numberTextsSpec)) numberTextsCard

/-- THE TIED CARD OF 'credenzalaw10.NumberSpreads'. -/
def numberSpreadsCard : Claim7 := { stood := { row := numberSpreadsRow, standIns := [], harness := (true, "1b3aff427019c7a4c5f344895d76546c9f296442f92ceb371749df8c651c78fb"), looks := true }, kinds := [], alts := [], laidByText := true, laidKinds := [.data, .data, .data, .sentinel, .sentinel], laidTests := true, laidLooks := .later }
def NumberSpreadsCardSaid : Prop := Claim7.holds Tryd.pinned (.plain (OpenSpec.ofChange numberSpreadsSpec)) numberSpreadsCard

/-- THE TIED CARD OF 'credenzalaw10.NumberBack'. -/
def numberBackCard : Claim7 := { stood := { row := numberBackRow, standIns := [], harness := (true, "1b3aff427019c7a4c5f344895d76546c9f296442f92ceb371749df8c651c78fb"), looks := true }, kinds := [], alts := [], laidByText := true, laidKinds := [.data, .data, .data, .sentinel, .sentinel], laidTests := true, laidLooks := .later }
def NumberBackCardSaid : Prop := Claim7.holds Tryd.pinned (.plain (OpenSpec.ofChange numberBackSpec)) numberBackCard

/-- THE SECOND FORM's CARD OF 'credenzalaw10.NumberTexts'. -/
def numberTextsUptoCard : Claim7 := { stood := { row := numberTextsUptoRow, standIns := [], harness := (true, "1b3aff427019c7a4c5f344895d76546c9f296442f92ceb371749df8c651c78fb"), looks := true }, kinds := [], alts := [], laidByText := true, laidKinds := [.data, .data, .data, .sentinel, .sentinel], laidTests := true, laidLooks := .later }
def NumberTextsUptoCardSaid : Prop := Claim7.holds Tryd.pinned (.plain (OpenSpec.upto numberTextsSpec)) numberTextsUptoCard

/-- THE SECOND FORM's CARD OF 'credenzalaw10.NumberSpreads'. -/
def numberSpreadsUptoCard : Claim7 := { stood := { row := numberSpreadsUptoRow, standIns := [], harness := (true, "1b3aff427019c7a4c5f344895d76546c9f296442f92ceb371749df8c651c78fb"), looks := true }, kinds := [], alts := [], laidByText := true, laidKinds := [.data, .data, .data, .sentinel, .sentinel], laidTests := true, laidLooks := .later }
def NumberSpreadsUptoCardSaid : Prop := Claim7.holds Tryd.pinned (.plain (OpenSpec.upto numberSpreadsSpec)) numberSpreadsUptoCard

/-- THE SECOND FORM's CARD OF 'credenzalaw10.NumberBack'. -/
def numberBackUptoCard : Claim7 := { stood := { row := numberBackUptoRow, standIns := [], harness := (true, "1b3aff427019c7a4c5f344895d76546c9f296442f92ceb371749df8c651c78fb"), looks := true }, kinds := [], alts := [], laidByText := true, laidKinds := [.data, .data, .data, .sentinel, .sentinel], laidTests := true, laidLooks := .later }
def NumberBackUptoCardSaid : Prop := Claim7.holds Tryd.pinned (.plain (OpenSpec.upto numberBackSpec)) numberBackUptoCard
end Rows
end Go.Proofs.YtjapgngbphnapaaDoor
