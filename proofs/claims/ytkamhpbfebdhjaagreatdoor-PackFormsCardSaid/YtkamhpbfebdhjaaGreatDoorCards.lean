/-
  DERIVED. GIVEN WITH THE SEED: THE CARDS: each row of YtkamhpbfebdhjaaGreatDoorRows.lean that lists a variable, with what it lists TIED to the program's text (the seventh form; the later family's looks); each row that meets fmt, with fmt's text TOLD by the authors' own Lean function (tested against real Go, not proved from fmt's source: count such statements apart). THE CARD IS WHAT COUNTS. Prove the row's statement (the work); the ties are given (YtkamhpbfebdhjaaGreatDoorTie.lean); close each card by the builder's one call (the guide's Derived/Test/ToyasCard.lean, 'card_holds'). Laid BY PROGRAM, IN A SANDBOX (cutbox-door.mjs). By AI agents, Wed Nov 11 2026. No macro, syntax, notation, axiom, sorry.
-/
import Derived.Test.YtkamhpbfebdhjaaGreatDoorRows
import GoSem.ClaimSeven
namespace Go.Proofs.YtkamhpbfebdhjaaGreatDoor
namespace Rows

/-- THE TIED CARD OF 'minuetlaw17.PackForms'. -/
def packFormsCard : Claim7 := { stood := { row := packFormsRow, standIns := [], harness := (true, "27b78092083caeb43aa32abe33e69891e8a3e481ba4482b30fee30d8d21e65d9"), looks := true }, kinds := [], alts := [], laidByText := true, laidKinds := [.data, .data, .data, .sentinel, .sentinel], laidTests := true, laidLooks := .later }
def PackFormsCardSaid : Prop := Claim7.holds Tryz.pinned (.plain (OpenSpec.ofChange packFormsSpec)) packFormsCard

/-- THE SECOND FORM's CARD OF 'minuetlaw17.PackForms'. -/
def packFormsUptoCard : Claim7 := { stood := { row := packFormsUptoRow, standIns := [], harness := (true, "27b78092083caeb43aa32abe33e69891e8a3e481ba4482b30fee30d8d21e65d9"), looks := true }, kinds := [], alts := [], laidByText := true, laidKinds := [.data, .data, .data, .sentinel, .sentinel], laidTests := true, laidLooks := .later }
def PackFormsUptoCardSaid : Prop := Claim7.holds Tryz.pinned (.plain (OpenSpec.upto packFormsSpec)) packFormsUptoCard
end Rows
end Go.Proofs.YtkamhpbfebdhjaaGreatDoor
