/-
  DERIVED. GIVEN WITH THE SEED: THE CARDS: each row of YtjeamfoicpgkhaaGreatDoorRows.lean that lists a variable, with what it lists TIED to the program's text (the seventh form; the later family's looks); each row that meets fmt, with fmt's text TOLD by the authors' own Lean function (tested against real Go, not proved from fmt's source: count such statements apart). THE CARD IS WHAT COUNTS. Prove the row's statement (the work); the ties are given (YtjeamfoicpgkhaaGreatDoorTie.lean); close each card by the builder's one call (the guide's Derived/Test/ToyasCard.lean, 'card_holds'). Laid BY PROGRAM, IN A SANDBOX (cutbox-door.mjs). By AI agents, Wed Nov 11 2026. No macro, syntax, notation, axiom, sorry.
-/
import Derived.Test.YtjeamfoicpgkhaaGreatDoorRows
import GoSem.ClaimSeven
namespace Go.Proofs.YtjeamfoicpgkhaaGreatDoor
namespace Rows

/-- THE TIED CARD OF 'minuetlaw17.Packs'. -/
def packsCard : Claim7 := { stood := { row := packsRow, standIns := [], harness := (true, "1327405dd43877b683eef4ad0ef24df187d03ffc23969355dd4d6b3566403e14"), looks := true }, kinds := [], alts := [], laidByText := true, laidKinds := [.data, .data, .data, .sentinel, .sentinel], laidTests := true, laidLooks := .later }
def PacksCardSaid : Prop := Claim7.holds Tryz.pinned (.plain (OpenSpec.ofChange packsSpec)) packsCard

/-- THE TIED CARD OF 'minuetlaw17.PackBack'. -/
def packBackCard : Claim7 := { stood := { row := packBackRow, standIns := [], harness := (true, "1327405dd43877b683eef4ad0ef24df187d03ffc23969355dd4d6b3566403e14"), looks := true }, kinds := [], alts := [], laidByText := true, laidKinds := [.data, .data, .data, .sentinel, .sentinel], laidTests := true, laidLooks := .later }
def PackBackCardSaid : Prop := Claim7.holds Tryz.pinned (.plain (OpenSpec.ofChange packBackSpec)) packBackCard

/-- THE TIED CARD OF 'minuetlaw17.PackForms'. -/
def packFormsCard : Claim7 := { stood := { row := packFormsRow, standIns := [], harness := (true, "1327405dd43877b683eef4ad0ef24df187d03ffc23969355dd4d6b3566403e14"), looks := true }, kinds := [], alts := [], laidByText := true, laidKinds := [.data, .data, .data, .sentinel, .sentinel], laidTests := true, laidLooks := .later }
def PackFormsCardSaid : Prop := Claim7.holds Tryz.pinned (.plain (OpenSpec.ofChange packFormsSpec)) packFormsCard

/-- THE TIED CARD OF 'minuetlaw17.PackCuts'. -/
def packCutsCard : Claim7 := { stood := { row := packCutsRow, standIns := [], harness := (true, "1327405dd43877b683eef4ad0ef24df187d03ffc23969355dd4d6b3566403e14"), looks := true }, kinds := [], alts := [], laidByText := true, laidKinds := [.data, .data, .data, .sentinel, .sentinel], laidTests := true, laidLooks := .later }
def PackCutsCardSaid : Prop := Claim7.holds Tryz.pinned (.plain (OpenSpec.ofChange packCutsSpec)) packCutsCard

/-- THE TIED CARD OF 'minuetlaw18.Frames'. -/
def framesCard : Claim7 := { stood := { row := framesRow, standIns := [], harness := (true, "1327405dd43877b683eef4ad0ef24df187d03ffc23969355dd4d6b3566403e14"), looks := true }, kinds := [], alts := [], laidByText := true, laidKinds := [.data, .data, .data, .sentinel, .sentinel], laidTests := true, laidLooks := .later }
def FramesCardSaid : Prop := Claim7.holds Tryz.pinned (.plain (OpenSpec.ofChange framesSpec)) framesCard

/-- THE TIED CARD OF 'minuetlaw18.FrameTurned'. -/
def frameTurnedCard : Claim7 := { stood := { row := frameTurnedRow, standIns := [], harness := (true, "1327405dd43877b683eef4ad0ef24df187d03ffc23969355dd4d6b3566403e14"), looks := true }, kinds := [], alts := [], laidByText := true, laidKinds := [.data, .data, .data, .sentinel, .sentinel], laidTests := true, laidLooks := .later }
def FrameTurnedCardSaid : Prop := Claim7.holds Tryz.pinned (.plain (OpenSpec.ofChange frameTurnedSpec)) frameTurnedCard

/-- THE TIED CARD OF 'minuetlaw18.FrameForms'. -/
def frameFormsCard : Claim7 := { stood := { row := frameFormsRow, standIns := [], harness := (true, "1327405dd43877b683eef4ad0ef24df187d03ffc23969355dd4d6b3566403e14"), looks := true }, kinds := [], alts := [], laidByText := true, laidKinds := [.data, .data, .data, .sentinel, .sentinel], laidTests := true, laidLooks := .later }
def FrameFormsCardSaid : Prop := Claim7.holds Tryz.pinned (.plain (OpenSpec.ofChange frameFormsSpec)) frameFormsCard

/-- THE TIED CARD OF 'minuetlaw18.FrameUnlike'. -/
def frameUnlikeCard : Claim7 := { stood := { row := frameUnlikeRow, standIns := [], harness := (true, "1327405dd43877b683eef4ad0ef24df187d03ffc23969355dd4d6b3566403e14"), looks := true }, kinds := [], alts := [], laidByText := true, laidKinds := [.data, .data, .data, .sentinel, .sentinel], laidTests := true, laidLooks := .later }
def FrameUnlikeCardSaid : Prop := Claim7.holds Tryz.pinned (.plain (OpenSpec.ofChange frameUnlikeSpec)) frameUnlikeCard

/-- THE SECOND FORM's CARD OF 'minuetlaw17.Packs'. -/
def packsUptoCard : Claim7 := { stood := { row := packsUptoRow, standIns := [], harness := (true, "1327405dd43877b683eef4ad0ef24df187d03ffc23969355dd4d6b3566403e14"), looks := true }, kinds := [], alts := [], laidByText := true, laidKinds := [.data, .data, .data, .sentinel, .sentinel], laidTests := true, laidLooks := .later }
def PacksUptoCardSaid : Prop := Claim7.holds Tryz.pinned (.plain (OpenSpec.upto packsSpec)) packsUptoCard

/-- THE SECOND FORM's CARD OF 'minuetlaw17.PackBack'. -/
def packBackUptoCard : Claim7 := { stood := { row := packBackUptoRow, standIns := [], harness := (true, "1327405dd43877b683eef4ad0ef24df187d03ffc23969355dd4d6b3566403e14"), looks := true }, kinds := [], alts := [], laidByText := true, laidKinds := [.data, .data, .data, .sentinel, .sentinel], laidTests := true, laidLooks := .later }
def PackBackUptoCardSaid : Prop := Claim7.holds Tryz.pinned (.plain (OpenSpec.upto packBackSpec)) packBackUptoCard

/-- THE SECOND FORM's CARD OF 'minuetlaw17.PackForms'. -/
def packFormsUptoCard : Claim7 := { stood := { row := packFormsUptoRow, standIns := [], harness := (true, "1327405dd43877b683eef4ad0ef24df187d03ffc23969355dd4d6b3566403e14"), looks := true }, kinds := [], alts := [], laidByText := true, laidKinds := [.data, .data, .data, .sentinel, .sentinel], laidTests := true, laidLooks := .later }
def PackFormsUptoCardSaid : Prop := Claim7.holds Tryz.pinned (.plain (OpenSpec.upto packFormsSpec)) packFormsUptoCard

/-- THE SECOND FORM's CARD OF 'minuetlaw17.PackCuts'. -/
def packCutsUptoCard : Claim7 := { stood := { row := packCutsUptoRow, standIns := [], harness := (true, "1327405dd43877b683eef4ad0ef24df187d03ffc23969355dd4d6b3566403e14"), looks := true }, kinds := [], alts := [], laidByText := true, laidKinds := [.data, .data, .data, .sentinel, .sentinel], laidTests := true, laidLooks := .later }
def PackCutsUptoCardSaid : Prop := Claim7.holds Tryz.pinned (.plain (OpenSpec.upto packCutsSpec)) packCutsUptoCard

/-- THE SECOND FORM's CARD OF 'minuetlaw18.Frames'. -/
def framesUptoCard : Claim7 := { stood := { row := framesUptoRow, standIns := [], harness := (true, "1327405dd43877b683eef4ad0ef24df187d03ffc23969355dd4d6b3566403e14"), looks := true }, kinds := [], alts := [], laidByText := true, laidKinds := [.data, .data, .data, .sentinel, .sentinel], laidTests := true, laidLooks := .later }
def FramesUptoCardSaid : Prop := Claim7.holds Tryz.pinned (.plain (OpenSpec.upto framesSpec)) framesUptoCard

/-- THE SECOND FORM's CARD OF 'minuetlaw18.FrameTurned'. -/
def frameTurnedUptoCard : Claim7 := { stood := { row := frameTurnedUptoRow, standIns := [], harness := (true, "1327405dd43877b683eef4ad0ef24df187d03ffc23969355dd4d6b3566403e14"), looks := true }, kinds := [], alts := [], laidByText := true, laidKinds := [.data, .data, .data, .sentinel, .sentinel], laidTests := true, laidLooks := .later }
def FrameTurnedUptoCardSaid : Prop := Claim7.holds Tryz.pinned (.plain (OpenSpec.upto frameTurnedSpec)) frameTurnedUptoCard

/-- THE SECOND FORM's CARD OF 'minuetlaw18.FrameForms'. -/
def frameFormsUptoCard : Claim7 := { stood := { row := frameFormsUptoRow, standIns := [], harness := (true, "1327405dd43877b683eef4ad0ef24df187d03ffc23969355dd4d6b3566403e14"), looks := true }, kinds := [], alts := [], laidByText := true, laidKinds := [.data, .data, .data, .sentinel, .sentinel], laidTests := true, laidLooks := .later }
def FrameFormsUptoCardSaid : Prop := Claim7.holds Tryz.pinned (.plain (OpenSpec.upto frameFormsSpec)) frameFormsUptoCard

/-- THE SECOND FORM's CARD OF 'minuetlaw18.FrameUnlike'. -/
def frameUnlikeUptoCard : Claim7 := { stood := { row := frameUnlikeUptoRow, standIns := [], harness := (true, "1327405dd43877b683eef4ad0ef24df187d03ffc23969355dd4d6b3566403e14"), looks := true }, kinds := [], alts := [], laidByText := true, laidKinds := [.data, .data, .data, .sentinel, .sentinel], laidTests := true, laidLooks := .later }
def FrameUnlikeUptoCardSaid : Prop := Claim7.holds Tryz.pinned (.plain (OpenSpec.upto frameUnlikeSpec)) frameUnlikeUptoCard
end Rows
end Go.Proofs.YtjeamfoicpgkhaaGreatDoor
