/- Rows of nodes of one's own, as they are read. -/
import Derived.Test.YtkamhpbfebdhjaaGreatDoorTr
namespace Go.Proofs.YtkamhpbfebdhjaaGreatDoor.TrR
open Go.RowKit Go.Lib Go.Proofs.YtkamhpbfebdhjaaGreatDoor.Mem Go.Proofs.YtkamhpbfebdhjaaGreatDoor.Read Go.Proofs.YtkamhpbfebdhjaaGreatDoor.Tree Go.Proofs.YtkamhpbfebdhjaaGreatDoor.Data Go.Proofs.YtkamhpbfebdhjaaGreatDoor.OwnR Go.Proofs.YtkamhpbfebdhjaaGreatDoor.Tr
set_option linter.unusedVariables false
set_option linter.unusedSimpArgs false
theorem ints_reads {base : Nat} {w : World} {xs : List Int} {v : Value} (h : IntsR base w xs v) : SlR 1 intR w xs v := by
  have h1 := RowO.reads (R := intR) (by decide) (fun a : Int => a) h (fun _ _ => rfl) (fun a _ => rfl)
  simpa using h1
theorem nodes_reads {base : Nat} {w : World} {ys : List (NodeD × Value)} {v : Value} (h : NodesW base w ys v) : NodesR w (ys.map (·.1)) v :=
  RowO.reads (R := nodeR) (by decide) (fun a : NodeD × Value => a.1) h (fun _ _ => rfl) (fun a ha => ⟨a.2, rfl, ints_reads (h.2.2 a ha)⟩)
end Go.Proofs.YtkamhpbfebdhjaaGreatDoor.TrR
