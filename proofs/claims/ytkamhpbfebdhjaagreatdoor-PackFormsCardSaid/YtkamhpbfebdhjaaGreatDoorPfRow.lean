/- PackForms, from a row's premises. -/
import Derived.Test.YtkamhpbfebdhjaaGreatDoorPfL
namespace Go.Proofs.YtkamhpbfebdhjaaGreatDoor.PfRow
open Go.RowKit Go.Proofs.YtkamhpbfebdhjaaGreatDoor.Mem Go.Proofs.YtkamhpbfebdhjaaGreatDoor.Env
set_option linter.unusedVariables false
theorem PackForms_fin (a b : Int) (W : World) (hE : Env W) : Calls Tryz.prog 3 #[.int .i64 a, .int .i64 b] W fun e w' => e = .returned (.bool true) ∧ Below W.heap.size W w' :=
  (PfL.Forms_any a b W hE).mono fun e w' h => ⟨h.1, h.2.below⟩
end Go.Proofs.YtkamhpbfebdhjaaGreatDoor.PfRow
