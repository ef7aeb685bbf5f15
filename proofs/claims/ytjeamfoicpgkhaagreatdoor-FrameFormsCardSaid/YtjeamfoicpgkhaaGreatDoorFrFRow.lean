/- FrameForms, from a row's premises. -/
import Derived.Test.YtjeamfoicpgkhaaGreatDoorFrForms
namespace Go.Proofs.YtjeamfoicpgkhaaGreatDoor.FrFRow
open Go.RowKit Go.Proofs.YtjeamfoicpgkhaaGreatDoor.Mem Go.Proofs.YtjeamfoicpgkhaaGreatDoor.Env
set_option linter.unusedVariables false
theorem FrameForms_fin (a b : Int) (W : World) (hE : Env W) : Calls Tryz.prog 9 #[.int .i64 a, .int .i64 b] W fun e w' => e = .returned (.bool true) ∧ Below W.heap.size W w' :=
  (FrForms.Forms_any W a b hE).mono fun e w' h => ⟨h.1, h.2.below⟩
end Go.Proofs.YtjeamfoicpgkhaaGreatDoor.FrFRow
