/- FrameUnlike and FrameTurned, from a row's premises. -/
import Derived.Test.YtjeamfoicpgkhaaGreatDoorMsgOpen
import Derived.Test.YtjeamfoicpgkhaaGreatDoorFrUnlike
import Derived.Test.YtjeamfoicpgkhaaGreatDoorFrTurned
namespace Go.Proofs.YtjeamfoicpgkhaaGreatDoor.FrRows
open Go.RowKit Go.Proofs.YtjeamfoicpgkhaaGreatDoor.Mem Go.Proofs.YtjeamfoicpgkhaaGreatDoor.Data Go.Proofs.YtjeamfoicpgkhaaGreatDoor.Env Go.Proofs.YtjeamfoicpgkhaaGreatDoor.MsgOpen
set_option linter.unusedVariables false
theorem FrameTurned_fin (a b : Int) (W : World) (v : Value) (m : MsgD) (hx : MsgV W m v) (hE : Env W) :
    Calls Tryz.prog 8 #[v, .int .i64 a, .int .i64 b] W fun e w' => e = .returned (.bool true) ∧ Below W.heap.size W w' := by
  obtain ⟨ev, env, nv, rfl, hm, hr⟩ := hx
  exact (FrTurned.Turned_any W m ev env nv a b hm hr hE).mono fun e w' h => ⟨h.1, h.2.below⟩
theorem FrameUnlike_fin (W : World) (v : Value) (m : MsgD) (hx : MsgV W m v) (v' : Value) (m' : MsgD) (hx' : MsgV W m' v') (hE : Env W) :
    Calls Tryz.prog 10 #[v, v'] W fun e w' => e = .returned (.bool true) ∧ Below W.heap.size W w' := by
  obtain ⟨ev, env, nv, rfl, hm, hr⟩ := hx
  obtain ⟨ev', env', nv', rfl, hm', hr'⟩ := hx'
  exact (FrUnlike.Unlike_any W m m' ev env nv ev' env' nv' hm hm' hr hr' hE).mono fun e w' h => ⟨h.1, h.2.below⟩
end Go.Proofs.YtjeamfoicpgkhaaGreatDoor.FrRows
