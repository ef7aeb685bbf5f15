/- Frames, from a row's premises. -/
import Derived.Test.YtjeamfoicpgkhaaGreatDoorFrFrames
namespace Go.Proofs.YtjeamfoicpgkhaaGreatDoor.FrFRow2
open Go.RowKit Go.Proofs.YtjeamfoicpgkhaaGreatDoor.Mem Go.Proofs.YtjeamfoicpgkhaaGreatDoor.Data Go.Proofs.YtjeamfoicpgkhaaGreatDoor.Env Go.Proofs.YtjeamfoicpgkhaaGreatDoor.MsgOpen
set_option linter.unusedVariables false
theorem Frames_fin (a : ByteArray) (W : World) (ha : a.size ≤ 140737488351232) (v : Value) (m : MsgD) (hx : MsgVB W m v) (hE : Env W) :
    Calls Tryz.prog 7 #[v, .string a] W fun e w' => e = .returned (.bool true) ∧ Below W.heap.size W w' := by
  obtain ⟨ev, env, nv, rfl, hm, hr, hb⟩ := hx
  have h := FrFrames.Frames_any W m ev env nv a.data.toList (by rw [Array.length_toList]; exact ha) hm hr hb hE
  have e : (⟨a.data.toList.toArray⟩ : ByteArray) = a := by simp
  rw [e] at h
  exact h.mono fun e w' h => ⟨h.1, h.2.below⟩
end Go.Proofs.YtjeamfoicpgkhaaGreatDoor.FrFRow2
