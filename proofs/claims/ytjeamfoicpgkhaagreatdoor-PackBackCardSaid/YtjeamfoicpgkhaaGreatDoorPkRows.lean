/- PackBack and PackCuts, from a row's premises. -/
import Derived.Test.YtjeamfoicpgkhaaGreatDoorMsgOpen
import Derived.Test.YtjeamfoicpgkhaaGreatDoorPkBack
import Derived.Test.YtjeamfoicpgkhaaGreatDoorPkCuts
namespace Go.Proofs.YtjeamfoicpgkhaaGreatDoor.PkRows
open Go.RowKit Go.Proofs.YtjeamfoicpgkhaaGreatDoor.Mem Go.Proofs.YtjeamfoicpgkhaaGreatDoor.Data Go.Proofs.YtjeamfoicpgkhaaGreatDoor.Env Go.Proofs.YtjeamfoicpgkhaaGreatDoor.MsgOpen
set_option linter.unusedVariables false
theorem PackBack_fin (a : ByteArray) (W : World) (ha : a.size ≤ 140737488351232) (v : Value) (m : MsgD) (hx : MsgV W m v) (hE : Env W) :
    Calls Tryz.prog 4 #[v, .string a] W fun e w' => e = .returned (.bool true) ∧ Below W.heap.size W w' := by
  obtain ⟨ev, env, nv, rfl, hm, hr⟩ := hx
  have h := PkBack.Back_any W m ev env nv a.data.toList (by rw [Array.length_toList]; exact ha) hm hr hE
  have e : (⟨a.data.toList.toArray⟩ : ByteArray) = a := by simp
  rw [e] at h
  exact h.mono fun e w' h => ⟨h.1, h.2.below⟩
theorem PackCuts_fin (a : Int) (W : World) (v : Value) (m : MsgD) (hx : MsgV W m v) (hE : Env W) :
    Calls Tryz.prog 6 #[v, .int .i64 a] W fun e w' => e = .returned (.bool true) ∧ Below W.heap.size W w' := by
  obtain ⟨ev, env, nv, rfl, hm, hr⟩ := hx
  exact (PkCuts.Cuts_any W m ev env nv a hm hr hE).mono fun e w' h => ⟨h.1, h.2.below⟩
end Go.Proofs.YtjeamfoicpgkhaaGreatDoor.PkRows
