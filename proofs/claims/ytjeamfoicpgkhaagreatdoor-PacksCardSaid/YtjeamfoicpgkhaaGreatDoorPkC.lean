/- Small facts of texts, for the laws on messages. -/
import Derived.Test.YtjeamfoicpgkhaaGreatDoorPkAwake
import Derived.Test.YtjeamfoicpgkhaaGreatDoorLumpA
namespace Go.Proofs.YtjeamfoicpgkhaaGreatDoor.PkC
open Go.RowKit Go.Lib Go.Proofs.YtjeamfoicpgkhaaGreatDoor.Mem Go.Proofs.YtjeamfoicpgkhaaGreatDoor.Read Go.Proofs.YtjeamfoicpgkhaaGreatDoor.Tree Go.Proofs.YtjeamfoicpgkhaaGreatDoor.Data Go.Proofs.YtjeamfoicpgkhaaGreatDoor.Env Go.Proofs.YtjeamfoicpgkhaaGreatDoor.Take Go.Proofs.YtjeamfoicpgkhaaGreatDoor.Pk Go.Proofs.YtjeamfoicpgkhaaGreatDoor.MsgR Go.Proofs.YtjeamfoicpgkhaaGreatDoor.CompR Go.Proofs.YtjeamfoicpgkhaaGreatDoor.May Go.Proofs.YtjeamfoicpgkhaaGreatDoor.TakeM Go.Proofs.YtjeamfoicpgkhaaGreatDoor.Get Go.Proofs.YtjeamfoicpgkhaaGreatDoor.PkL Go.Proofs.YtjeamfoicpgkhaaGreatDoor.PkAwake Go.Proofs.YtjeamfoicpgkhaaGreatDoor.Same
open Go.Proofs.YtjeamfoicpgkhaaGreatDoor.MayLen (putOk)
set_option linter.unusedVariables false
set_option linter.unusedSimpArgs false
theorem ext_take (l : List UInt8) (i : Nat) : (⟨l.toArray⟩ : ByteArray).extract 0 i = ⟨(l.take i).toArray⟩ := by
  apply ByteArray.ext
  simp [ByteArray.data_extract]
theorem cat_list (a b : List UInt8) : (⟨a.toArray⟩ : ByteArray) ++ ⟨b.toArray⟩ = ⟨(a ++ b).toArray⟩ := by
  apply ByteArray.ext
  simp [ByteArray.data_append]
theorem put_le {m : MsgD} (h : putOk m = true) : (putS m).length ≤ 1000000 := by
  unfold putOk at h
  rw [Bool.and_eq_true, decide_eq_true_eq] at h
  exact h.2
theorem zM_msg (w : World) : MsgR w zM zV zV zV := empty_msg _ _ rfl rfl rfl (Nat.zero_le _)
end Go.Proofs.YtjeamfoicpgkhaaGreatDoor.PkC
