/- Plain laws of frames: unlike messages, and frames of which one byte was turned, that are cut or go on. -/
import Derived.Test.YtjeamfoicpgkhaaGreatDoorFrAwake
namespace Go.Proofs.YtjeamfoicpgkhaaGreatDoor.FrL
open Go.RowKit Go.Lib Go.Proofs.YtjeamfoicpgkhaaGreatDoor.Data Go.Proofs.YtjeamfoicpgkhaaGreatDoor.Take Go.Proofs.YtjeamfoicpgkhaaGreatDoor.Pk Go.Proofs.YtjeamfoicpgkhaaGreatDoor.May Go.Proofs.YtjeamfoicpgkhaaGreatDoor.Get Go.Proofs.YtjeamfoicpgkhaaGreatDoor.Fr Go.Proofs.YtjeamfoicpgkhaaGreatDoor.Frame Go.Proofs.YtjeamfoicpgkhaaGreatDoor.FrAwake
open Go.Proofs.YtjeamfoicpgkhaaGreatDoor.MayLen (putOk)
set_option linter.unusedVariables false
set_option linter.unusedSimpArgs false
theorem put_le {m : MsgD} (h : putOk m = true) : (putS m).length ≤ 1000000 := by
  unfold putOk at h
  rw [Bool.and_eq_true, decide_eq_true_eq] at h
  exact h.2
theorem frames_same {m k : MsgD} (hm : putOk m = true) (hk : putOk k = true) : wrapS (putS m) = wrapS (putS k) ↔ m = k :=
  ⟨fun h => saysF_one (l := wrapS (putS k)) ⟨hm, h⟩ ⟨hk, rfl⟩, fun h => by rw [h]⟩
theorem xor_ne {a x : UInt8} (h : x ≠ 0) : a ^^^ x ≠ a := by
  intro e
  apply h
  have : a ^^^ (a ^^^ x) = a ^^^ a := by rw [e]
  rwa [← UInt8.xor_assoc, UInt8.xor_self, UInt8.zero_xor] at this
theorem turned {m : MsgD} (hm : putOk m = true) {i : Nat} (hi : i < (wrapS (putS m)).length) {x : UInt8} (hx : x ≠ 0) (k : MsgD) : ¬ SaysF k ((wrapS (putS m)).set i ((wrapS (putS m)).getD i 0 ^^^ x)) := by
  intro h
  refine turned_none (put_le hm) hi (c := (wrapS (putS m)).getD i 0 ^^^ x) ?_ h.2.symm
  rw [List.getD_eq_getElem?_getD, List.getElem?_eq_getElem hi]
  exact xor_ne hx
theorem cut {m : MsgD} (hm : putOk m = true) {i : Nat} (hi : i < (wrapS (putS m)).length) (k : MsgD) : ¬ SaysF k ((wrapS (putS m)).take i) := by
  intro h
  have h1 := List.take_append_drop i (wrapS (putS m))
  rw [← h.2] at h1
  have h2 := wrap_ends (put_short h.1) (put_short hm) h1
  rw [List.drop_eq_nil_iff] at h2
  omega
theorem more {m : MsgD} (hm : putOk m = true) (x : UInt8) (k : MsgD) : ¬ SaysF k (wrapS (putS m) ++ [x]) := by
  intro h
  have h2 := wrap_ends (put_short hm) (put_short h.1) h.2.symm
  cases h2
end Go.Proofs.YtjeamfoicpgkhaaGreatDoor.FrL
