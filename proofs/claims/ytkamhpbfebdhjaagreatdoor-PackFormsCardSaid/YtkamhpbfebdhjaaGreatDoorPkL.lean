/- Plain laws of messages' texts. -/
import Derived.Test.YtkamhpbfebdhjaaGreatDoorGet
namespace Go.Proofs.YtkamhpbfebdhjaaGreatDoor.PkL
open Go.RowKit Go.Lib Go.Proofs.YtkamhpbfebdhjaaGreatDoor.Data Go.Proofs.YtkamhpbfebdhjaaGreatDoor.Take Go.Proofs.YtkamhpbfebdhjaaGreatDoor.Pk Go.Proofs.YtkamhpbfebdhjaaGreatDoor.May Go.Proofs.YtkamhpbfebdhjaaGreatDoor.Get
open Go.Proofs.YtkamhpbfebdhjaaGreatDoor.MayLen (putOk)
set_option linter.unusedVariables false
set_option linter.unusedSimpArgs false
theorem saysP_one {m k : MsgD} {l : List UInt8} (h : SaysP m l) (h' : SaysP k l) : m = k := says_one h.says h'.says
theorem saysP_ne {m : MsgD} {l : List UInt8} (h : SaysP m l) : l ≠ [] := says_ne h.says
theorem cutP {m : MsgD} {l r : List UInt8} (h : SaysP m (l ++ r)) (hr : r ≠ []) (k : MsgD) : ¬ SaysP k l := fun h' => hr (says_ends h'.says h.says)
theorem moreP {m : MsgD} {l r : List UInt8} (h : SaysP m l) (hr : r ≠ []) (k : MsgD) : ¬ SaysP k (l ++ r) := fun h' => hr (says_ends h.says h'.says)
theorem cut_at {m : MsgD} {l : List UInt8} (h : SaysP m l) {i : Nat} (hi : i < l.length) (k : MsgD) : ¬ SaysP k (l.take i) :=
  cutP (m := m) (r := l.drop i) (by rw [List.take_append_drop]; exact h) (fun e => by rw [List.drop_eq_nil_iff] at e; omega) k
theorem rng_says {m : MsgD} {l : List UInt8} (h : SaysP m l) : ParMay.RngN m.tree.nodes := rng_n h.got
end Go.Proofs.YtkamhpbfebdhjaaGreatDoor.PkL
