/- The parser as plain functions: how great its states may be. Nothing of the program stands here. -/
import Derived.Test.YtkamhpbfebdhjaaGreatDoorParS
namespace Go.Proofs.YtkamhpbfebdhjaaGreatDoor.ParG
open Go.Proofs.YtkamhpbfebdhjaaGreatDoor.Tree Go.Proofs.YtkamhpbfebdhjaaGreatDoor.Data Go.Proofs.YtkamhpbfebdhjaaGreatDoor.ParS
set_option linter.unusedVariables false
/-- A state within bounds. -/
structure Fine (T : Nat) (B : Int) (s : PS) : Prop where
  wf : WF s.2
  tot : tot s.2 ≤ s.2.length
  pay : (s.2.length : Int) + 5 * ((T : Int) - s.1) ≤ B
  on : s.1 ≤ T
section
variable {T : Nat} {B C k : Int} {u : Nat} {s s' : PS}
theorem Fine.le (h : Fine T B s) (hB : B ≤ C) : Fine T C s := ⟨h.wf, h.tot, Int.le_trans h.pay hB, h.on⟩
theorem Fine.fit (h : Fine T B s) (f : Fit T s s' k u) : Fine T (B + k) s' := ⟨f.wf, by have := f.kids; have := h.tot; omega, by have := f.pay; have := h.pay; omega, f.up⟩
theorem Fine.len (h : Fine T B s) (hB : B ≤ 5000) : s.2.length ≤ 5000 := by have := h.pay; have := h.on; omega
theorem Fine.tots (h : Fine T B s) (hB : B ≤ 5000) : ParS.tot s.2 ≤ 5000 := Nat.le_trans h.tot (h.len hB)
end
end Go.Proofs.YtkamhpbfebdhjaaGreatDoor.ParG
