/- The messages of PackForms, as data: which may be, which may not. Nothing of the program stands here. -/
import Derived.Test.YtkamhpbfebdhjaaGreatDoorLumpA
import Derived.Test.YtkamhpbfebdhjaaGreatDoorLexS
namespace Go.Proofs.YtkamhpbfebdhjaaGreatDoor.PfA
open Go.Proofs.YtkamhpbfebdhjaaGreatDoor.Tree Go.Proofs.YtkamhpbfebdhjaaGreatDoor.Data Go.Proofs.YtkamhpbfebdhjaaGreatDoor.Take Go.Proofs.YtkamhpbfebdhjaaGreatDoor.Pk Go.Proofs.YtkamhpbfebdhjaaGreatDoor.May
set_option linter.unusedVariables false
set_option linter.unusedSimpArgs false
def pE : List CompD := [⟨0, 1, ba []⟩]
def pE2 : List CompD := [⟨0, 1, ba []⟩, ⟨0, 1, ba []⟩]
def pollM : MsgD := ⟨0, 1, 2, 3, 0, 0, false, pE, [], ba [], noTree⟩
def es1 (cl sq id : Int) : List EntryD := [⟨cl, sq, pE, [⟨0, id, 0, 0, 0, []⟩]⟩]
def esM : MsgD := ⟨1, 1, 2, 0, 0, 0, false, [], es1 1 2 3, ba [], noTree⟩
def n1 : List NodeD := [⟨0, 0, 0, 3, [1]⟩, ⟨1, 2, 0, 3, [2]⟩, ⟨2, 5, 1, 2, []⟩]
def s1 : ByteArray := ba [91, 49, 93]
def snapM : MsgD := ⟨2, 1, 2, 0, 1, 4, true, [], [], s1, ⟨0, 3, n1⟩⟩
theorem parse1 : LexS.parseS ⟨#[91, 49, 93]⟩ = ⟨0, 3, n1⟩ := by kernel_rfl
theorem may_poll : msgB pollM = true := by decide +kernel
theorem may_es : msgB esM = true := by decide +kernel
theorem may_snap : msgB snapM = true := by decide +kernel
/-! ### One thing turned. -/
theorem no_head {m : MsgD} (h : ¬ (0 ≤ m.client ∧ m.client ≤ 2 ∧ 0 ≤ m.rev ∧ m.rev ≤ 4096 ∧ 0 ≤ m.seq ∧ m.seq ≤ 4096)) : msgB m = false := by
  unfold msgB headB upB
  rw [Bool.and_eq_false_iff]
  left
  simp only [Bool.and_eq_false_iff, decide_eq_false_iff_not]
  omega
theorem no_poll {m : MsgD} (hk : m.kind = 0) (h : pollB m = false) : msgB m = false := by
  unfold msgB
  rw [if_pos hk, h, Bool.and_false]
theorem no_chg {m : MsgD} (hk : m.kind = 1) (h : chgB m = false) : msgB m = false := by
  unfold msgB
  rw [if_neg (by omega), if_pos hk, h, Bool.and_false]
theorem no_snap {m : MsgD} (hk : m.kind = 2) (h : snapB m = false) : msgB m = false := by
  unfold msgB
  rw [if_neg (by omega), if_neg (by omega), if_pos hk, h, Bool.and_false]
theorem no_none {m : MsgD} (hk : m.kind = 0) (h : ¬ (m.fr = 0 ∧ m.last = 0 ∧ m.refused = false ∧ m.text.size = 0 ∧ m.tree.root = 0 ∧ m.tree.next = 0 ∧ m.tree.nodes.length = 0)) : msgB m = false := no_poll hk (by
  unfold pollB noneB
  rw [decide_eq_false h]
  rfl)
/-- The poll of case k, turned. -/
def pollT (k : Nat) (d : Int) : MsgD :=
  match k with
  | 0 => ⟨0, 2 + d, 2, 3, 0, 0, false, pE, [], ba [], noTree⟩
  | 1 => ⟨0, -d, 2, 3, 0, 0, false, pE, [], ba [], noTree⟩
  | 2 => ⟨0, 1, -d, 3, 0, 0, false, pE, [], ba [], noTree⟩
  | 3 => ⟨0, 1, 4096 + d, 3, 0, 0, false, pE, [], ba [], noTree⟩
  | 4 => ⟨0, 1, 2, 0, 0, 0, false, pE, [], ba [], noTree⟩
  | 5 => ⟨0, 1, 2, 4096 + d, 0, 0, false, pE, [], ba [], noTree⟩
  | 6 => ⟨0, 1, 2, 3, d, 0, false, pE, [], ba [], noTree⟩
  | 7 => ⟨0, 1, 2, 3, 0, d, false, pE, [], ba [], noTree⟩
  | 8 => ⟨0, 1, 2, 3, 0, 0, true, pE, [], ba [], noTree⟩
  | 9 => ⟨0, 1, 2, 3, 0, 0, false, pE, [], ba [97], noTree⟩
  | 10 => ⟨0, 1, 2, 3, 0, 0, false, pE, [], ba [], ⟨0, d, []⟩⟩
  | 11 => ⟨0, 1, 2, 3, 0, 0, false, pE2, [], ba [], noTree⟩
  | _ => ⟨2 + d, 1, 2, 3, 0, 0, false, pE, [], ba [], noTree⟩
theorem no_pollT (k : Nat) (d : Int) (hd : 1 ≤ d) : msgB (pollT k d) = false := by
  unfold pollT
  split
  · exact no_head (by simp only; omega)
  · exact no_head (by simp only; omega)
  · exact no_head (by simp only; omega)
  · exact no_head (by simp only; omega)
  · decide +kernel
  · exact no_head (by simp only; omega)
  · exact no_none rfl (by simp only; omega)
  · exact no_none rfl (by simp only; omega)
  · exact no_none rfl (by simp)
  · exact no_none rfl (fun h => absurd h.2.2.2.1 (by decide))
  · exact no_none rfl (by simp only; omega)
  · decide +kernel
  · unfold msgB
    rw [if_neg (by simp only; omega), if_neg (by simp only; omega), if_neg (by simp only; omega), Bool.and_false]
theorem no_ents {es : List EntryD} (h : es.all entryB = false) (c : Int) : msgB ⟨1, c, 2, 0, 0, 0, false, [], es, ba [], noTree⟩ = false := no_chg rfl (by
  unfold chgB
  simp only
  rw [h, Bool.and_false])
theorem no_e13 (d : Int) (hd : 1 ≤ d) : msgB ⟨1, 1, 2, d, 0, 0, false, [], es1 1 2 3, ba [], noTree⟩ = false := no_chg rfl (by
  unfold chgB
  simp only
  rw [decide_eq_false (by omega), Bool.and_false, Bool.false_and])
theorem no_e14 : msgB ⟨1, 1, 2, 0, 0, 0, false, pE, es1 1 2 3, ba [], noTree⟩ = false := by decide +kernel
theorem no_e15 (n : Nat) (hn : 3 < n) : msgB ⟨1, 1, 2, 0, 0, 0, false, [], List.replicate n ⟨0, 0, [], []⟩, ba [], noTree⟩ = false := no_chg rfl (by
  unfold chgB
  simp only [List.length_replicate]
  rw [decide_eq_false (by omega), Bool.and_false, Bool.false_and])
theorem no_e16 : msgB ⟨1, 1, 2, 0, 0, 0, false, [], es1 1 0 3, ba [], noTree⟩ = false := by decide +kernel
theorem no_e17 (d : Int) (hd : 1 ≤ d) : msgB ⟨1, 1, 2, 0, 0, 0, false, [], es1 (-d) 2 3, ba [], noTree⟩ = false := no_ents (by
  unfold es1
  simp only [List.all_cons, List.all_nil, Bool.and_true]
  unfold entryB
  simp only
  rw [decide_eq_false (by omega)]
  rfl) 1
theorem no_e18 (d : Int) (hd : 1 ≤ d) : msgB ⟨1, 1, 2, 0, 0, 0, false, [], es1 1 2 (-d), ba [], noTree⟩ = false := no_ents (by
  unfold es1
  simp only [List.all_cons, List.all_nil, Bool.and_true]
  unfold entryB
  simp only [List.all_cons, List.all_nil, Bool.and_true]
  have h : stepB ⟨0, -d, 0, 0, 0, []⟩ = false := by
    unfold stepB
    rw [decide_eq_false]
    unfold stepP idP
    simp only
    omega
  rw [h, Bool.and_false]) 1
theorem no_s19 : msgB ⟨2, 1, 2, 0, 1, 4, true, [], [], ba [91, 49, 93, 120], ⟨0, 3, n1⟩⟩ = false := by decide +kernel
theorem no_s20 (d : Int) (hd : 1 ≤ d) : msgB ⟨2, 1, 2, 0, 1, 4096 + d, true, [], [], s1, ⟨0, 3, n1⟩⟩ = false := no_snap rfl (by
  unfold snapB upB
  simp only
  rw [decide_eq_false (show ¬ (0 ≤ 4096 + d ∧ 4096 + d ≤ 4096) by omega), Bool.and_false, Bool.false_and, Bool.false_and])
theorem no_s21 (d : Int) (hd : 1 ≤ d) : msgB ⟨2, 1, 2, 0, -d, 4, true, [], [], s1, ⟨0, 3, n1⟩⟩ = false := no_snap rfl (by
  unfold snapB upB
  simp only
  rw [decide_eq_false (show ¬ (0 ≤ -d ∧ -d ≤ 4096) by omega), Bool.and_false, Bool.false_and, Bool.false_and, Bool.false_and])
theorem no_s22 : msgB ⟨2, 1, 2, 0, 1, 4, true, [], [], s1, ⟨0, 0, n1⟩⟩ = false := by decide +kernel
theorem no_s23 : msgB ⟨2, 1, 2, 0, 1, 4, true, pE, [], s1, ⟨0, 3, n1⟩⟩ = false := by decide +kernel
end Go.Proofs.YtkamhpbfebdhjaaGreatDoor.PfA
