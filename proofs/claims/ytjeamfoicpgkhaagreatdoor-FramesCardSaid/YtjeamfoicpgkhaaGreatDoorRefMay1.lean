/- May a piece, a step be? The reference's answer. -/
import Derived.Test.YtjeamfoicpgkhaaGreatDoorCompMay
import Derived.Test.YtjeamfoicpgkhaaGreatDoorLumpB
import Derived.Test.YtjeamfoicpgkhaaGreatDoorSameC
import Derived.Test.YtjeamfoicpgkhaaGreatDoorAddL
namespace Go.Proofs.YtjeamfoicpgkhaaGreatDoor.RefMay1
open Go.RowKit Go.Lib Go.Proofs.YtjeamfoicpgkhaaGreatDoor.Mem Go.Proofs.YtjeamfoicpgkhaaGreatDoor.Read Go.Proofs.YtjeamfoicpgkhaaGreatDoor.Tree Go.Proofs.YtjeamfoicpgkhaaGreatDoor.Data Go.Proofs.YtjeamfoicpgkhaaGreatDoor.CompR Go.Proofs.YtjeamfoicpgkhaaGreatDoor.MsgR Go.Proofs.YtjeamfoicpgkhaaGreatDoor.May
open Go.Proofs.YtjeamfoicpgkhaaGreatDoor.CompMay (aggC empty_is ret_bool ret_int)
open Go.Proofs.YtjeamfoicpgkhaaGreatDoor.Same (ints_cell)
open Go.Proofs.YtjeamfoicpgkhaaGreatDoor.AddL (sizeR)
set_option linter.unusedVariables false
set_option linter.unusedSimpArgs false
set_option maxHeartbeats 2000000 in
theorem compMay_ref (c : CompD) (w : World) : Calls Tryz.prog 137 #[aggC c] w fun e w' => e = .returned (.bool (rawB c)) ∧ Step No w w' := by
  obtain ⟨k, n, t⟩ := c
  unfold aggC
  simp only at *
  have hte := empty_is t
  by_cases k0 : k = 0
  · subst k0
    by_cases h1 : 0 ≤ n
    · by_cases h2 : n ≤ 4096
      · by_cases ht : t.size = 0
        · rw [decide_eq_true ht] at hte
          have hm : rawB ⟨0, n, t⟩ = true := by simp [rawB, rawP, *] <;> omega
          rw [hm]
          clear hm
          go_enter Tryz.func137, Tryz.ntmps137
          go_wp2
          go_ret
          exact ⟨rfl, (by repeat' (first | exact Step.refl _ _ | with_reducible assumption | refine Step.drew ?_ | refine Step.drewN ?_ _ | refine Step.alloc ?_ _))⟩
        · rw [decide_eq_false ht] at hte
          have hm : rawB ⟨0, n, t⟩ = false := by simp [rawB, rawP, *] <;> omega
          rw [hm]
          clear hm
          go_enter Tryz.func137, Tryz.ntmps137
          go_wp2
          go_ret
          exact ⟨rfl, (by repeat' (first | exact Step.refl _ _ | with_reducible assumption | refine Step.drew ?_ | refine Step.drewN ?_ _ | refine Step.alloc ?_ _))⟩
      · have hm : rawB ⟨0, n, t⟩ = false := by simp [rawB, rawP, *] <;> omega
        rw [hm]
        clear hm
        go_enter Tryz.func137, Tryz.ntmps137
        go_wp2
        go_ret
        exact ⟨rfl, (by repeat' (first | exact Step.refl _ _ | with_reducible assumption | refine Step.drew ?_ | refine Step.drewN ?_ _ | refine Step.alloc ?_ _))⟩
    · have hm : rawB ⟨0, n, t⟩ = false := by simp [rawB, rawP, *] <;> omega
      rw [hm]
      clear hm
      go_enter Tryz.func137, Tryz.ntmps137
      go_wp2
      go_ret
      exact ⟨rfl, (by repeat' (first | exact Step.refl _ _ | with_reducible assumption | refine Step.drew ?_ | refine Step.drewN ?_ _ | refine Step.alloc ?_ _))⟩
  · by_cases k2 : k = 2
    · subst k2
      by_cases h1 : 0 ≤ n
      · by_cases h2 : n ≤ 4096
        · by_cases ht : t.size = 0
          · rw [decide_eq_true ht] at hte
            have hm : rawB ⟨2, n, t⟩ = true := by simp [rawB, rawP, *] <;> omega
            rw [hm]
            clear hm
            go_enter Tryz.func137, Tryz.ntmps137
            go_wp2
            go_ret
            exact ⟨rfl, (by repeat' (first | exact Step.refl _ _ | with_reducible assumption | refine Step.drew ?_ | refine Step.drewN ?_ _ | refine Step.alloc ?_ _))⟩
          · rw [decide_eq_false ht] at hte
            have hm : rawB ⟨2, n, t⟩ = false := by simp [rawB, rawP, *] <;> omega
            rw [hm]
            clear hm
            go_enter Tryz.func137, Tryz.ntmps137
            go_wp2
            go_ret
            exact ⟨rfl, (by repeat' (first | exact Step.refl _ _ | with_reducible assumption | refine Step.drew ?_ | refine Step.drewN ?_ _ | refine Step.alloc ?_ _))⟩
        · have hm : rawB ⟨2, n, t⟩ = false := by simp [rawB, rawP, *] <;> omega
          rw [hm]
          clear hm
          go_enter Tryz.func137, Tryz.ntmps137
          go_wp2
          go_ret
          exact ⟨rfl, (by repeat' (first | exact Step.refl _ _ | with_reducible assumption | refine Step.drew ?_ | refine Step.drewN ?_ _ | refine Step.alloc ?_ _))⟩
      · have hm : rawB ⟨2, n, t⟩ = false := by simp [rawB, rawP, *] <;> omega
        rw [hm]
        clear hm
        go_enter Tryz.func137, Tryz.ntmps137
        go_wp2
        go_ret
        exact ⟨rfl, (by repeat' (first | exact Step.refl _ _ | with_reducible assumption | refine Step.drew ?_ | refine Step.drewN ?_ _ | refine Step.alloc ?_ _))⟩
    · by_cases k1 : k = 1
      · subst k1
        by_cases h1 : n = 0
        · by_cases ht : t.size ≤ 4096
          · have hb : decide ((t.size : Int) ≤ 4096) = true := decide_eq_true (by omega)
            have hm : rawB ⟨1, n, t⟩ = true := by simp [rawB, rawP, *] <;> omega
            rw [hm]
            clear hm
            go_enter Tryz.func137, Tryz.ntmps137
            go_wp2
            go_ret
            exact ⟨rfl, (by repeat' (first | exact Step.refl _ _ | with_reducible assumption | refine Step.drew ?_ | refine Step.drewN ?_ _ | refine Step.alloc ?_ _))⟩
          · have hb : decide ((t.size : Int) ≤ 4096) = false := decide_eq_false (by omega)
            have hm : rawB ⟨1, n, t⟩ = false := by simp [rawB, rawP, *] <;> omega
            rw [hm]
            clear hm
            go_enter Tryz.func137, Tryz.ntmps137
            go_wp2
            go_ret
            exact ⟨rfl, (by repeat' (first | exact Step.refl _ _ | with_reducible assumption | refine Step.drew ?_ | refine Step.drewN ?_ _ | refine Step.alloc ?_ _))⟩
        · have hm : rawB ⟨1, n, t⟩ = false := by simp [rawB, rawP, *] <;> omega
          rw [hm]
          clear hm
          go_enter Tryz.func137, Tryz.ntmps137
          go_wp2
          go_ret
          exact ⟨rfl, (by repeat' (first | exact Step.refl _ _ | with_reducible assumption | refine Step.drew ?_ | refine Step.drewN ?_ _ | refine Step.alloc ?_ _))⟩
      · have b0 : (k == 0) = false := beq_eq_false_iff_ne.2 k0
        have b1 : (k == 1) = false := beq_eq_false_iff_ne.2 k1
        have b2 : (k == 2) = false := beq_eq_false_iff_ne.2 k2
        have hm : rawB ⟨k, n, t⟩ = false := by simp [rawB, rawP, k0, k1, k2]
        rw [hm]
        clear hm hte k0 k1 k2
        go_enter Tryz.func137, Tryz.ntmps137
        go_wp2
        go_ret
        exact ⟨rfl, (by repeat' (first | exact Step.refl _ _ | with_reducible assumption | refine Step.drew ?_ | refine Step.drewN ?_ _ | refine Step.alloc ?_ _))⟩
theorem size_ref (c : CompD) (w : World) : Calls Tryz.prog 152 #[aggC c] w fun e w' => e = .returned (.int .i64 (sizeR c)) ∧ Step No w w' := by
  obtain ⟨k, n, t⟩ := c
  unfold aggC sizeR
  simp only
  by_cases k1 : k = 1
  · subst k1
    rw [if_pos rfl]
    go_enter Tryz.func152, Tryz.ntmps152
    go_wp2
    go_ret
    exact ⟨rfl, (by repeat' (first | exact Step.refl _ _ | with_reducible assumption | refine Step.drew ?_ | refine Step.drewN ?_ _ | refine Step.alloc ?_ _))⟩
  · have b1 : (k == 1) = false := beq_eq_false_iff_ne.2 k1
    rw [if_neg k1]
    go_enter Tryz.func152, Tryz.ntmps152
    go_wp2
    go_ret
    exact ⟨rfl, (by repeat' (first | exact Step.refl _ _ | with_reducible assumption | refine Step.drew ?_ | refine Step.drewN ?_ _ | refine Step.alloc ?_ _))⟩
theorem noTree_ref (t : TreeD) (A : Option Addr) (c : Nat) (w : World) : Calls Tryz.prog 63 #[aggT t (.slice A t.nodes.length c)] w fun e w' => e = .returned (.bool (decide (t.root = 0 ∧ t.next = 0 ∧ t.nodes.length = 0))) ∧ Step No w w' := by
  obtain ⟨r, n, xs⟩ := t
  unfold aggT
  simp only
  by_cases h1 : r = 0
  · subst h1
    by_cases h2 : n = 0
    · subst h2
      by_cases h3 : xs.length = 0
      · have b3 : ((xs.length : Int) == 0) = true := by simp [h3]
        have hm : decide ((0 : Int) = 0 ∧ (0 : Int) = 0 ∧ xs.length = 0) = true := decide_eq_true ⟨rfl, rfl, h3⟩
        rw [hm]
        clear hm
        go_enter Tryz.func63, Tryz.ntmps63
        go_wp2
        go_ret
        exact ⟨rfl, (by repeat' (first | exact Step.refl _ _ | with_reducible assumption | refine Step.drew ?_ | refine Step.drewN ?_ _ | refine Step.alloc ?_ _))⟩
      · have b3 : ((xs.length : Int) == 0) = false := by rw [beq_eq_false_iff_ne]; omega
        have hm : decide ((0 : Int) = 0 ∧ (0 : Int) = 0 ∧ xs.length = 0) = false := decide_eq_false fun h => h3 h.2.2
        rw [hm]
        clear hm h3
        go_enter Tryz.func63, Tryz.ntmps63
        go_wp2
        go_ret
        exact ⟨rfl, (by repeat' (first | exact Step.refl _ _ | with_reducible assumption | refine Step.drew ?_ | refine Step.drewN ?_ _ | refine Step.alloc ?_ _))⟩
    · have b2 : (n == 0) = false := beq_eq_false_iff_ne.2 h2
      have hm : decide ((0 : Int) = 0 ∧ n = 0 ∧ xs.length = 0) = false := decide_eq_false fun h => h2 h.2.1
      rw [hm]
      clear hm
      go_enter Tryz.func63, Tryz.ntmps63
      go_wp2
      go_ret
      exact ⟨rfl, (by repeat' (first | exact Step.refl _ _ | with_reducible assumption | refine Step.drew ?_ | refine Step.drewN ?_ _ | refine Step.alloc ?_ _))⟩
  · have b1 : (r == 0) = false := beq_eq_false_iff_ne.2 h1
    have hm : decide (r = 0 ∧ n = 0 ∧ xs.length = 0) = false := decide_eq_false fun h => h1 h.1
    rw [hm]
    clear hm
    go_enter Tryz.func63, Tryz.ntmps63
    go_wp2
    go_ret
    exact ⟨rfl, (by repeat' (first | exact Step.refl _ _ | with_reducible assumption | refine Step.drew ?_ | refine Step.drewN ?_ _ | refine Step.alloc ?_ _))⟩
theorem leaf_ref (k : Int) (w : World) : Calls Tryz.prog 112 #[.int .i64 k] w fun e w' => e = .returned (.bool (decide (leafP k))) ∧ w' = w := by
  have hm : decide (leafP k) = (k == 4 || k == 5 || k == 6) := by
    unfold leafP
    by_cases h4 : k = 4 <;> by_cases h5 : k = 5 <;> by_cases h6 : k = 6 <;> simp [h4, h5, h6]
  rw [hm]
  clear hm
  by_cases h4 : k = 4
  · subst h4
    go_enter Tryz.func112, Tryz.ntmps112
    go_wp2
    go_ret
    exact ⟨rfl, rfl⟩
  · have b4 : (k == 4) = false := beq_eq_false_iff_ne.2 h4
    by_cases h5 : k = 5
    · subst h5
      go_enter Tryz.func112, Tryz.ntmps112
      go_wp2
      go_ret
      exact ⟨rfl, rfl⟩
    · have b5 : (k == 5) = false := beq_eq_false_iff_ne.2 h5
      go_enter Tryz.func112, Tryz.ntmps112
      go_wp2
      go_ret
      exact ⟨by simp [b4, b5], rfl⟩
end Go.Proofs.YtjeamfoicpgkhaaGreatDoor.RefMay1
