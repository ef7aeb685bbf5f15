/- May an act be? The program's answer. -/
import Derived.Test.YtjeamfoicpgkhaaDoorMem
import Derived.Test.YtjeamfoicpgkhaaDoorProg
import Derived.Test.YtjeamfoicpgkhaaDoorScr
namespace Go.Proofs.YtjeamfoicpgkhaaDoor.ScrW
open Go.RowKit Go.Lib Go.Proofs.YtjeamfoicpgkhaaDoor.Mem Go.Proofs.YtjeamfoicpgkhaaDoor.Scr
set_option linter.unusedVariables false
set_option linter.unusedSimpArgs false
def aggA (a : ActD) : Value := .agg #[.int .i64 a.kind, .int .i64 a.client, .bool a.up, .int .i64 a.at_, .int .i64 a.n, .string a.text]
theorem edits_any (k : Int) (w : World) : Calls Tryd.prog 23 #[.int .i64 k] w fun e w' => e = .returned (.bool (isEdit k)) ∧ w = w' := by
  unfold isEdit
  go_enter Tryd.func23, Tryd.ntmps23
  go_wp2
  go_ret
  exact ⟨rfl, rfl⟩
theorem breaks_any (k : Int) (w : World) : Calls Tryd.prog 27 #[.int .i64 k] w fun e w' => e = .returned (.bool (isBreak k)) ∧ w = w' := by
  unfold isBreak
  go_enter Tryd.func27, Tryd.ntmps27
  go_wp2
  go_ret
  exact ⟨rfl, rfl⟩
theorem moves_any (k : Int) (w : World) : Calls Tryd.prog 25 #[.int .i64 k] w fun e w' => e = .returned (.bool (isMove k)) ∧ w = w' := by
  unfold isMove
  by_cases h : 2 ≤ k
  · rw [decide_eq_true h, Bool.true_and]
    go_enter Tryd.func25, Tryd.ntmps25
    go_wp2
    go_ret
    exact ⟨rfl, rfl⟩
  · rw [decide_eq_false h, Bool.false_and]
    go_enter Tryd.func25, Tryd.ntmps25
    go_wp2
    go_ret
    exact ⟨rfl, rfl⟩
theorem may_out {a : ActD} (h : ¬ (0 ≤ a.kind ∧ a.kind < 8 ∧ 0 ≤ a.client ∧ a.client < 3 ∧ 0 ≤ a.at_ ∧ a.at_ ≤ 4096 ∧ 0 ≤ a.n ∧ a.n ≤ 1000000)) : actMay a = false := by
  cases hm : actMay a with
  | false => rfl
  | true =>
    obtain ⟨h1, h2, h3, h4, h5, h6, h7, h8, _⟩ := may_facts hm
    exact absurd ⟨h1, h2, h3, h4, h5, h6, h7, h8⟩ h
set_option maxHeartbeats 8000000 in
set_option maxRecDepth 100000 in
theorem May_any (a : ActD) (w : World) (hsz : a.text.size ≤ maxLen) : Calls Tryd.prog 15 #[aggA a] w fun e w' => e = .returned (.bool (actMay a)) ∧ Step No w w' := by
  obtain ⟨k, c, u, p, n, t⟩ := a
  unfold aggA
  simp only at *
  by_cases h1 : k < 0
  · rw [may_out (by simp only; omega)]
    clear hsz
    go_enter Tryd.func15, Tryd.ntmps15
    go_wp2
    go_ret
    exact ⟨rfl, (by repeat' (first | exact Step.refl _ _ | with_reducible assumption | refine Step.drew ?_ | refine Step.drewN ?_ _ | refine Step.alloc ?_ _))⟩
  by_cases h2 : 8 ≤ k
  · rw [may_out (by simp only; omega)]
    clear hsz
    go_enter Tryd.func15, Tryd.ntmps15
    go_wp2
    go_ret
    exact ⟨rfl, (by repeat' (first | exact Step.refl _ _ | with_reducible assumption | refine Step.drew ?_ | refine Step.drewN ?_ _ | refine Step.alloc ?_ _))⟩
  by_cases h3 : c < 0
  · rw [may_out (by simp only; omega)]
    clear hsz
    go_enter Tryd.func15, Tryd.ntmps15
    go_wp2
    go_ret
    exact ⟨rfl, (by repeat' (first | exact Step.refl _ _ | with_reducible assumption | refine Step.drew ?_ | refine Step.drewN ?_ _ | refine Step.alloc ?_ _))⟩
  by_cases h4 : 3 ≤ c
  · rw [may_out (by simp only; omega)]
    clear hsz
    go_enter Tryd.func15, Tryd.ntmps15
    go_wp2
    go_ret
    exact ⟨rfl, (by repeat' (first | exact Step.refl _ _ | with_reducible assumption | refine Step.drew ?_ | refine Step.drewN ?_ _ | refine Step.alloc ?_ _))⟩
  by_cases h5 : p < 0
  · rw [may_out (by simp only; omega)]
    clear hsz
    go_enter Tryd.func15, Tryd.ntmps15
    go_wp2
    go_ret
    exact ⟨rfl, (by repeat' (first | exact Step.refl _ _ | with_reducible assumption | refine Step.drew ?_ | refine Step.drewN ?_ _ | refine Step.alloc ?_ _))⟩
  by_cases h6 : 4096 < p
  · rw [may_out (by simp only; omega)]
    clear hsz
    go_enter Tryd.func15, Tryd.ntmps15
    go_wp2
    go_ret
    exact ⟨rfl, (by repeat' (first | exact Step.refl _ _ | with_reducible assumption | refine Step.drew ?_ | refine Step.drewN ?_ _ | refine Step.alloc ?_ _))⟩
  by_cases h7 : n < 0
  · rw [may_out (by simp only; omega)]
    clear hsz
    go_enter Tryd.func15, Tryd.ntmps15
    go_wp2
    go_ret
    exact ⟨rfl, (by repeat' (first | exact Step.refl _ _ | with_reducible assumption | refine Step.drew ?_ | refine Step.drewN ?_ _ | refine Step.alloc ?_ _))⟩
  by_cases h8 : 1000000 < n
  · rw [may_out (by simp only; omega)]
    clear hsz
    go_enter Tryd.func15, Tryd.ntmps15
    go_wp2
    go_ret
    exact ⟨rfl, (by repeat' (first | exact Step.refl _ _ | with_reducible assumption | refine Step.drew ?_ | refine Step.drewN ?_ _ | refine Step.alloc ?_ _))⟩
  have hte : (t.toList == []) = decide (t.size = 0) := by
    rw [ByteArray.toList_eq, Bool.eq_iff_iff, beq_iff_eq, decide_eq_true_eq]
    have hl : t.data.toList.length = t.size := Array.length_toList
    rw [← hl, List.length_eq_zero_iff]
  have hto : (t.toList == [0]) = decide (t.data.toList = [0]) := by
    rw [ByteArray.toList_eq, Bool.eq_iff_iff, beq_iff_eq, decide_eq_true_eq]
  rcases kind_cases (by omega : 0 ≤ k) (by omega) with e | e | e | e | e | e | e | e <;> subst e
  · by_cases ht : t.size ≤ 300
    · have hb : decide ((300 : Int) < t.size) = false := decide_eq_false (by omega)
      cases u
      · have hm : actMay ⟨0, c, false, p, n, t⟩ = true := by simp [actMay, isEdit, isBreak, isMove, *] <;> omega
        rw [hm]
        clear hm hsz
        go_enter Tryd.func15, Tryd.ntmps15
        go_wp2
        go_ret
        exact ⟨rfl, (by repeat' (first | exact Step.refl _ _ | with_reducible assumption | refine Step.drew ?_ | refine Step.drewN ?_ _ | refine Step.alloc ?_ _))⟩
      · have hm : actMay ⟨0, c, true, p, n, t⟩ = false := by simp [actMay, isEdit, isBreak, isMove, *] <;> omega
        rw [hm]
        clear hm hsz
        go_enter Tryd.func15, Tryd.ntmps15
        go_wp2
        go_ret
        exact ⟨rfl, (by repeat' (first | exact Step.refl _ _ | with_reducible assumption | refine Step.drew ?_ | refine Step.drewN ?_ _ | refine Step.alloc ?_ _))⟩
    · have hb : decide ((300 : Int) < t.size) = true := decide_eq_true (by omega)
      have hm : actMay ⟨0, c, u, p, n, t⟩ = false := by simp [actMay, isEdit, isBreak, isMove, *] <;> omega
      rw [hm]
      clear hm hsz
      go_enter Tryd.func15, Tryd.ntmps15
      go_wp2
      go_ret
      exact ⟨rfl, (by repeat' (first | exact Step.refl _ _ | with_reducible assumption | refine Step.drew ?_ | refine Step.drewN ?_ _ | refine Step.alloc ?_ _))⟩
  · cases u
    · by_cases hp : p = 0
      · by_cases hn : n = 0
        · by_cases ht : t.size = 0
          · rw [decide_eq_true ht] at hte
            have hm : actMay ⟨1, c, false, p, n, t⟩ = true := by simp [actMay, isEdit, isBreak, isMove, *] <;> omega
            rw [hm]
            clear hm hsz
            go_enter Tryd.func15, Tryd.ntmps15
            go_wp2
            go_ret
            exact ⟨rfl, (by repeat' (first | exact Step.refl _ _ | with_reducible assumption | refine Step.drew ?_ | refine Step.drewN ?_ _ | refine Step.alloc ?_ _))⟩
          · rw [decide_eq_false ht] at hte
            have hm : actMay ⟨1, c, false, p, n, t⟩ = false := by simp [actMay, isEdit, isBreak, isMove, *] <;> omega
            rw [hm]
            clear hm hsz
            go_enter Tryd.func15, Tryd.ntmps15
            go_wp2
            go_ret
            exact ⟨rfl, (by repeat' (first | exact Step.refl _ _ | with_reducible assumption | refine Step.drew ?_ | refine Step.drewN ?_ _ | refine Step.alloc ?_ _))⟩
        · have hm : actMay ⟨1, c, false, p, n, t⟩ = false := by simp [actMay, isEdit, isBreak, isMove, *] <;> omega
          rw [hm]
          clear hm hsz
          go_enter Tryd.func15, Tryd.ntmps15
          go_wp2
          go_ret
          exact ⟨rfl, (by repeat' (first | exact Step.refl _ _ | with_reducible assumption | refine Step.drew ?_ | refine Step.drewN ?_ _ | refine Step.alloc ?_ _))⟩
      · have hm : actMay ⟨1, c, false, p, n, t⟩ = false := by simp [actMay, isEdit, isBreak, isMove, *] <;> omega
        rw [hm]
        clear hm hsz
        go_enter Tryd.func15, Tryd.ntmps15
        go_wp2
        go_ret
        exact ⟨rfl, (by repeat' (first | exact Step.refl _ _ | with_reducible assumption | refine Step.drew ?_ | refine Step.drewN ?_ _ | refine Step.alloc ?_ _))⟩
    · have hm : actMay ⟨1, c, true, p, n, t⟩ = false := by simp [actMay, isEdit, isBreak, isMove, *] <;> omega
      rw [hm]
      clear hm hsz
      go_enter Tryd.func15, Tryd.ntmps15
      go_wp2
      go_ret
      exact ⟨rfl, (by repeat' (first | exact Step.refl _ _ | with_reducible assumption | refine Step.drew ?_ | refine Step.drewN ?_ _ | refine Step.alloc ?_ _))⟩
  · by_cases hn : n = 0
    · by_cases ht : t.size = 0
      · rw [decide_eq_true ht] at hte
        have hm : actMay ⟨2, c, u, p, n, t⟩ = true := by simp [actMay, isEdit, isBreak, isMove, *] <;> omega
        rw [hm]
        clear hm hsz
        go_enter Tryd.func15, Tryd.ntmps15
        go_wp2
        go_ret
        exact ⟨rfl, (by repeat' (first | exact Step.refl _ _ | with_reducible assumption | refine Step.drew ?_ | refine Step.drewN ?_ _ | refine Step.alloc ?_ _))⟩
      · rw [decide_eq_false ht] at hte
        have hm : actMay ⟨2, c, u, p, n, t⟩ = false := by simp [actMay, isEdit, isBreak, isMove, *] <;> omega
        rw [hm]
        clear hm hsz
        go_enter Tryd.func15, Tryd.ntmps15
        go_wp2
        go_ret
        exact ⟨rfl, (by repeat' (first | exact Step.refl _ _ | with_reducible assumption | refine Step.drew ?_ | refine Step.drewN ?_ _ | refine Step.alloc ?_ _))⟩
    · have hm : actMay ⟨2, c, u, p, n, t⟩ = false := by simp [actMay, isEdit, isBreak, isMove, *] <;> omega
      rw [hm]
      clear hm hsz
      go_enter Tryd.func15, Tryd.ntmps15
      go_wp2
      go_ret
      exact ⟨rfl, (by repeat' (first | exact Step.refl _ _ | with_reducible assumption | refine Step.drew ?_ | refine Step.drewN ?_ _ | refine Step.alloc ?_ _))⟩
  · by_cases hn : n = 0
    · by_cases ht : t.size = 0
      · rw [decide_eq_true ht] at hte
        have hm : actMay ⟨3, c, u, p, n, t⟩ = true := by simp [actMay, isEdit, isBreak, isMove, *] <;> omega
        rw [hm]
        clear hm hsz
        go_enter Tryd.func15, Tryd.ntmps15
        go_wp2
        go_ret
        exact ⟨rfl, (by repeat' (first | exact Step.refl _ _ | with_reducible assumption | refine Step.drew ?_ | refine Step.drewN ?_ _ | refine Step.alloc ?_ _))⟩
      · rw [decide_eq_false ht] at hte
        have hm : actMay ⟨3, c, u, p, n, t⟩ = false := by simp [actMay, isEdit, isBreak, isMove, *] <;> omega
        rw [hm]
        clear hm hsz
        go_enter Tryd.func15, Tryd.ntmps15
        go_wp2
        go_ret
        exact ⟨rfl, (by repeat' (first | exact Step.refl _ _ | with_reducible assumption | refine Step.drew ?_ | refine Step.drewN ?_ _ | refine Step.alloc ?_ _))⟩
    · have hm : actMay ⟨3, c, u, p, n, t⟩ = false := by simp [actMay, isEdit, isBreak, isMove, *] <;> omega
      rw [hm]
      clear hm hsz
      go_enter Tryd.func15, Tryd.ntmps15
      go_wp2
      go_ret
      exact ⟨rfl, (by repeat' (first | exact Step.refl _ _ | with_reducible assumption | refine Step.drew ?_ | refine Step.drewN ?_ _ | refine Step.alloc ?_ _))⟩
  · by_cases hn : n = 0
    · by_cases ht : t.size = 0
      · rw [decide_eq_true ht] at hte
        have hm : actMay ⟨4, c, u, p, n, t⟩ = true := by simp [actMay, isEdit, isBreak, isMove, *] <;> omega
        rw [hm]
        clear hm hsz
        go_enter Tryd.func15, Tryd.ntmps15
        go_wp2
        go_ret
        exact ⟨rfl, (by repeat' (first | exact Step.refl _ _ | with_reducible assumption | refine Step.drew ?_ | refine Step.drewN ?_ _ | refine Step.alloc ?_ _))⟩
      · rw [decide_eq_false ht] at hte
        have hm : actMay ⟨4, c, u, p, n, t⟩ = false := by simp [actMay, isEdit, isBreak, isMove, *] <;> omega
        rw [hm]
        clear hm hsz
        go_enter Tryd.func15, Tryd.ntmps15
        go_wp2
        go_ret
        exact ⟨rfl, (by repeat' (first | exact Step.refl _ _ | with_reducible assumption | refine Step.drew ?_ | refine Step.drewN ?_ _ | refine Step.alloc ?_ _))⟩
    · have hm : actMay ⟨4, c, u, p, n, t⟩ = false := by simp [actMay, isEdit, isBreak, isMove, *] <;> omega
      rw [hm]
      clear hm hsz
      go_enter Tryd.func15, Tryd.ntmps15
      go_wp2
      go_ret
      exact ⟨rfl, (by repeat' (first | exact Step.refl _ _ | with_reducible assumption | refine Step.drew ?_ | refine Step.drewN ?_ _ | refine Step.alloc ?_ _))⟩
  · by_cases ht : t.size = 1
    · have hb : ((t.size : Int) == 1) = true := beq_iff_eq.2 (by omega)
      have hb2 : ((t.size : Int) != 1) = false := by rw [bne_eq_false_iff_eq]; omega
      have ht2 : (t.size : Int) = 1 := by omega
      by_cases h0 : t.data.toList = [0]
      · rw [decide_eq_true h0] at hto
        have hm : actMay ⟨5, c, u, p, n, t⟩ = false := by simp [actMay, isEdit, isBreak, isMove, *] <;> omega
        rw [hm]
        clear hm hsz
        go_enter Tryd.func15, Tryd.ntmps15
        go_wp2
        go_ret
        exact ⟨rfl, (by repeat' (first | exact Step.refl _ _ | with_reducible assumption | refine Step.drew ?_ | refine Step.drewN ?_ _ | refine Step.alloc ?_ _))⟩
      · rw [decide_eq_false h0] at hto
        have hm : actMay ⟨5, c, u, p, n, t⟩ = true := by simp [actMay, isEdit, isBreak, isMove, *] <;> omega
        rw [hm]
        clear hm hsz
        go_enter Tryd.func15, Tryd.ntmps15
        go_wp2
        go_ret
        exact ⟨rfl, (by repeat' (first | exact Step.refl _ _ | with_reducible assumption | refine Step.drew ?_ | refine Step.drewN ?_ _ | refine Step.alloc ?_ _))⟩
    · have hb : ((t.size : Int) == 1) = false := beq_eq_false_iff_ne.2 (by omega)
      have ht2 : ¬ (t.size : Int) = 1 := by omega
      have hm : actMay ⟨5, c, u, p, n, t⟩ = false := by simp [actMay, isEdit, isBreak, isMove, *] <;> omega
      rw [hm]
      clear hm hsz
      go_enter Tryd.func15, Tryd.ntmps15
      go_wp2
      go_ret
      exact ⟨rfl, (by repeat' (first | exact Step.refl _ _ | with_reducible assumption | refine Step.drew ?_ | refine Step.drewN ?_ _ | refine Step.alloc ?_ _))⟩
  · cases u
    · by_cases hp : p = 0
      · by_cases hn : n = 0
        · by_cases ht : t.size = 0
          · rw [decide_eq_true ht] at hte
            have hm : actMay ⟨6, c, false, p, n, t⟩ = true := by simp [actMay, isEdit, isBreak, isMove, *] <;> omega
            rw [hm]
            clear hm hsz
            go_enter Tryd.func15, Tryd.ntmps15
            go_wp2
            go_ret
            exact ⟨rfl, (by repeat' (first | exact Step.refl _ _ | with_reducible assumption | refine Step.drew ?_ | refine Step.drewN ?_ _ | refine Step.alloc ?_ _))⟩
          · rw [decide_eq_false ht] at hte
            have hm : actMay ⟨6, c, false, p, n, t⟩ = false := by simp [actMay, isEdit, isBreak, isMove, *] <;> omega
            rw [hm]
            clear hm hsz
            go_enter Tryd.func15, Tryd.ntmps15
            go_wp2
            go_ret
            exact ⟨rfl, (by repeat' (first | exact Step.refl _ _ | with_reducible assumption | refine Step.drew ?_ | refine Step.drewN ?_ _ | refine Step.alloc ?_ _))⟩
        · have hm : actMay ⟨6, c, false, p, n, t⟩ = false := by simp [actMay, isEdit, isBreak, isMove, *] <;> omega
          rw [hm]
          clear hm hsz
          go_enter Tryd.func15, Tryd.ntmps15
          go_wp2
          go_ret
          exact ⟨rfl, (by repeat' (first | exact Step.refl _ _ | with_reducible assumption | refine Step.drew ?_ | refine Step.drewN ?_ _ | refine Step.alloc ?_ _))⟩
      · have hm : actMay ⟨6, c, false, p, n, t⟩ = false := by simp [actMay, isEdit, isBreak, isMove, *] <;> omega
        rw [hm]
        clear hm hsz
        go_enter Tryd.func15, Tryd.ntmps15
        go_wp2
        go_ret
        exact ⟨rfl, (by repeat' (first | exact Step.refl _ _ | with_reducible assumption | refine Step.drew ?_ | refine Step.drewN ?_ _ | refine Step.alloc ?_ _))⟩
    · have hm : actMay ⟨6, c, true, p, n, t⟩ = false := by simp [actMay, isEdit, isBreak, isMove, *] <;> omega
      rw [hm]
      clear hm hsz
      go_enter Tryd.func15, Tryd.ntmps15
      go_wp2
      go_ret
      exact ⟨rfl, (by repeat' (first | exact Step.refl _ _ | with_reducible assumption | refine Step.drew ?_ | refine Step.drewN ?_ _ | refine Step.alloc ?_ _))⟩
  · cases u
    · by_cases hp : p = 0
      · by_cases hn : n = 0
        · by_cases ht : t.size = 0
          · rw [decide_eq_true ht] at hte
            have hm : actMay ⟨7, c, false, p, n, t⟩ = true := by simp [actMay, isEdit, isBreak, isMove, *] <;> omega
            rw [hm]
            clear hm hsz
            go_enter Tryd.func15, Tryd.ntmps15
            go_wp2
            go_ret
            exact ⟨rfl, (by repeat' (first | exact Step.refl _ _ | with_reducible assumption | refine Step.drew ?_ | refine Step.drewN ?_ _ | refine Step.alloc ?_ _))⟩
          · rw [decide_eq_false ht] at hte
            have hm : actMay ⟨7, c, false, p, n, t⟩ = false := by simp [actMay, isEdit, isBreak, isMove, *] <;> omega
            rw [hm]
            clear hm hsz
            go_enter Tryd.func15, Tryd.ntmps15
            go_wp2
            go_ret
            exact ⟨rfl, (by repeat' (first | exact Step.refl _ _ | with_reducible assumption | refine Step.drew ?_ | refine Step.drewN ?_ _ | refine Step.alloc ?_ _))⟩
        · have hm : actMay ⟨7, c, false, p, n, t⟩ = false := by simp [actMay, isEdit, isBreak, isMove, *] <;> omega
          rw [hm]
          clear hm hsz
          go_enter Tryd.func15, Tryd.ntmps15
          go_wp2
          go_ret
          exact ⟨rfl, (by repeat' (first | exact Step.refl _ _ | with_reducible assumption | refine Step.drew ?_ | refine Step.drewN ?_ _ | refine Step.alloc ?_ _))⟩
      · have hm : actMay ⟨7, c, false, p, n, t⟩ = false := by simp [actMay, isEdit, isBreak, isMove, *] <;> omega
        rw [hm]
        clear hm hsz
        go_enter Tryd.func15, Tryd.ntmps15
        go_wp2
        go_ret
        exact ⟨rfl, (by repeat' (first | exact Step.refl _ _ | with_reducible assumption | refine Step.drew ?_ | refine Step.drewN ?_ _ | refine Step.alloc ?_ _))⟩
    · have hm : actMay ⟨7, c, true, p, n, t⟩ = false := by simp [actMay, isEdit, isBreak, isMove, *] <;> omega
      rw [hm]
      clear hm hsz
      go_enter Tryd.func15, Tryd.ntmps15
      go_wp2
      go_ret
      exact ⟨rfl, (by repeat' (first | exact Step.refl _ _ | with_reducible assumption | refine Step.drew ?_ | refine Step.drewN ?_ _ | refine Step.alloc ?_ _))⟩
end Go.Proofs.YtjeamfoicpgkhaaDoor.ScrW
