/- The contract of the program's Sum: it gives the weighted sum of a text's bytes, and leaves memory alone. -/
import Derived.Test.YtmhnnkifkbamoaaProg
import Derived.Test.YtmhnnkifkbamoaaSumMath
import Derived.WalkKit
import Derived.Lib.Hide
import Derived.BigQuiet
import Derived.Deep.QuietTactic
import Derived.Deep.DeepFit
import Derived.Outline
namespace Go.Proofs.Ytmhnnkifkbamoaa.SumWalk
open Go.RowKit Go.Proofs.Ytmhnnkifkbamoaa.SumMath
set_option linter.unusedVariables false
set_option linter.unusedSimpArgs false

theorem sum_step (l : List UInt8) (k : Nat) (h : k < l.length) :
    sumL (l.take (k + 1)) = (sumL (l.take k) + ((k : Int) + 1) % 1000003 * (l[k].toNat : Int)) % 1000003 := by
  unfold sumL
  rw [List.take_succ_eq_append_getElem h, wsum_append]
  have hl : (l.take k).length = k := by rw [List.length_take]; omega
  rw [hl]
  simp only [wsum]
  rw [show (0 : Int) + (k : Int) + 1 = (k : Int) + 1 from by omega]
  have e : ((k : Int) + 1) * (l[k].toNat : Int) = ((k : Int) + 1) % 1000003 * (l[k].toNat : Int) + 1000003 * (((k : Int) + 1) / 1000003 * (l[k].toNat : Int)) := by
    rw [← Int.mul_assoc, ← Int.add_mul, Int.emod_add_mul_ediv]
  rw [e]
  generalize ((k : Int) + 1) % 1000003 * (l[k].toNat : Int) = a
  generalize ((k : Int) + 1) / 1000003 * (l[k].toNat : Int) = b
  omega
theorem step_bound (k : Int) (c : Int) (hc : 0 ≤ c ∧ c ≤ 255) : 0 ≤ (k + 1) % 1000003 * c ∧ (k + 1) % 1000003 * c ≤ 255000765 := by
  have h1 : 0 ≤ (k + 1) % 1000003 := Int.emod_nonneg _ (by omega)
  have h2 : (k + 1) % 1000003 < 1000003 := Int.emod_lt_of_pos _ (by omega)
  have := Int.mul_le_mul (show (k + 1) % 1000003 ≤ 1000003 by omega) hc.2 hc.1 (by omega)
  exact ⟨Int.mul_nonneg h1 hc.1, by omega⟩
set_option maxHeartbeats 400000 in
theorem sum_any (s : ByteArray) (w : World) (hs : s.size ≤ 140737488351232) :
    Calls Try.prog 15 #[.string s] w fun e w' => e = .returned (.int .i64 (sumL s.data.toList)) ∧ w' = w := by
  go_enter Try.func15, Try.ntmps15
  go_wp2
  go_loop [3, 7] (fun n i => ∃ k : Nat, k ≤ s.size ∧ i = .int .i64 k ∧ n = .int .i64 (sumL (s.data.toList.take k))) (fun _ i => s.size - (intOf i).toNat)
  case atStart => exact ⟨0, Nat.zero_le _, rfl, rfl⟩
  case round =>
    obtain ⟨k, hk, rfl, rfl⟩ := hrel
    by_cases hlt : k < s.size
    · have hl : k < s.data.toList.length := by simpa using hlt
      have hst := sum_step s.data.toList k hl
      have hr := sumL_range (s.data.toList.take k)
      have hb := s[k].toNat_lt
      have hm := step_bound (k : Int) (s[k].toNat : Int) (by omega)
      have HS : Hid (sumL (s.data.toList.take (k + 1)) = (sumL (s.data.toList.take k) + ((k : Int) + 1) % 1000003 * (s[k].toNat : Int)) % 1000003) := hst
      clear hst
      go_wp2
      go_round
      case rel => exact ⟨k + 1, by omega, by go_num, by rw [HS.out]⟩
      case measure => simp [intOf]; omega
    · go_wp2
      go_ret
      have e : s.data.toList.take k = s.data.toList := List.take_of_length_le (by rw [Array.length_toList]; show s.size ≤ k; omega)
      exact ⟨by rw [e]; rfl, rfl⟩
end Go.Proofs.Ytmhnnkifkbamoaa.SumWalk
