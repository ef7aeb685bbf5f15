/- For every text the program's Sum is the document's sum, and the package is awake; no condition beside the length of a text that a machine can hold. -/
import Derived.Test.YtmhnnkifkbamoaaPSumsx1
namespace Go.Proofs.Ytmhnnkifkbamoaa.Pure
open Go.RowKit Go.Proofs.Ytmhnnkifkbamoaa.PSums Go.Proofs.YtmhnnkifkbamoaaW.PrintWords Go.Proofs.YtmhnnkifkbamoaaW.PrintLast
set_option linter.unusedVariables false
set_option linter.unusedSimpArgs false

/-- The sum of the bytes from a place on, behind what is summed already. -/
def sumFrom (s : ByteArray) : Nat → Int → Int → Int
  | 0, x, _ => x
  | d + 1, x, i => sumFrom s d ((x + (i + 1) % 1000003 * bt s i) % 1000003) (i + 1)

theorem step_small (x i b : Int) (hx : 0 ≤ x ∧ x < 1000003) (hi : 0 ≤ i ∧ i < 140737488351232) (hb : 0 ≤ b ∧ b ≤ 255) :
    0 ≤ (i + 1) % 1000003 * b ∧ (i + 1) % 1000003 * b ≤ 1000003 * 255 := by
  have h1 : 0 ≤ (i + 1) % 1000003 := Int.emod_nonneg _ (by omega)
  have h2 : (i + 1) % 1000003 < 1000003 := Int.emod_lt_of_pos _ (by omega)
  exact ⟨Int.mul_nonneg h1 hb.1, Int.mul_le_mul (by omega) hb.2 hb.1 (by omega)⟩

theorem sum_loop (s : ByteArray) (hs : s.size ≤ 140737488351232) (d : Nat) : ∀ (k : Nat) (x i : Int), 0 ≤ x → x < 1000003 → 0 ≤ i → (s.size : Int) - i = d → d < k →
    sum_Sum.l0 k s x (s.size : Int) i = some (sumFrom s d x i) ∧ minuetref16_Sum.l0 k s x i = some (sumFrom s d x i) := by
  induction d with
  | zero =>
    intro k x i h0 h1 h2 h3 hk
    obtain ⟨k, rfl⟩ : ∃ m, k = m + 1 := ⟨k - 1, by omega⟩
    simp only [sum_Sum.l0, minuetref16_Sum.l0, sumFrom]
    rw [if_neg (by omega), if_neg (by omega)]
    exact ⟨rfl, rfl⟩
  | succ d ih =>
    intro k x i h0 h1 h2 h3 hk
    obtain ⟨k, rfl⟩ : ∃ m, k = m + 1 := ⟨k - 1, by omega⟩
    have hb := bt_range s i
    have hm := step_small x i (bt s i) ⟨h0, h1⟩ ⟨h2, by omega⟩ hb
    have e1 : wrap64 (i + 1) = i + 1 := by unfold wrap64; omega
    have e2 : wrap64 (bt s i) = bt s i := by unfold wrap64; omega
    have e3 : Int.tmod (i + 1) 1000003 = (i + 1) % 1000003 := Int.tmod_eq_emod_of_nonneg (by omega)
    have e3' : Int.tmod i 1000003 = i % 1000003 := Int.tmod_eq_emod_of_nonneg (by omega)
    have e4 : wrap64 ((i + 1) % 1000003 * bt s i) = (i + 1) % 1000003 * bt s i := by generalize (i + 1) % 1000003 * bt s i = m at hm; unfold wrap64; omega
    have e5 : wrap64 (x + (i + 1) % 1000003 * bt s i) = x + (i + 1) % 1000003 * bt s i := by generalize (i + 1) % 1000003 * bt s i = m at hm; unfold wrap64; omega
    have e6 : Int.tmod (x + (i + 1) % 1000003 * bt s i) 1000003 = (x + (i + 1) % 1000003 * bt s i) % 1000003 := Int.tmod_eq_emod_of_nonneg (by omega)
    have e7 : wrap64 (i % 1000003 + 1) = i % 1000003 + 1 := by unfold wrap64; omega
    have e8 : Int.tmod (i % 1000003 + 1) 1000003 = (i + 1) % 1000003 := by rw [Int.tmod_eq_emod_of_nonneg (by omega)]; omega
    have hx' := Int.emod_nonneg (x + (i + 1) % 1000003 * bt s i) (show (1000003 : Int) ≠ 0 by omega)
    have hx'' := Int.emod_lt_of_pos (x + (i + 1) % 1000003 * bt s i) (show (0 : Int) < 1000003 by omega)
    obtain ⟨g1, g2⟩ := ih k ((x + (i + 1) % 1000003 * bt s i) % 1000003) (i + 1) hx' hx'' (by omega) (by omega) (by omega)
    simp only [sum_Sum.l0, minuetref16_Sum.l0, sumFrom]
    rw [if_pos (by omega), if_pos h2, if_pos (by omega), if_pos (by omega), if_pos h2, e1, e2, e3, e3', e7, e8, e4, e5, e6]
    exact ⟨g1, g2⟩

theorem sum_some (s : ByteArray) (hs : s.size ≤ 140737488351232) (k : Nat) (hk : s.size < k) :
    sum_Sum.f k s = some (sumFrom s s.size 0 0) ∧ minuetref16_Sum.f k s = some (sumFrom s s.size 0 0) :=
  sum_loop s hs s.size k 0 0 (by omega) (by omega) (by omega) (by omega) hk

theorem Sums : minuetlaw16_Sums.Pure := by
  intro s hs
  refine ⟨s.size + 3, ?_⟩
  obtain ⟨g1, g2⟩ := sum_some s hs (s.size + 3) (by omega)
  obtain ⟨a1, _⟩ := sum_some (⟨#[]⟩ : ByteArray) (by decide) (s.size + 3) (by show 0 < _; omega)
  obtain ⟨a2, _⟩ := sum_some (⟨#[97, 98]⟩ : ByteArray) (by decide) (s.size + 3) (by show 2 < _; omega)
  obtain ⟨a3, _⟩ := sum_some (⟨#[97]⟩ : ByteArray) (by decide) (s.size + 3) (by show 1 < _; omega)
  have b1 : sumFrom (⟨#[]⟩ : ByteArray) (⟨#[]⟩ : ByteArray).size 0 0 = 0 := by decide +kernel
  have b2 : sumFrom (⟨#[97, 98]⟩ : ByteArray) (⟨#[97, 98]⟩ : ByteArray).size 0 0 = 293 := by decide +kernel
  have b3 : sumFrom (⟨#[97]⟩ : ByteArray) (⟨#[97]⟩ : ByteArray).size 0 0 = 97 := by decide +kernel
  rw [b1] at a1
  rw [b2] at a2
  rw [b3] at a3
  unfold minuetlaw16_Sums.f minuetlaw16_awake.f minuetlaw0_Num.f
  rw [g1, g2, a1, a2, a3]
  simp

end Go.Proofs.Ytmhnnkifkbamoaa.Pure
