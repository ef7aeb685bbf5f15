/- Decimal numerals: what is written reads back; nothing of the program stands here. -/
import Derived.Lib.ItoaMem
import Derived.Lib.ItoaLen
import Derived.Lib.AtoiTie
import Derived.Lib.AtoiAllCases
namespace Go.Proofs.YtjeamfoicpgkhaaDoor.Dec
open Go.Lib
theorem dec_mem (u : Nat) : ∀ b ∈ decDigits u, 48 ≤ b.toNat ∧ b.toNat ≤ 57 := by
  induction u using Nat.strongRecOn with
  | ind u ih =>
    intro b hb
    rw [decDigits] at hb
    by_cases h : u < 10
    · rw [dif_pos h] at hb
      rw [List.mem_singleton] at hb
      subst hb
      rw [UInt8.toNat_ofNat']
      omega
    · rw [dif_neg h, List.mem_append, List.mem_singleton] at hb
      rcases hb with hb | rfl
      · exact ih (u / 10) (by omega) b hb
      · rw [UInt8.toNat_ofNat']
        omega
theorem dec_ne (u : Nat) : decDigits u ≠ [] := by
  intro h
  have h1 := decDigits_length u
  have h2 := nDigits_pos u
  rw [h] at h1
  simp at h1
  omega
theorem decFrom_append : ∀ (l m : List UInt8) (acc : Nat), decFrom acc (l ++ m) = (decFrom acc l).bind fun n => decFrom n m
  | [], m, acc => rfl
  | b :: r, m, acc => by
    simp only [List.cons_append, decFrom]
    cases digitVal b with
    | none => rfl
    | some d => exact decFrom_append r m _
theorem digit_ok (d : Nat) (h : d < 10) : digitVal (UInt8.ofNat (48 + d)) = some d := by
  unfold digitVal
  rw [UInt8.toNat_ofNat', if_pos (by omega)]
  congr 1
  omega
theorem decFrom_dec (u : Nat) : decFrom 0 (decDigits u) = some u := by
  induction u using Nat.strongRecOn with
  | ind u ih =>
    rw [decDigits]
    by_cases h : u < 10
    · rw [dif_pos h]
      simp only [decFrom, digit_ok u h]
      congr 1
      omega
    · rw [dif_neg h, decFrom_append, ih (u / 10) (by omega)]
      simp only [Option.bind_some, decFrom, digit_ok (u % 10) (by omega)]
      congr 1
      omega
theorem decNat_dec (u : Nat) : decNat (decDigits u) = some u := by
  unfold decNat
  rw [if_neg (by have := dec_ne u; simpa using this)]
  exact decFrom_dec u
theorem atoi_dec (u : Nat) : atoi (decDigits u) = some (u : Int) := by
  have h1 := dec_mem u
  have h2 := decNat_dec u
  cases h : decDigits u with
  | nil => exact absurd h (dec_ne u)
  | cons b r =>
    rw [h] at h1 h2
    have hb := h1 b (by simp)
    show (if (b == 45) = true then (decNat r).map fun (m : Nat) => -(m : Int) else if (b == 43) = true then (decNat r).map fun (m : Nat) => (m : Int) else (decNat (b :: r)).map fun (m : Nat) => (m : Int)) = _
    have e1 : (b == 45) = false := by
      rw [beq_eq_false_iff_ne]
      rintro rfl
      exact absurd hb.1 (by decide)
    have e2 : (b == 43) = false := by
      rw [beq_eq_false_iff_ne]
      rintro rfl
      exact absurd hb.1 (by decide)
    rw [e1, e2]
    simp [h2]
theorem atoiAll_dec (u : Nat) (h : (decDigits u).length ≤ 18) : atoiAll (decDigits u) = .ok (u : Int) := by
  rw [atoiAll_short _ h, atoi_dec]
  rfl
theorem nDigits_le (k : Nat) : ∀ u : Nat, u < 10 ^ (k + 1) → nDigits u ≤ k + 1 := by
  induction k with
  | zero =>
    intro u h
    rw [nDigits_small (by omega)]
    exact Nat.le_refl _
  | succ k ih =>
    intro u h
    by_cases hs : u < 10
    · rw [nDigits_small hs]
      omega
    · rw [nDigits_big hs]
      have := ih (u / 10) (by rw [Nat.pow_succ] at h; omega)
      omega
theorem dec_short (u : Nat) (h : u < 1000000000) : (decDigits u).length ≤ 9 := by
  rw [decDigits_length]
  exact nDigits_le 8 u (by simpa using h)
/-- Up to the first e. -/
def cutAt (e : UInt8) : List UInt8 → Option (List UInt8 × List UInt8)
  | [] => none
  | b :: r => if b = e then some ([], r) else (cutAt e r).map fun p => (b :: p.1, p.2)
theorem cutAt_app (e : UInt8) : ∀ (l r : List UInt8), (∀ b ∈ l, b ≠ e) → cutAt e (l ++ e :: r) = some (l, r)
  | [], r, _ => by simp [cutAt]
  | b :: l, r, h => by
    have hb : b ≠ e := h b (by simp)
    simp only [List.cons_append, cutAt, if_neg hb, cutAt_app e l r (fun x hx => h x (by simp [hx]))]
    rfl
theorem cutAt_dec (e : UInt8) (he : e.toNat < 48 ∨ 57 < e.toNat) (u : Nat) (r : List UInt8) : cutAt e (decDigits u ++ e :: r) = some (decDigits u, r) :=
  cutAt_app e _ r fun b hb h => by
    subst h
    have := dec_mem u b hb
    omega
end Go.Proofs.YtjeamfoicpgkhaaDoor.Dec
