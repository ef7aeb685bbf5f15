/- Texts that are no frames, though their parts are right. Nothing of the program stands here. -/
import Derived.Test.YtjeamfoicpgkhaaGreatDoorLumpA
namespace Go.Proofs.YtjeamfoicpgkhaaGreatDoor.FrB
open Go.Lib Go.Proofs.YtjeamfoicpgkhaaGreatDoor.Dec Go.Proofs.YtjeamfoicpgkhaaGreatDoor.Take Go.Proofs.YtjeamfoicpgkhaaGreatDoor.SumMath Go.Proofs.YtjeamfoicpgkhaaGreatDoor.Fr
set_option linter.unusedVariables false
set_option linter.unusedSimpArgs false
theorem split_at {A B X Y : List UInt8} (hA : (58 : UInt8) ∉ A) (hB : (58 : UInt8) ∉ B) (h : A ++ 58 :: X = B ++ 58 :: Y) : A = B ∧ X = Y := by
  induction A generalizing B with
  | nil =>
    cases B with
    | nil => simpa using h
    | cons b B => simp at h; exact absurd h.1.symm (fun e => hB (by simp [e]))
  | cons a A ih =>
    cases B with
    | nil => simp at h; exact absurd h.1 (fun e => hA (by simp [e]))
    | cons b B =>
      simp at h
      obtain ⟨h1, h2⟩ := ih (B := B) (fun e => hA (by simp [e])) (fun e => hB (by simp [e])) h.2
      exact ⟨by rw [h.1, h1], h2⟩
theorem dec_no (u : Nat) : (58 : UInt8) ∉ decDigits u := fun h => dig_ne h rfl
theorem dec_ne (u : Nat) : decDigits u ≠ [] := fun e => by
  have := nDigits_pos u
  rw [← decDigits_length, e] at this
  exact absurd this (by simp)
theorem dec_dig {u : Nat} {b : UInt8} (h : b ∈ decDigits u) : 48 ≤ b.toNat ∧ b.toNat ≤ 57 := dec_mem u b h
/-- A numeral does not begin with a nought, but for nought's own. -/
theorem dec_head : ∀ (u : Nat) (l : List UInt8), decDigits u = 48 :: l → l = [] := by
  intro u
  induction u using Nat.strongRecOn with
  | ind u ih =>
    intro l h
    by_cases hu : u < 10
    · rw [decDigits, dif_pos hu] at h
      injection h with _ h
      exact h.symm
    · rw [decDigits, dif_neg hu] at h
      cases hd : decDigits (u / 10) with
      | nil => exact absurd hd (dec_ne _)
      | cons b r =>
        rw [hd] at h
        simp only [List.cons_append] at h
        injection h with h1 h2
        subst h1
        have := ih (u / 10) (by omega) r hd
        subst this
        have h3 := decNat_dec (u / 10)
        rw [hd] at h3
        have h4 : decDigits (u / 10) = decDigits 0 := by rw [hd]; simp [decDigits]
        have h5 := dec_inj h4
        omega
def wr (K C S : List UInt8) : List UInt8 := K ++ 58 :: (C ++ 58 :: S)
theorem wrap_wr (b : List UInt8) : wrapS b = wr (decDigits b.length) (decDigits (sumL b).toNat) b := wrap_three b
theorem head_dig {b l : List UInt8} {x : UInt8} (h : wrapS b = x :: l) : 48 ≤ x.toNat ∧ x.toNat ≤ 57 := by
  rw [wrap_wr] at h
  unfold wr at h
  cases hd : decDigits b.length with
  | nil => exact absurd hd (dec_ne _)
  | cons c r =>
    rw [hd] at h
    simp only [List.cons_append] at h
    injection h with h1 _
    subst h1
    exact dec_dig (u := b.length) (by rw [hd]; simp)
theorem parts {b K C S : List UInt8} (hK : (58 : UInt8) ∉ K) (hC : (58 : UInt8) ∉ C) (h : wrapS b = wr K C S) : decDigits b.length = K ∧ decDigits (sumL b).toNat = C ∧ b = S := by
  rw [wrap_wr] at h
  obtain ⟨h1, h2⟩ := split_at (dec_no _) hK h
  obtain ⟨h3, h4⟩ := split_at (dec_no _) hC h2
  exact ⟨h1, h3, h4⟩
def nines : List UInt8 := [57, 57, 57, 57, 57, 57, 57, 57, 57, 57]
def badL (S K C K1 C1 : List UInt8) : List (List UInt8) := [[], [58], [58, 58], K ++ 58 :: (C ++ [58]), K ++ 58 :: C, 48 :: wr K C S, K ++ 58 :: 48 :: (C ++ 58 :: S), 32 :: wr K C S, wr K C S ++ [32], K ++ 59 :: (C ++ 58 :: S), 45 :: wr K C S, wr K C S ++ wr K C S, wr K1 C S, wr K C1 S, wr nines C S, S]
theorem not48 {u : Nat} : (48 : UInt8) :: decDigits u ≠ decDigits u := fun e => by
  have := congrArg List.length e
  simp at this
theorem bad_none {S l : List UInt8} (hS : S = 80 :: l) (hn : S.length ≤ 1000) (j : Nat) (hj : j < 16) (b : List UInt8) (hb : b.length < 1000000000) (x : List UInt8)
    (hx : (badL S (decDigits S.length) (decDigits (sumL S).toNat) (decDigits (S.length + 1)) (decDigits ((sumL S).toNat + 1)))[j]? = some x) : wrapS b ≠ x := by
  intro h
  have hW := wrap_wr S
  have hne : S ≠ [] := by rw [hS]; simp
  have hr := sumL_range S
  have hrb := sumL_range b
  have hl : (wrapS b).length ≥ 4 := by
    rw [wrap_three, three_len]
    have h1 := nDigits_pos b.length
    have h2 := nDigits_pos (sumL b).toNat
    rw [← decDigits_length] at h1 h2
    omega
  have dK := dec_no S.length
  have dC := dec_no (sumL S).toNat
  unfold badL at hx
  match j, hj with
  | 0, _ => injection hx with hx; subst hx; rw [h] at hl; simp at hl
  | 1, _ => injection hx with hx; subst hx; rw [h] at hl; simp at hl
  | 2, _ => injection hx with hx; subst hx; rw [h] at hl; simp at hl
  | 3, _ =>
    injection hx with hx
    subst hx
    exact hne (wrap_ends (a := b) (b := S) (r := S) hb (by omega) (by rw [h, hW]; simp [wr]))
  | 4, _ =>
    injection hx with hx
    subst hx
    exact absurd (wrap_ends (a := b) (b := S) (r := 58 :: S) hb (by omega) (by rw [h, hW]; simp [wr])) (by simp)
  | 5, _ =>
    injection hx with hx
    subst hx
    have h' : wrapS b = wr (48 :: decDigits S.length) (decDigits (sumL S).toNat) S := h
    obtain ⟨h1, -, -⟩ := parts (by simp [dK]) dC h'
    exact dec_ne _ (dec_head _ _ h1)
  | 6, _ =>
    injection hx with hx
    subst hx
    have h' : wrapS b = wr (decDigits S.length) (48 :: decDigits (sumL S).toNat) S := h
    obtain ⟨-, h1, -⟩ := parts dK (by simp [dC]) h'
    exact dec_ne _ (dec_head _ _ h1)
  | 7, _ => injection hx with hx; subst hx; exact absurd (head_dig h).1 (by decide)
  | 8, _ =>
    injection hx with hx
    subst hx
    exact absurd (wrap_ends (a := S) (r := [32]) (by omega) hb (by rw [h, hW])) (by simp)
  | 9, _ =>
    injection hx with hx
    subst hx
    rw [wrap_wr] at h
    have h' : decDigits b.length ++ 58 :: (decDigits (sumL b).toNat ++ 58 :: b) = (decDigits S.length ++ 59 :: decDigits (sumL S).toNat) ++ 58 :: S := by
      rw [show decDigits b.length ++ 58 :: (decDigits (sumL b).toNat ++ 58 :: b) = wr (decDigits b.length) (decDigits (sumL b).toNat) b from rfl, h]
      simp
    obtain ⟨h1, -⟩ := split_at (dec_no _) (by simp [dK, dC]) h'
    have := dec_dig (u := b.length) (b := 59) (by rw [h1]; simp)
    exact absurd this.2 (by decide)
  | 10, _ => injection hx with hx; subst hx; exact absurd (head_dig h).1 (by decide)
  | 11, _ =>
    injection hx with hx
    subst hx
    have := wrap_ends (a := S) (r := wr (decDigits S.length) (decDigits (sumL S).toNat) S) (by omega) hb (by rw [h, hW])
    rw [← hW] at this
    have h3 := congrArg List.length this
    rw [hW] at h3
    simp [wr] at h3
  | 12, _ =>
    injection hx with hx
    subst hx
    obtain ⟨h1, -, h2⟩ := parts (dec_no _) dC h
    subst h2
    have := dec_inj h1
    omega
  | 13, _ =>
    injection hx with hx
    subst hx
    obtain ⟨-, h1, h2⟩ := parts dK (dec_no _) h
    subst h2
    have := dec_inj h1
    omega
  | 14, _ =>
    injection hx with hx
    subst hx
    obtain ⟨h1, -, h2⟩ := parts (by decide) dC h
    subst h2
    have h3 := congrArg List.length h1
    have h4 := dec_short b.length (by omega)
    simp [nines] at h3
    omega
  | 15, _ =>
    injection hx with hx
    subst hx
    rw [hS] at h
    exact absurd (head_dig h).2 (by decide)
end Go.Proofs.YtjeamfoicpgkhaaGreatDoor.FrB
