/- Tokens of a text, as plain functions. Nothing of the program stands here. -/
import Derived.Test.YtkamhpbfebdhjaaGreatDoorParS
namespace Go.Proofs.YtkamhpbfebdhjaaGreatDoor.LexS
open Go.Proofs.YtkamhpbfebdhjaaGreatDoor.ParS
set_option linter.unusedVariables false
/-- The byte at a place. -/
def bt (S : ByteArray) (i : Nat) : UInt8 := S.data.toList.getD i 0
theorem bt_at (S : ByteArray) (q : Nat) (h : q < S.size) : bt S q = S[q]'h := by
  unfold bt
  rw [List.getD_eq_getElem?_getD, List.getElem?_eq_getElem (by rw [Array.length_toList]; exact h)]
  rfl
def isBlank (b : UInt8) : Bool := b == 32 || b == 9 || b == 10 || b == 13
def isDigit (b : UInt8) : Bool := decide (48 ≤ b.toNat) && decide (b.toNat ≤ 57)
def isLetter (b : UInt8) : Bool := (decide (97 ≤ b.toNat) && decide (b.toNat ≤ 122)) || (decide (65 ≤ b.toNat) && decide (b.toNat ≤ 90)) || b == 95
def notNL (b : UInt8) : Bool := b != 10
/-- Behind the bytes of a kind that stand from a place on. -/
def spanF (p : UInt8 → Bool) (S : ByteArray) : Nat → Nat → Nat
  | 0, i => i
  | f + 1, i => if i < S.size ∧ p (bt S i) = true then spanF p S f (i + 1) else i
def spanTo (p : UInt8 → Bool) (S : ByteArray) (i : Nat) : Nat := spanF p S (S.size - i) i
theorem span_step {p : UInt8 → Bool} {S : ByteArray} {i : Nat} (h : i < S.size) (hp : p (bt S i) = true) : spanTo p S i = spanTo p S (i + 1) := by
  unfold spanTo
  rw [show S.size - i = (S.size - (i + 1)) + 1 by omega]
  simp only [spanF]
  rw [if_pos ⟨h, hp⟩]
theorem span_stop {p : UInt8 → Bool} {S : ByteArray} {i : Nat} (h : S.size ≤ i ∨ p (bt S i) = false) : spanTo p S i = i := by
  unfold spanTo
  cases S.size - i with
  | zero => rfl
  | succ n =>
    simp only [spanF]
    rw [if_neg]
    rintro ⟨h1, h2⟩
    rcases h with h | h
    · omega
    · rw [h2] at h; cases h
theorem spanF_ge (p : UInt8 → Bool) (S : ByteArray) : ∀ f i, i ≤ spanF p S f i
  | 0, i => Nat.le_refl _
  | f + 1, i => by
    simp only [spanF]
    split
    · exact Nat.le_trans (by omega) (spanF_ge p S f (i + 1))
    · exact Nat.le_refl _
theorem spanF_le (p : UInt8 → Bool) (S : ByteArray) : ∀ f i, i ≤ S.size → spanF p S f i ≤ S.size
  | 0, i, h => h
  | f + 1, i, h => by
    simp only [spanF]
    split
    · rename_i hc; exact spanF_le p S f (i + 1) (by omega)
    · exact h
theorem span_ge (p : UInt8 → Bool) (S : ByteArray) (i : Nat) : i ≤ spanTo p S i := spanF_ge p S _ i
theorem span_le (p : UInt8 → Bool) (S : ByteArray) (i : Nat) (h : i ≤ S.size) : spanTo p S i ≤ S.size := spanF_le p S _ i h
/-! ### Numbers -/
def num0 (S : ByteArray) (z : Nat) : Nat := if bt S z = 45 then z + 1 else z
def num1 (S : ByteArray) (i : Nat) : Nat := if bt S i = 48 then i + 1 else spanTo isDigit S i
def num2 (S : ByteArray) (t : Nat) : Nat := if t + 1 < S.size ∧ bt S t = 46 ∧ isDigit (bt S (t + 1)) = true then spanTo isDigit S (t + 1) else t
def num3 (S : ByteArray) (t : Nat) : Nat := if t < S.size ∧ (bt S t = 43 ∨ bt S t = 45) then t + 1 else t
def num4 (S : ByteArray) (t : Nat) : Nat :=
  if t < S.size ∧ (bt S t = 101 ∨ bt S t = 69) then
    if num3 S (t + 1) < S.size ∧ isDigit (bt S (num3 S (t + 1))) = true then spanTo isDigit S (num3 S (t + 1)) else t
  else t
def numberS (S : ByteArray) (z : Nat) : Nat := if num0 S z < S.size ∧ isDigit (bt S (num0 S z)) = true then num4 S (num2 S (num1 S (num0 S z))) else z
theorem num1_le {S : ByteArray} {i : Nat} (h : i < S.size) : i ≤ num1 S i ∧ num1 S i ≤ S.size := by
  unfold num1
  split
  · omega
  · exact ⟨span_ge _ _ _, span_le _ _ _ (by omega)⟩
theorem num2_le {S : ByteArray} {i : Nat} (h : i ≤ S.size) : i ≤ num2 S i ∧ num2 S i ≤ S.size := by
  unfold num2
  split
  · exact ⟨Nat.le_trans (Nat.le_succ _) (span_ge _ _ _), span_le _ _ _ (by omega)⟩
  · omega
theorem num3_le {S : ByteArray} {i : Nat} (h : i ≤ S.size) : i ≤ num3 S i ∧ num3 S i ≤ S.size := by
  unfold num3
  split <;> omega
theorem num4_le {S : ByteArray} {i : Nat} (h : i ≤ S.size) : i ≤ num4 S i ∧ num4 S i ≤ S.size := by
  unfold num4
  split
  · split
    · have h3 := num3_le (S := S) (i := i + 1) (by omega)
      exact ⟨by have := span_ge isDigit S (num3 S (i + 1)); omega, span_le _ _ _ h3.2⟩
    · omega
  · omega
theorem number_le {S : ByteArray} {z : Nat} (h : z < S.size) : z ≤ numberS S z ∧ numberS S z ≤ S.size := by
  unfold numberS
  split
  · rename_i hc
    have h1 := num1_le hc.1
    have h2 := num2_le h1.2
    have h4 := num4_le h2.2
    have h0 : z ≤ num0 S z := by unfold num0; split <;> omega
    omega
  · omega
/-! ### Texts in quotes, remarks -/
def quoteF (S : ByteArray) : Nat → Nat → Nat × Bool
  | 0, i => (i, false)
  | f + 1, i =>
    if i < S.size ∧ bt S i ≠ 10 then
      if bt S i = 34 then (i + 1, true)
      else if bt S i = 92 ∧ i + 1 < S.size ∧ bt S (i + 1) ≠ 10 then quoteF S f (i + 2) else quoteF S f (i + 1)
    else (i, false)
def quoteS (S : ByteArray) (z : Nat) : Nat × Bool := quoteF S S.size (z + 1)
theorem quoteF_le (S : ByteArray) : ∀ f i, i ≤ S.size → i ≤ (quoteF S f i).1 ∧ (quoteF S f i).1 ≤ S.size
  | 0, i, h => ⟨Nat.le_refl _, h⟩
  | f + 1, i, h => by
    simp only [quoteF]
    split
    · split
      · simp only; omega
      · split
        · have := quoteF_le S f (i + 2) (by omega); omega
        · have := quoteF_le S f (i + 1) (by omega); omega
    · exact ⟨Nat.le_refl _, h⟩
def starF (S : ByteArray) : Nat → Nat → Nat × Bool
  | 0, i => (S.size, false)
  | f + 1, i => if i + 1 < S.size then (if bt S i = 42 ∧ bt S (i + 1) = 47 then (i + 2, true) else starF S f (i + 1)) else (S.size, false)
theorem starF_le (S : ByteArray) : ∀ f i, i ≤ S.size → i ≤ (starF S f i).1 ∧ (starF S f i).1 ≤ S.size
  | 0, i, h => ⟨h, Nat.le_refl _⟩
  | f + 1, i, h => by
    simp only [starF]
    split
    · split
      · simp only; omega
      · have := starF_le S f (i + 1) (by omega); omega
    · exact ⟨h, Nat.le_refl _⟩
def remarkS (S : ByteArray) (z : Nat) : Nat × Bool :=
  if z + 1 < S.size ∧ bt S (z + 1) = 47 then (spanTo notNL S z, true)
  else if z + 1 < S.size ∧ bt S (z + 1) = 42 then starF S S.size (z + 2)
  else (z + 1, false)
/-! ### Tokens -/
def signOf (b : UInt8) : Option Int := if b = 123 then some 0 else if b = 125 then some 1 else if b = 91 then some 2 else if b = 93 then some 3 else if b = 58 then some 4 else if b = 44 then some 5 else none
def wordAt (S : ByteArray) (i j : Nat) : Bool := ((S.data.toList.drop i).take (j - i)) == [116, 114, 117, 101] || ((S.data.toList.drop i).take (j - i)) == [102, 97, 108, 115, 101] || ((S.data.toList.drop i).take (j - i)) == [110, 117, 108, 108]
def tokenS (S : ByteArray) (z : Nat) : Int × Nat :=
  match signOf (bt S z) with
  | some k => (k, z + 1)
  | none =>
    if isBlank (bt S z) = true then (10, spanTo isBlank S (z + 1))
    else if bt S z = 34 then (if (quoteS S z).2 = true then 6 else 11, (quoteS S z).1)
    else if bt S z = 47 then (if (remarkS S z).2 = true then 9 else 11, (remarkS S z).1)
    else if isLetter (bt S z) = true then (if wordAt S z (spanTo isLetter S (z + 1)) = true then 8 else 11, spanTo isLetter S (z + 1))
    else if z < numberS S z then (7, numberS S z) else (11, z + 1)
theorem token_le {S : ByteArray} {z : Nat} (h : z < S.size) : z < (tokenS S z).2 ∧ (tokenS S z).2 ≤ S.size := by
  unfold tokenS
  split
  · simp only; omega
  · split
    · have h1 := span_ge isBlank S (z + 1)
      have h2 := span_le isBlank S (z + 1) (by omega)
      simp only; omega
    · split
      · have := quoteF_le S S.size (z + 1) (by omega)
        simp only [quoteS]; omega
      · split
        · simp only [remarkS]
          split
          · rename_i hc
            rename_i h1 h2 h3 h4
            have e := span_step (p := notNL) h (by rw [h4]; decide)
            have h1 := span_ge notNL S (z + 1)
            have h2 := span_le notNL S (z + 1) (by omega)
            simp only; omega
          · split
            · have := starF_le S S.size (z + 2) (by omega)
              omega
            · simp only; omega
        · split
          · have h1 := span_ge isLetter S (z + 1)
            have h2 := span_le isLetter S (z + 1) (by omega)
            simp only; omega
          · split
            · have := number_le h
              simp only; omega
            · simp only; omega
def toksF (S : ByteArray) : Nat → Nat → List TokD
  | 0, z => []
  | f + 1, z => if z < S.size then ⟨(tokenS S z).1, z, ((tokenS S z).2 : Nat)⟩ :: toksF S f (tokenS S z).2 else []
def toksS (S : ByteArray) : List TokD := toksF S S.size 0
theorem toksF_len (S : ByteArray) : ∀ f z, (toksF S f z).length ≤ S.size - z
  | 0, z => Nat.zero_le _
  | f + 1, z => by
    simp only [toksF]
    split
    · rename_i h
      have := token_le h
      have := toksF_len S f (tokenS S z).2
      simp only [List.length_cons]
      omega
    · exact Nat.zero_le _
/-- Tokens that are no blanks nor remarks. -/
def solid (t : TokD) : Bool := t.kind != 10 && t.kind != 9
def solidS (S : ByteArray) : List TokD := (toksS S).filter solid
theorem solid_len (S : ByteArray) : (solidS S).length ≤ S.size := Nat.le_trans (List.length_filter_le _ _) (toksF_len S S.size 0)
/-- The tree of a text. -/
def parseS (S : ByteArray) : Data.TreeD := treeS (solidS S) S.size
end Go.Proofs.YtkamhpbfebdhjaaGreatDoor.LexS
