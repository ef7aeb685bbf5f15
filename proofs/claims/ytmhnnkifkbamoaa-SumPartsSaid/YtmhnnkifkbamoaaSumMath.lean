/- Plain laws on weighted sums of bytes modulo 1000003: nothing of the program stands here. -/
import Derived.WalkKit
namespace Go.Proofs.Ytmhnnkifkbamoaa.SumMath
set_option linter.unusedVariables false
set_option linter.unusedSimpArgs false

/-- Each byte with its place, from a place on. -/
def wsum : List UInt8 → Int → Int
  | [], _ => 0
  | b :: l, i => (i + 1) * (b.toNat : Int) + wsum l (i + 1)
/-- All bytes. -/
def bsum : List UInt8 → Int
  | [] => 0
  | b :: l => (b.toNat : Int) + bsum l
def sumL (l : List UInt8) : Int := wsum l 0 % 1000003

theorem wsum_shift (l : List UInt8) : ∀ i k : Int, wsum l (i + k) = wsum l i + k * bsum l := by
  induction l with
  | nil => intro i k; simp [wsum, bsum]
  | cons b l ih =>
    intro i k
    simp only [wsum, bsum]
    rw [show i + k + 1 = (i + 1) + k from by omega, ih, Int.mul_add, Int.add_mul (i + 1) k]
    omega
theorem wsum_append (l m : List UInt8) : ∀ i : Int, wsum (l ++ m) i = wsum l i + wsum m (i + l.length) := by
  induction l with
  | nil => intro i; simp [wsum]
  | cons b l ih =>
    intro i
    simp only [wsum, List.cons_append, List.length_cons]
    rw [ih, show i + 1 + (l.length : Int) = i + ((l.length + 1 : Nat) : Int) from by omega]
    omega
theorem bsum_range (l : List UInt8) : 0 ≤ bsum l ∧ bsum l ≤ 255 * l.length := by
  induction l with
  | nil => simp [bsum]
  | cons b l ih =>
    have := b.toNat_lt
    simp only [bsum, List.length_cons]
    omega
theorem bsum_append (l m : List UInt8) : bsum (l ++ m) = bsum l + bsum m := by
  induction l with
  | nil => simp [bsum]
  | cons b l ih => simp only [bsum, List.cons_append]; omega
theorem sumL_range (l : List UInt8) : 0 ≤ sumL l ∧ sumL l < 1000003 := by unfold sumL; omega
theorem sumL_append (l m : List UInt8) : sumL (l ++ m) = (sumL l + sumL m + l.length * bsum m) % 1000003 := by
  unfold sumL
  rw [wsum_append, show (0 : Int) + (l.length : Int) = 0 + (l.length : Int) from rfl, wsum_shift]
  generalize (l.length : Int) * bsum m = c
  omega
theorem wsum_set (l : List UInt8) : ∀ (j : Nat) (c : UInt8) (i : Int), (h : j < l.length) → wsum (l.set j c) i = wsum l i + (i + j + 1) * ((c.toNat : Int) - (l[j].toNat : Int)) := by
  induction l with
  | nil => intro j c i h; simp at h
  | cons b l ih =>
    intro j c i h
    cases j with
    | zero =>
      simp only [List.set_cons_zero, wsum, List.getElem_cons_zero]
      rw [show i + ((0 : Nat) : Int) + 1 = i + 1 from by omega, Int.mul_sub]
      omega
    | succ j =>
      simp only [List.set_cons_succ, wsum, List.getElem_cons_succ]
      rw [ih j c (i + 1) (by simpa using h), show i + 1 + (j : Int) + 1 = i + ((j + 1 : Nat) : Int) + 1 from by omega]
      omega
theorem bytes_coprime : ∀ c, c < 256 → 0 < c → Nat.gcd c 1000003 = 1 := by decide +kernel
/-- A place below the prime times an unlike byte is no multiple of it. -/
theorem no_multiple (a b : Int) (ha : a ≠ 0) (ha' : -1000003 < a ∧ a < 1000003) (hb : b ≠ 0) (hb' : -256 < b ∧ b < 256) : ¬ (1000003 : Int) ∣ a * b := by
  intro h
  have h1 := Int.natAbs_dvd_natAbs.2 h
  rw [Int.natAbs_mul] at h1
  have h2 : Nat.Coprime 1000003 b.natAbs := by
    rw [Nat.coprime_comm]
    exact bytes_coprime b.natAbs (by omega) (by omega)
  have h3 := Nat.Coprime.dvd_of_dvd_mul_right h2 h1
  have h4 := Nat.le_of_dvd (by omega) h3
  have h5 : ((1000003 : Int)).natAbs = 1000003 := rfl
  omega
theorem unlike_sums (x y a b : Int) (h : y = x + a * b) (ha : a ≠ 0) (ha' : -1000003 < a ∧ a < 1000003) (hb : b ≠ 0) (hb' : -256 < b ∧ b < 256) : y % 1000003 ≠ x % 1000003 := by
  intro e
  refine no_multiple a b ha ha' hb hb' ?_
  have h1 : a * b = y - x := by omega
  rw [h1]
  omega
theorem sumL_set (l : List UInt8) (j : Nat) (c : UInt8) (h : j < l.length) (hl : l.length ≤ 1000000) (hc : c ≠ l[j]) : sumL (l.set j c) ≠ sumL l := by
  unfold sumL
  have h1 : c.toNat ≠ l[j].toNat := fun e => hc (UInt8.toNat_inj.1 e)
  have h2 := c.toNat_lt
  have h3 := l[j].toNat_lt
  refine unlike_sums (wsum l 0) _ ((j : Int) + 1) ((c.toNat : Int) - (l[j].toNat : Int)) ?_ (by omega) (by omega) (by omega) (by omega)
  rw [wsum_set l j c 0 h, show (0 : Int) + (j : Int) + 1 = (j : Int) + 1 from by omega]
/-- Two bytes that change places. -/
theorem sumL_swap (l : List UInt8) (x y : Nat) (hx : x < l.length) (hy : y < l.length) (hl : l.length ≤ 1000000) :
    (sumL ((l.set x l[y]).set y l[x]) = sumL l) ↔ (l[x] = l[y] ∨ x = y) := by
  by_cases hxy : x = y
  · subst hxy
    simp
  · by_cases e : l[x] = l[y]
    · have h1 : (l.set x l[y]).set y l[x] = l := by
        rw [← e, List.set_getElem_self, e, List.set_getElem_self]
      exact ⟨fun _ => .inl e, fun _ => by rw [h1]⟩
    · refine ⟨fun h => ?_, fun h => absurd h (by simp [e, hxy])⟩
      exfalso
      have h1 : (l[x]).toNat ≠ (l[y]).toNat := fun e' => e (UInt8.toNat_inj.1 e')
      have h2 := (l[x]).toNat_lt
      have h3 := (l[y]).toNat_lt
      unfold sumL at h
      refine unlike_sums (wsum l 0) (wsum ((l.set x l[y]).set y l[x]) 0) ((x : Int) - (y : Int)) (((l[y]).toNat : Int) - ((l[x]).toNat : Int)) ?_ (by omega) (by omega) (by omega) (by omega) h
      rw [wsum_set _ y _ 0 (by simpa using hy), wsum_set l x _ 0 hx]
      rw [List.getElem_set_ne (by omega)]
      generalize ((l[y]).toNat : Int) = p
      generalize ((l[x]).toNat : Int) = q
      rw [show (0 : Int) + (x : Int) + 1 = x + 1 from by omega, show (0 : Int) + (y : Int) + 1 = y + 1 from by omega]
      simp only [Int.sub_mul, Int.add_mul, Int.mul_sub]
      omega
end Go.Proofs.Ytmhnnkifkbamoaa.SumMath
