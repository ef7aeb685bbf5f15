/- Takers of packed texts, as plain functions: what is written is taken back; nothing of the program stands here. -/
import Derived.Test.YtjeamfoicpgkhaaDoorDec
namespace Go.Proofs.YtjeamfoicpgkhaaDoor.Take
open Go.Lib Go.Proofs.YtjeamfoicpgkhaaDoor.Dec
/-- What is left, and whether something was not there. -/
abbrev St := List UInt8 × Bool
def sign (l : List UInt8) : Bool := match l with
  | [] => false
  | b :: _ => b == 45 || b == 43
def digR (e : UInt8) (s : St) : Int × St := match cutAt e s.1 with
  | none => (0, s.1, true)
  | some (p, r) => match atoiAll p with
    | .ok v => if s.2 || decide (9 < p.length) || sign p then (0, s.1, true) else (v, r, false)
    | _ => (0, s.1, true)
def byteR (s : St) : UInt8 × St := match s.1 with
  | [] => (0, [], true)
  | b :: r => if s.2 then (0, s.1, true) else (b, r, false)
def strR (s : St) : List UInt8 × St :=
  let d := digR 58 s
  if d.2.2 || decide ((d.2.1.length : Int) < d.1) then ([], d.2.1, true) else (d.2.1.take d.1.toNat, d.2.1.drop d.1.toNat, false)
/-- A number that may stand in a text. -/
def Small (x : Int) : Prop := 0 ≤ x ∧ x < 1000000000
theorem itoa_small {x : Int} (h : Small x) : itoa x = decDigits x.toNat := by
  obtain ⟨h0, h1⟩ := h
  unfold itoa
  rw [if_neg (by omega)]
theorem sign_dec (u : Nat) : sign (decDigits u) = false := by
  have h1 := dec_mem u
  cases h : decDigits u with
  | nil => rfl
  | cons b r =>
    have hb := h1 b (by rw [h]; simp)
    show (b == 45 || b == 43) = false
    rw [Bool.or_eq_false_iff, beq_eq_false_iff_ne, beq_eq_false_iff_ne]
    constructor
    · rintro rfl
      exact absurd hb.1 (by decide)
    · rintro rfl
      exact absurd hb.1 (by decide)
theorem digR_back (e : UInt8) (he : e.toNat < 48 ∨ 57 < e.toNat) {x : Int} (h : Small x) (r : List UInt8) : digR e (itoa x ++ e :: r, false) = (x, r, false) := by
  rw [itoa_small h]
  have h9 := dec_short x.toNat (by have := h.2; omega)
  unfold digR
  rw [cutAt_dec e he]
  simp only [atoiAll_dec _ (by omega : (decDigits x.toNat).length ≤ 18), sign_dec, Bool.or_false, Bool.false_or]
  rw [if_neg (by simpa using h9)]
  have := h.1
  congr 1
  omega
def num (x : Int) : List UInt8 := itoa x ++ [44]
def str (s : List UInt8) : List UInt8 := itoa s.length ++ 58 :: s
theorem numR_back {x : Int} (h : Small x) (r : List UInt8) : digR 44 (num x ++ r, false) = (x, r, false) := by
  unfold num
  rw [List.append_assoc]
  exact digR_back 44 (by decide) h r
theorem strR_back {s : List UInt8} (h : Small s.length) (r : List UInt8) : strR (str s ++ r, false) = (s, r, false) := by
  unfold str strR
  rw [List.append_assoc, List.cons_append, digR_back 58 (by decide) h]
  simp only [Bool.false_or]
  rw [if_neg (by simp; omega)]
  simp
/-- The reference's taker: the text, where it stands, whether something was not there. -/
abbrev SF := Nat × Bool
def isDig (b : UInt8) : Bool := decide (48 ≤ b.toNat) && decide (b.toNat ≤ 57)
/-- How many digits stand ahead, no more than n. -/
def digs : Nat → List UInt8 → Nat
  | 0, _ => 0
  | _, [] => 0
  | n + 1, b :: r => if isDig b then digs n r + 1 else 0
def valOf (l : List UInt8) : Int := l.foldl (fun x b => 10 * x + ((b.toNat : Int) - 48)) 0
def digF (e : UInt8) (t : List UInt8) (s : SF) : Int × SF :=
  let k := digs 9 (t.drop s.1)
  if k = 0 ∨ t[s.1 + k]? ≠ some e then (0, s.1 + k, true) else (valOf ((t.drop s.1).take k), s.1 + k + 1, s.2)
theorem digs_app : ∀ (n : Nat) (l : List UInt8) (b : UInt8) (r : List UInt8), (∀ c ∈ l, isDig c = true) → isDig b = false → l.length ≤ n → digs n (l ++ b :: r) = l.length
  | 0, [], b, r, _, _, _ => rfl
  | 0, _ :: _, b, r, _, _, h => by simp at h
  | n + 1, [], b, r, _, hb, _ => by simp [digs, hb]
  | n + 1, c :: l, b, r, hl, hb, hn => by
    have h1 : isDig c = true := hl c (by simp)
    simp only [List.cons_append, digs, h1, if_true, List.length_cons]
    rw [digs_app n l b r (fun x hx => hl x (by simp [hx])) hb (by simpa using hn)]
theorem valOf_append (l : List UInt8) (b : UInt8) : valOf (l ++ [b]) = 10 * valOf l + ((b.toNat : Int) - 48) := by
  unfold valOf
  rw [List.foldl_append]
  rfl
theorem valOf_dec (u : Nat) : valOf (decDigits u) = u := by
  induction u using Nat.strongRecOn with
  | ind u ih =>
    rw [decDigits]
    by_cases h : u < 10
    · rw [dif_pos h]
      show 10 * (0 : Int) + (((UInt8.ofNat (48 + u)).toNat : Int) - 48) = u
      rw [UInt8.toNat_ofNat']
      omega
    · rw [dif_neg h, valOf_append, ih (u / 10) (by omega), UInt8.toNat_ofNat']
      omega
theorem digF_back (e : UInt8) (he : e.toNat < 48 ∨ 57 < e.toNat) {x : Int} (h : Small x) (t r : List UInt8) (at_ : Nat) (ht : t.drop at_ = itoa x ++ e :: r) (bad : Bool) :
    digF e t (at_, bad) = (x, at_ + (itoa x).length + 1, bad) ∧ t.drop (at_ + (itoa x).length + 1) = r := by
  have hx := itoa_small h
  have h9 := dec_short x.toNat (by have := h.2; omega)
  have hk : digs 9 (t.drop at_) = (itoa x).length := by
    rw [ht, hx]
    refine digs_app 9 _ e r (fun c hc => ?_) ?_ h9
    · have := dec_mem _ c hc
      unfold isDig
      rw [decide_eq_true this.1, decide_eq_true this.2]
      rfl
    · unfold isDig
      rw [Bool.and_eq_false_iff, decide_eq_false_iff_not, decide_eq_false_iff_not]
      omega
  have hn : (itoa x).length ≠ 0 := by
    rw [hx]
    have := dec_ne x.toNat
    intro h0
    exact this (List.eq_nil_of_length_eq_zero h0)
  have hat : t[at_ + (itoa x).length]? = some e := by
    rw [← List.getElem?_drop, ht, List.getElem?_append_right (Nat.le_refl _)]
    simp
  constructor
  · unfold digF
    simp only [hk]
    rw [if_neg (by
      intro h0
      rcases h0 with h0 | h0
      · exact hn h0
      · exact h0 hat)]
    rw [ht, List.take_left, hx, valOf_dec]
    have := h.1
    congr 1
    omega
  · rw [Nat.add_assoc, ← List.drop_drop, ht]
    simp
theorem numF_back {x : Int} (h : Small x) (t r : List UInt8) (at_ : Nat) (ht : t.drop at_ = num x ++ r) (bad : Bool) :
    digF 44 t (at_, bad) = (x, at_ + (num x).length, bad) ∧ t.drop (at_ + (num x).length) = r := by
  unfold num at ht ⊢
  rw [List.append_assoc] at ht
  rw [List.length_append, List.length_singleton, ← Nat.add_assoc]
  exact digF_back 44 (by decide) h t r at_ ht bad
def strF (t : List UInt8) (s : SF) : List UInt8 × SF :=
  let d := digF 58 t s
  if d.2.2 || decide (((t.length : Int) - d.2.1) < d.1) then ([], d.2.1, true) else ((t.drop d.2.1).take d.1.toNat, d.2.1 + d.1.toNat, false)
theorem strF_back {s : List UInt8} (h : Small s.length) (t r : List UInt8) (at_ : Nat) (ht : t.drop at_ = str s ++ r) :
    strF t (at_, false) = (s, at_ + (str s).length, false) ∧ t.drop (at_ + (str s).length) = r := by
  have hs : str s ++ r = itoa s.length ++ 58 :: (s ++ r) := by simp [str]
  obtain ⟨h1, h2⟩ := digF_back 58 (by decide) h t (s ++ r) at_ (by rw [ht, hs]) false
  have hlen : (str s).length = (itoa s.length).length + 1 + s.length := by simp [str]; omega
  have hle : at_ + (itoa s.length).length + 1 + (s ++ r).length ≤ t.length := by
    have := congrArg List.length h2
    rw [List.length_drop] at this
    have h3 : (itoa (s.length : Int)).length ≠ 0 := by
      rw [itoa_small h]
      intro h0
      exact dec_ne _ (List.eq_nil_of_length_eq_zero h0)
    have h4 := congrArg List.length ht
    rw [List.length_drop, hs] at h4
    simp at h4 this ⊢
    omega
  constructor
  · unfold strF
    simp only [h1, Bool.false_or]
    rw [if_neg (by rw [decide_eq_true_eq]; simp at hle; omega), h2]
    simp [hlen]
    omega
  · rw [hlen, show at_ + ((itoa s.length).length + 1 + s.length) = (at_ + (itoa s.length).length + 1) + s.length by omega, ← List.drop_drop, h2]
    simp
end Go.Proofs.YtjeamfoicpgkhaaDoor.Take
