/- Several of my texts in one file: Bytes, Dec, Take, Pk, May, MayLen, PkR, PkA, SumMath, Fr, FrA, C13, QueueI, Eqs, AppStr, TreeEq. -/
import Derived.Test.YtkamhpbfebdhjaaGreatDoorLumpM
import Derived.Laws.BytesArg
import Derived.Lib.ConvBytes
import Derived.Lib.ItoaMem
import Derived.Lib.ItoaLen
import Derived.Lib.AtoiTie
import Derived.Lib.AtoiAllCases
import Derived.WalkKit
import Derived.ArgAppend
import Derived.Laws.StructEq
import Derived.Lib.UnsafeStr
/- Bytes of a text in memory: the slice that []byte(s) makes, a byte that is written, and the text that it reads as. -/
namespace Go.Proofs.YtkamhpbfebdhjaaGreatDoor.Bytes
open Go.RowKit Go.Proofs.YtkamhpbfebdhjaaGreatDoor.Mem
set_option linter.unusedVariables false
set_option linter.unusedSimpArgs false

theorem bytesWorld_facts (w : World) (e : TypeId) (s : ByteArray) : Below w.heap.size w (Lib.bytesWorld w e s) ∧
    (∀ j, j < s.size → (Lib.bytesWorld w e s).cell? ⟨w.heap.size, j, none⟩ = some (.int .u8 (s.data.toList.getD j 0).toNat)) ∧
    (∀ j, j < s.size → (Lib.bytesWorld w e s).frozen? ⟨w.heap.size, j, none⟩ = false) ∧ (Lib.bytesWorld w e s).heap.size = w.heap.size + 1 := by
  refine ⟨⟨rfl, rfl, rfl, by rw [Lib.bytesWorld_size]; omega, fun k hk => Lib.bytesWorld_at_old w e s k hk⟩, fun j hj => Lib.bytesWorld_cell w e s j hj, fun j hj => ?_, Lib.bytesWorld_size w e s⟩
  have h1 : s.size ≤ (Lib.bytesCells w e s).size := by
    simp only [Lib.bytesCells, Array.size_append, Array.size_map]
    have : s.data.size = s.size := rfl
    omega
  simp only [World.frozen?, Lib.bytesWorld_at_new]
  simp
  omega
theorem byte_is (x : Int) (h0 : 0 ≤ x) (h1 : x ≤ 255) : ∃ X : UInt8, x = (X.toNat : Int) := ⟨UInt8.ofNat x.toNat, by rw [UInt8.toNat_ofNat']; omega⟩
theorem str_ne {a b : ByteArray} (h : a ≠ b) : (a.toList == b.toList) = false := by
  rw [beq_eq_false_iff_ne]
  rw [ByteArray.toList_eq, ByteArray.toList_eq]
  exact fun e => h (ByteArray.ext (Array.toList_inj.1 e))
theorem place_is (n : Int) (m : Nat) (h : 0 < m) (hm : m ≤ 9223372036854775807) : ∃ j : Nat, wrap64 ((IntKind.u64.wrap n).tmod (m : Int)) = (j : Int) ∧ j < m := by
  have h0 : 0 ≤ IntKind.u64.wrap n := by rw [IntKind.wrap_u64]; omega
  rw [Int.tmod_eq_emod_of_nonneg h0]
  have h1 := Int.emod_nonneg (IntKind.u64.wrap n) (show (m : Int) ≠ 0 by omega)
  have h2 := Int.emod_lt_of_pos (IntKind.u64.wrap n) (show (0 : Int) < m by omega)
  refine ⟨(IntKind.u64.wrap n % (m : Int)).toNat, ?_, by omega⟩
  generalize IntKind.u64.wrap n % (m : Int) = q at *
  unfold wrap64
  omega
structure BytesNew (B : Nat) (w w1 : World) (L : List UInt8) (n : Nat) : Prop where
  below : Below B w w1
  cell : ∀ j, j < n → w1.cell? ⟨B, j, none⟩ = some (.int .u8 (L.getD j 0).toNat)
  free : ∀ j, j < n → w1.frozen? ⟨B, j, none⟩ = false
  size : w1.heap.size = B + 1
theorem bytesNew (w : World) (nq : Nat) (e : TypeId) (s : ByteArray) : BytesNew w.heap.size w (Lib.bytesWorld (w.drewN nq) e s) s.data.toList s.size := by
  obtain ⟨h1, h2, h3, h4⟩ := bytesWorld_facts (w.drewN nq) e s
  exact ⟨(show Below w.heap.size w (w.drewN nq) from ⟨rfl, rfl, rfl, Nat.le_refl _, fun _ _ => rfl⟩).trans h1, h2, h3, h4⟩
theorem BytesNew.drewN {B : Nat} {w w1 : World} {L : List UInt8} {n : Nat} (h : BytesNew B w w1 L n) (q : Nat) : BytesNew B w (w1.drewN q) L n :=
  ⟨h.below.trans ⟨rfl, rfl, rfl, Nat.le_refl _, fun _ _ => rfl⟩, h.cell, h.free, h.size⟩
theorem bytes_put (w1 : World) (B : Nat) (L : List UInt8) (n j : Nat) (X : UInt8) (hn : L.length = n) (hc : ∀ k, k < n → w1.cell? ⟨B, k, none⟩ = some (.int .u8 (L.getD k 0).toNat)) (hj : j < n) :
    ∀ k, k < n → (w1.setCell ⟨B, j, none⟩ (.int .u8 X.toNat)).cell? ⟨B, k, none⟩ = some (.int .u8 ((L.set j X).getD k 0).toNat) := by
  intro k hk
  by_cases e0 : j = k
  · subst e0
    rw [World.cell?_setCell_same (h := hc j hj)]
    rw [List.getD_eq_getElem?_getD, List.getElem?_set_self (by omega)]
    rfl
  · rw [World.cell?_setCell_other (h := by intro q; injection q with _ q; exact e0 q), hc k hk]
    rw [List.getD_eq_getElem?_getD, List.getD_eq_getElem?_getD, List.getElem?_set_ne e0]
theorem bytes_read {P : Program} (w1 : World) (B : Nat) (L : List UInt8) (n c : Nat) (hn : L.length = n) (hc : ∀ k, k < n → w1.cell? ⟨B, k, none⟩ = some (.int .u8 (L.getD k 0).toNat))
    (src e dst : TypeId) (hs : P.underlying src = some (.slice e)) (he : P.underlying e = some (.int .u8)) (hd : P.underlying dst = some .string) :
    (convert src dst (.slice (some ⟨B, 0, none⟩) n c)).run P w1 = .ok (.string ⟨L.toArray⟩) w1 := by
  have h2 := run_convert_bytes_arg (P := P) w1 src e hs he B 0 n c (L.map fun b => (b.toNat : Int)) (by simp [hn])
    (fun i hi => by
      rw [Nat.zero_add, hc i hi]
      have hi' : i < L.length := by omega
      rw [List.getD_eq_getElem?_getD, List.getD_eq_getElem?_getD, List.getElem?_map, List.getElem?_eq_getElem hi']
      rfl) dst hd
  rw [h2]
  have h3 : strOfNums (L.map fun b => (b.toNat : Int)) = ⟨L.toArray⟩ := by
    unfold strOfNums
    rw [List.map_map]
    have : ((fun n : Int => UInt8.ofNat n.toNat) ∘ fun b : UInt8 => (b.toNat : Int)) = id := by
      funext b
      simp
    rw [this, List.map_id]
  rw [h3]
theorem BytesNew.put {B : Nat} {w w1 : World} {L : List UInt8} {n : Nat} (h : BytesNew B w w1 L n) (hn : L.length = n) (j : Nat) (X : UInt8) (hj : j < n) : BytesNew B w (w1.setCell ⟨B, j, none⟩ (.int .u8 X.toNat)) (L.set j X) n :=
  ⟨h.below.setCell (Nat.le_refl _) _, bytes_put w1 B L n j X hn h.cell hj, fun k hk => by rw [World.frozen?_setCell]; exact h.free k hk, by simp [World.setCell, h.size]⟩

end Go.Proofs.YtkamhpbfebdhjaaGreatDoor.Bytes

/- Decimal numerals: what is written reads back; nothing of the program stands here. -/
namespace Go.Proofs.YtkamhpbfebdhjaaGreatDoor.Dec
open Go.Lib
theorem dec_mem (u : Nat) : ∀ b ∈ decDigits u, 48 ≤ b.toNat ∧ b.toNat ≤ 57 := by
  induction u using Nat.strongRecOn with
  | ind u ih =>
    intro b hb
    rw [decDigits] at hb
    by_cases h : u < 10
    · rw [dif_pos h] at hb
      rw [List.mem_singleton] at hb
      subst hb
      rw [UInt8.toNat_ofNat']
      omega
    · rw [dif_neg h, List.mem_append, List.mem_singleton] at hb
      rcases hb with hb | rfl
      · exact ih (u / 10) (by omega) b hb
      · rw [UInt8.toNat_ofNat']
        omega
theorem dec_ne (u : Nat) : decDigits u ≠ [] := by
  intro h
  have h1 := decDigits_length u
  have h2 := nDigits_pos u
  rw [h] at h1
  simp at h1
  omega
theorem decFrom_append : ∀ (l m : List UInt8) (acc : Nat), decFrom acc (l ++ m) = (decFrom acc l).bind fun n => decFrom n m
  | [], m, acc => rfl
  | b :: r, m, acc => by
    simp only [List.cons_append, decFrom]
    cases digitVal b with
    | none => rfl
    | some d => exact decFrom_append r m _
theorem digit_ok (d : Nat) (h : d < 10) : digitVal (UInt8.ofNat (48 + d)) = some d := by
  unfold digitVal
  rw [UInt8.toNat_ofNat', if_pos (by omega)]
  congr 1
  omega
theorem decFrom_dec (u : Nat) : decFrom 0 (decDigits u) = some u := by
  induction u using Nat.strongRecOn with
  | ind u ih =>
    rw [decDigits]
    by_cases h : u < 10
    · rw [dif_pos h]
      simp only [decFrom, digit_ok u h]
      congr 1
      omega
    · rw [dif_neg h, decFrom_append, ih (u / 10) (by omega)]
      simp only [Option.bind_some, decFrom, digit_ok (u % 10) (by omega)]
      congr 1
      omega
theorem decNat_dec (u : Nat) : decNat (decDigits u) = some u := by
  unfold decNat
  rw [if_neg (by have := dec_ne u; simpa using this)]
  exact decFrom_dec u
theorem atoi_dec (u : Nat) : atoi (decDigits u) = some (u : Int) := by
  have h1 := dec_mem u
  have h2 := decNat_dec u
  cases h : decDigits u with
  | nil => exact absurd h (dec_ne u)
  | cons b r =>
    rw [h] at h1 h2
    have hb := h1 b (by simp)
    show (if (b == 45) = true then (decNat r).map fun (m : Nat) => -(m : Int) else if (b == 43) = true then (decNat r).map fun (m : Nat) => (m : Int) else (decNat (b :: r)).map fun (m : Nat) => (m : Int)) = _
    have e1 : (b == 45) = false := by
      rw [beq_eq_false_iff_ne]
      rintro rfl
      exact absurd hb.1 (by decide)
    have e2 : (b == 43) = false := by
      rw [beq_eq_false_iff_ne]
      rintro rfl
      exact absurd hb.1 (by decide)
    rw [e1, e2]
    simp [h2]
theorem atoiAll_dec (u : Nat) (h : (decDigits u).length ≤ 18) : atoiAll (decDigits u) = .ok (u : Int) := by
  rw [atoiAll_short _ h, atoi_dec]
  rfl
theorem nDigits_le (k : Nat) : ∀ u : Nat, u < 10 ^ (k + 1) → nDigits u ≤ k + 1 := by
  induction k with
  | zero =>
    intro u h
    rw [nDigits_small (by omega)]
    exact Nat.le_refl _
  | succ k ih =>
    intro u h
    by_cases hs : u < 10
    · rw [nDigits_small hs]
      omega
    · rw [nDigits_big hs]
      have := ih (u / 10) (by rw [Nat.pow_succ] at h; omega)
      omega
theorem dec_short (u : Nat) (h : u < 1000000000) : (decDigits u).length ≤ 9 := by
  rw [decDigits_length]
  exact nDigits_le 8 u (by simpa using h)
/-- Up to the first e. -/
def cutAt (e : UInt8) : List UInt8 → Option (List UInt8 × List UInt8)
  | [] => none
  | b :: r => if b = e then some ([], r) else (cutAt e r).map fun p => (b :: p.1, p.2)
theorem cutAt_app (e : UInt8) : ∀ (l r : List UInt8), (∀ b ∈ l, b ≠ e) → cutAt e (l ++ e :: r) = some (l, r)
  | [], r, _ => by simp [cutAt]
  | b :: l, r, h => by
    have hb : b ≠ e := h b (by simp)
    simp only [List.cons_append, cutAt, if_neg hb, cutAt_app e l r (fun x hx => h x (by simp [hx]))]
    rfl
theorem cutAt_dec (e : UInt8) (he : e.toNat < 48 ∨ 57 < e.toNat) (u : Nat) (r : List UInt8) : cutAt e (decDigits u ++ e :: r) = some (decDigits u, r) :=
  cutAt_app e _ r fun b hb h => by
    subst h
    have := dec_mem u b hb
    omega
end Go.Proofs.YtkamhpbfebdhjaaGreatDoor.Dec

/- Takers of packed texts, as plain functions: what is written is taken back; nothing of the program stands here. -/
namespace Go.Proofs.YtkamhpbfebdhjaaGreatDoor.Take
open Go.Lib Go.Proofs.YtkamhpbfebdhjaaGreatDoor.Dec
/-- What is left, and whether something was not there. -/
abbrev St := List UInt8 × Bool
def sign (l : List UInt8) : Bool := match l with
  | [] => false
  | b :: _ => b == 45 || b == 43
def digR (e : UInt8) (s : St) : Int × St := match cutAt e s.1 with
  | none => (0, s.1, true)
  | some (p, r) => match atoiAll p with
    | .ok v => if s.2 || decide (9 < p.length) || sign p then (0, s.1, true) else (v, r, false)
    | _ => (0, s.1, true)
def byteR (s : St) : UInt8 × St := match s.1 with
  | [] => (0, [], true)
  | b :: r => if s.2 then (0, s.1, true) else (b, r, false)
def strR (s : St) : List UInt8 × St :=
  let d := digR 58 s
  if d.2.2 || decide ((d.2.1.length : Int) < d.1) then ([], d.2.1, true) else (d.2.1.take d.1.toNat, d.2.1.drop d.1.toNat, false)
/-- A number that may stand in a text. -/
def Small (x : Int) : Prop := 0 ≤ x ∧ x < 1000000000
theorem itoa_small {x : Int} (h : Small x) : itoa x = decDigits x.toNat := by
  obtain ⟨h0, h1⟩ := h
  unfold itoa
  rw [if_neg (by omega)]
theorem sign_dec (u : Nat) : sign (decDigits u) = false := by
  have h1 := dec_mem u
  cases h : decDigits u with
  | nil => rfl
  | cons b r =>
    have hb := h1 b (by rw [h]; simp)
    show (b == 45 || b == 43) = false
    rw [Bool.or_eq_false_iff, beq_eq_false_iff_ne, beq_eq_false_iff_ne]
    constructor
    · rintro rfl
      exact absurd hb.1 (by decide)
    · rintro rfl
      exact absurd hb.1 (by decide)
theorem digR_back (e : UInt8) (he : e.toNat < 48 ∨ 57 < e.toNat) {x : Int} (h : Small x) (r : List UInt8) : digR e (itoa x ++ e :: r, false) = (x, r, false) := by
  rw [itoa_small h]
  have h9 := dec_short x.toNat (by have := h.2; omega)
  unfold digR
  rw [cutAt_dec e he]
  simp only [atoiAll_dec _ (by omega : (decDigits x.toNat).length ≤ 18), sign_dec, Bool.or_false, Bool.false_or]
  rw [if_neg (by simpa using h9)]
  have := h.1
  congr 1
  omega
def num (x : Int) : List UInt8 := itoa x ++ [44]
def str (s : List UInt8) : List UInt8 := itoa s.length ++ 58 :: s
theorem numR_back {x : Int} (h : Small x) (r : List UInt8) : digR 44 (num x ++ r, false) = (x, r, false) := by
  unfold num
  rw [List.append_assoc]
  exact digR_back 44 (by decide) h r
theorem strR_back {s : List UInt8} (h : Small s.length) (r : List UInt8) : strR (str s ++ r, false) = (s, r, false) := by
  unfold str strR
  rw [List.append_assoc, List.cons_append, digR_back 58 (by decide) h]
  simp only [Bool.false_or]
  rw [if_neg (by simp; omega)]
  simp
/-- The reference's taker: the text, where it stands, whether something was not there. -/
abbrev SF := Nat × Bool
def isDig (b : UInt8) : Bool := decide (48 ≤ b.toNat) && decide (b.toNat ≤ 57)
/-- How many digits stand ahead, no more than n. -/
def digs : Nat → List UInt8 → Nat
  | 0, _ => 0
  | _, [] => 0
  | n + 1, b :: r => if isDig b then digs n r + 1 else 0
def valOf (l : List UInt8) : Int := l.foldl (fun x b => 10 * x + ((b.toNat : Int) - 48)) 0
def digF (e : UInt8) (t : List UInt8) (s : SF) : Int × SF :=
  let k := digs 9 (t.drop s.1)
  if k = 0 ∨ t[s.1 + k]? ≠ some e then (0, s.1 + k, true) else (valOf ((t.drop s.1).take k), s.1 + k + 1, s.2)
theorem digs_app : ∀ (n : Nat) (l : List UInt8) (b : UInt8) (r : List UInt8), (∀ c ∈ l, isDig c = true) → isDig b = false → l.length ≤ n → digs n (l ++ b :: r) = l.length
  | 0, [], b, r, _, _, _ => rfl
  | 0, _ :: _, b, r, _, _, h => by simp at h
  | n + 1, [], b, r, _, hb, _ => by simp [digs, hb]
  | n + 1, c :: l, b, r, hl, hb, hn => by
    have h1 : isDig c = true := hl c (by simp)
    simp only [List.cons_append, digs, h1, if_true, List.length_cons]
    rw [digs_app n l b r (fun x hx => hl x (by simp [hx])) hb (by simpa using hn)]
theorem valOf_append (l : List UInt8) (b : UInt8) : valOf (l ++ [b]) = 10 * valOf l + ((b.toNat : Int) - 48) := by
  unfold valOf
  rw [List.foldl_append]
  rfl
theorem valOf_dec (u : Nat) : valOf (decDigits u) = u := by
  induction u using Nat.strongRecOn with
  | ind u ih =>
    rw [decDigits]
    by_cases h : u < 10
    · rw [dif_pos h]
      show 10 * (0 : Int) + (((UInt8.ofNat (48 + u)).toNat : Int) - 48) = u
      rw [UInt8.toNat_ofNat']
      omega
    · rw [dif_neg h, valOf_append, ih (u / 10) (by omega), UInt8.toNat_ofNat']
      omega
theorem digF_back (e : UInt8) (he : e.toNat < 48 ∨ 57 < e.toNat) {x : Int} (h : Small x) (t r : List UInt8) (at_ : Nat) (ht : t.drop at_ = itoa x ++ e :: r) (bad : Bool) :
    digF e t (at_, bad) = (x, at_ + (itoa x).length + 1, bad) ∧ t.drop (at_ + (itoa x).length + 1) = r := by
  have hx := itoa_small h
  have h9 := dec_short x.toNat (by have := h.2; omega)
  have hk : digs 9 (t.drop at_) = (itoa x).length := by
    rw [ht, hx]
    refine digs_app 9 _ e r (fun c hc => ?_) ?_ h9
    · have := dec_mem _ c hc
      unfold isDig
      rw [decide_eq_true this.1, decide_eq_true this.2]
      rfl
    · unfold isDig
      rw [Bool.and_eq_false_iff, decide_eq_false_iff_not, decide_eq_false_iff_not]
      omega
  have hn : (itoa x).length ≠ 0 := by
    rw [hx]
    have := dec_ne x.toNat
    intro h0
    exact this (List.eq_nil_of_length_eq_zero h0)
  have hat : t[at_ + (itoa x).length]? = some e := by
    rw [← List.getElem?_drop, ht, List.getElem?_append_right (Nat.le_refl _)]
    simp
  constructor
  · unfold digF
    simp only [hk]
    rw [if_neg (by
      intro h0
      rcases h0 with h0 | h0
      · exact hn h0
      · exact h0 hat)]
    rw [ht, List.take_left, hx, valOf_dec]
    have := h.1
    congr 1
    omega
  · rw [Nat.add_assoc, ← List.drop_drop, ht]
    simp
theorem numF_back {x : Int} (h : Small x) (t r : List UInt8) (at_ : Nat) (ht : t.drop at_ = num x ++ r) (bad : Bool) :
    digF 44 t (at_, bad) = (x, at_ + (num x).length, bad) ∧ t.drop (at_ + (num x).length) = r := by
  unfold num at ht ⊢
  rw [List.append_assoc] at ht
  rw [List.length_append, List.length_singleton, ← Nat.add_assoc]
  exact digF_back 44 (by decide) h t r at_ ht bad
def strF (t : List UInt8) (s : SF) : List UInt8 × SF :=
  let d := digF 58 t s
  if d.2.2 || decide (((t.length : Int) - d.2.1) < d.1) then ([], d.2.1, true) else ((t.drop d.2.1).take d.1.toNat, d.2.1 + d.1.toNat, false)
theorem strF_back {s : List UInt8} (h : Small s.length) (t r : List UInt8) (at_ : Nat) (ht : t.drop at_ = str s ++ r) :
    strF t (at_, false) = (s, at_ + (str s).length, false) ∧ t.drop (at_ + (str s).length) = r := by
  have hs : str s ++ r = itoa s.length ++ 58 :: (s ++ r) := by simp [str]
  obtain ⟨h1, h2⟩ := digF_back 58 (by decide) h t (s ++ r) at_ (by rw [ht, hs]) false
  have hlen : (str s).length = (itoa s.length).length + 1 + s.length := by simp [str]; omega
  have hle : at_ + (itoa s.length).length + 1 + (s ++ r).length ≤ t.length := by
    have := congrArg List.length h2
    rw [List.length_drop] at this
    have h3 : (itoa (s.length : Int)).length ≠ 0 := by
      rw [itoa_small h]
      intro h0
      exact dec_ne _ (List.eq_nil_of_length_eq_zero h0)
    have h4 := congrArg List.length ht
    rw [List.length_drop, hs] at h4
    simp at h4 this ⊢
    omega
  constructor
  · unfold strF
    simp only [h1, Bool.false_or]
    rw [if_neg (by rw [decide_eq_true_eq]; simp at hle; omega), h2]
    simp [hlen]
    omega
  · rw [hlen, show at_ + ((itoa s.length).length + 1 + s.length) = (at_ + (itoa s.length).length + 1) + s.length by omega, ← List.drop_drop, h2]
    simp
def nums (xs : List Int) : List UInt8 := xs.flatMap num
theorem nums_cons (x : Int) (xs : List Int) : nums (x :: xs) = num x ++ nums xs := rfl
theorem nums_nil : nums [] = [] := rfl
theorem nums_append (xs ys : List Int) : nums (xs ++ ys) = nums xs ++ nums ys := by simp [nums]
end Go.Proofs.YtkamhpbfebdhjaaGreatDoor.Take

/- Messages as texts, as plain functions: what is put is taken back, whatever stands behind it. Nothing of the program stands here. -/
namespace Go.Proofs.YtkamhpbfebdhjaaGreatDoor.Pk
open Go.Lib Go.Proofs.YtkamhpbfebdhjaaGreatDoor.Dec Go.Proofs.YtkamhpbfebdhjaaGreatDoor.Take Go.Proofs.YtkamhpbfebdhjaaGreatDoor.Tree Go.Proofs.YtkamhpbfebdhjaaGreatDoor.Data
set_option linter.unusedVariables false
set_option linter.unusedSimpArgs false
/-! ### What is put -/
def row (xs : List Int) : List UInt8 := num xs.length ++ nums xs
def compS (c : CompD) : List UInt8 := if c.kind = 1 then 112 :: str c.text.data.toList else if c.kind = 2 then 99 :: num c.n else 107 :: num c.n
def editS (cs : List CompD) : List UInt8 := num cs.length ++ cs.flatMap compS
def stepS (s : StepD) : List UInt8 := nums [s.kind, s.id, s.node, s.fr, s.up] ++ row s.kids
def entryS (e : EntryD) : List UInt8 := nums [e.client, e.seq] ++ editS e.edit ++ num e.delta.length ++ e.delta.flatMap stepS
def nodeS (x : NodeD) : List UInt8 := nums [x.id, x.kind, x.fr, x.up] ++ row x.kids
def treeS (t : TreeD) : List UInt8 := nums [t.root, t.next, t.nodes.length] ++ t.nodes.flatMap nodeS
def letter (k : Int) : UInt8 := if k = 0 then 80 else if k = 1 then 67 else 83
def bit (b : Bool) : Int := if b then 1 else 0
def bodyS (m : MsgD) : List UInt8 :=
  if m.kind = 0 then num m.seq ++ editS m.edit
  else if m.kind = 1 then num m.entries.length ++ m.entries.flatMap entryS
  else nums [m.seq, m.fr, m.last, bit m.refused] ++ str m.text.data.toList ++ treeS m.tree
def putS (m : MsgD) : List UInt8 := letter m.kind :: (nums [m.client, m.rev] ++ bodyS m)
/-! ### What is taken -/
def eachN {α : Type} (one : St → α × St) : Nat → St → List α × St
  | 0, st => ([], st)
  | n + 1, st => if st.2 then ([], st) else ((one st).1 :: (eachN one n (one st).2).1, (eachN one n (one st).2).2)
def eachR {α : Type} (one : St → α × St) (st : St) : List α × St := eachN one (digR 44 st).1.toNat (digR 44 st).2
def numR (st : St) : Int × St := digR 44 st
def ba (l : List UInt8) : ByteArray := ⟨l.toArray⟩
def takeC (st : St) : CompD × St :=
  let b := byteR st
  if b.1 = 112 then (⟨1, 0, ba (strR b.2).1⟩, (strR b.2).2)
  else if b.1 = 99 then (⟨2, (numR b.2).1, ba []⟩, (numR b.2).2)
  else if b.1 = 107 then (⟨0, (numR b.2).1, ba []⟩, (numR b.2).2)
  else (⟨0, 0, ba []⟩, (b.2.1, true))
def takeS (st : St) : StepD × St :=
  let a := numR st
  let b := numR a.2
  let c := numR b.2
  let d := numR c.2
  let e := numR d.2
  let k := eachR numR e.2
  (⟨a.1, b.1, c.1, d.1, e.1, k.1⟩, k.2)
def takeE (st : St) : EntryD × St :=
  let a := numR st
  let b := numR a.2
  let c := eachR takeC b.2
  let d := eachR takeS c.2
  (⟨a.1, b.1, c.1, d.1⟩, d.2)
def takeN (st : St) : NodeD × St :=
  let a := numR st
  let b := numR a.2
  let c := numR b.2
  let d := numR c.2
  let k := eachR numR d.2
  (⟨a.1, b.1, c.1, d.1, k.1⟩, k.2)
def kindOf (b : UInt8) : Int := if b = 80 then 0 else if b = 67 then 1 else if b = 83 then 2 else -1
def noTree : TreeD := ⟨0, 0, []⟩
def takeM (st : St) : MsgD × St :=
  let b := byteR st
  let c := numR b.2
  let r := numR c.2
  if kindOf b.1 = 0 then
    let q := numR r.2
    let e := eachR takeC q.2
    (⟨0, c.1, r.1, q.1, 0, 0, false, e.1, [], ba [], noTree⟩, e.2)
  else if kindOf b.1 = 1 then
    let e := eachR takeE r.2
    (⟨1, c.1, r.1, 0, 0, 0, false, [], e.1, ba [], noTree⟩, e.2)
  else if kindOf b.1 = 2 then
    let q := numR r.2
    let f := numR q.2
    let l := numR f.2
    let u := numR l.2
    let t := strR u.2
    let o := numR t.2
    let n := numR o.2
    let x := eachR takeN n.2
    (⟨2, c.1, r.1, q.1, f.1, l.1, u.1 == 1, [], [], ba t.1, ⟨o.1, n.1, x.1⟩⟩, x.2)
  else (⟨-1, c.1, r.1, 0, 0, 0, false, [], [], ba [], noTree⟩, r.2)
/-! ### What comes back -/
theorem num_back {x : Int} (h : Small x) (r : List UInt8) : numR (num x ++ r, false) = (x, r, false) := numR_back h r
theorem each_back {α : Type} {one : St → α × St} {enc : α → List UInt8} : ∀ (xs : List α) (r : List UInt8), (∀ a ∈ xs, ∀ r, one (enc a ++ r, false) = (a, r, false)) → eachN one xs.length (xs.flatMap enc ++ r, false) = (xs, r, false)
  | [], r, _ => rfl
  | a :: xs, r, h => by
    have h1 := h a (by simp) (xs.flatMap enc ++ r)
    have h2 := each_back xs r (fun b hb => h b (by simp [hb]))
    simp only [List.flatMap_cons, List.append_assoc, List.length_cons, eachN, Bool.false_eq_true, if_false, h1, h2]
theorem eachR_back {α : Type} {one : St → α × St} {enc : α → List UInt8} (xs : List α) (r : List UInt8) (hs : Small xs.length) (h : ∀ a ∈ xs, ∀ r, one (enc a ++ r, false) = (a, r, false)) :
    eachR one (num xs.length ++ (xs.flatMap enc ++ r), false) = (xs, r, false) := by
  unfold eachR
  rw [numR_back hs]
  simpa using each_back xs r h
theorem row_back (xs : List Int) (r : List UInt8) (hs : Small xs.length) (h : ∀ a ∈ xs, Small a) : eachR numR (row xs ++ r, false) = (xs, r, false) := by
  unfold row
  rw [List.append_assoc]
  exact eachR_back (enc := num) xs r hs fun a ha r => num_back (h a ha) r
def WfC (c : CompD) : Prop := (c.kind = 1 ∧ c.n = 0 ∧ Small c.text.size) ∨ ((c.kind = 2 ∨ c.kind = 0) ∧ Small c.n ∧ c.text = ba [])
def WfE (cs : List CompD) : Prop := Small cs.length ∧ ∀ c ∈ cs, WfC c
def WfK (ks : List Int) : Prop := Small ks.length ∧ ∀ a ∈ ks, Small a
def WfS (s : StepD) : Prop := Small s.kind ∧ Small s.id ∧ Small s.node ∧ Small s.fr ∧ Small s.up ∧ WfK s.kids
def WfEn (e : EntryD) : Prop := Small e.client ∧ Small e.seq ∧ WfE e.edit ∧ Small e.delta.length ∧ ∀ s ∈ e.delta, WfS s
def WfN (x : NodeD) : Prop := Small x.id ∧ Small x.kind ∧ Small x.fr ∧ Small x.up ∧ WfK x.kids
def WfT (t : TreeD) : Prop := Small t.root ∧ Small t.next ∧ Small t.nodes.length ∧ ∀ x ∈ t.nodes, WfN x
structure Wf (m : MsgD) : Prop where
  client : Small m.client
  rev : Small m.rev
  seq : Small m.seq
  kind : (m.kind = 0 ∧ m.fr = 0 ∧ m.last = 0 ∧ m.refused = false ∧ m.entries = [] ∧ m.text = ba [] ∧ m.tree = noTree ∧ WfE m.edit) ∨
    (m.kind = 1 ∧ m.seq = 0 ∧ m.fr = 0 ∧ m.last = 0 ∧ m.refused = false ∧ m.edit = [] ∧ m.text = ba [] ∧ m.tree = noTree ∧ Small m.entries.length ∧ ∀ e ∈ m.entries, WfEn e) ∨
    (m.kind = 2 ∧ m.edit = [] ∧ m.entries = [] ∧ Small m.fr ∧ Small m.last ∧ Small m.text.size ∧ WfT m.tree)
theorem ba_data (t : ByteArray) : ba t.data.toList = t := rfl
theorem comp_back {c : CompD} (h : WfC c) (r : List UInt8) : takeC (compS c ++ r, false) = (c, r, false) := by
  obtain ⟨k, n, t⟩ := c
  have hsz : t.data.toList.length = t.size := Array.length_toList
  rcases h with ⟨rfl, rfl, h⟩ | ⟨h, hn, rfl⟩
  · simp only at h
    unfold takeC compS
    simp only [if_true, List.cons_append, byteR, Bool.false_eq_true, if_false, strR_back (s := t.data.toList) (by rw [hsz]; exact h), ba_data]
  · simp only at h hn
    rcases h with rfl | rfl
    · unfold takeC compS
      simp [byteR, num_back hn]
    · unfold takeC compS
      simp [byteR, num_back hn]
theorem step_back {s : StepD} (h : WfS s) (r : List UInt8) : takeS (stepS s ++ r, false) = (s, r, false) := by
  obtain ⟨h1, h2, h3, h4, h5, h6, h7⟩ := h
  simp only [takeS, stepS, nums_cons, nums_nil, List.nil_append, List.append_nil, List.append_assoc, num_back h1, num_back h2, num_back h3, num_back h4, num_back h5, row_back _ _ h6 h7]
theorem node_back {s : NodeD} (h : WfN s) (r : List UInt8) : takeN (nodeS s ++ r, false) = (s, r, false) := by
  obtain ⟨h1, h2, h3, h4, h6, h7⟩ := h
  simp only [takeN, nodeS, nums_cons, nums_nil, List.nil_append, List.append_nil, List.append_assoc, num_back h1, num_back h2, num_back h3, num_back h4, row_back _ _ h6 h7]
theorem edit_back {cs : List CompD} (h : WfE cs) (r : List UInt8) : eachR takeC (editS cs ++ r, false) = (cs, r, false) := by
  unfold editS
  rw [List.append_assoc]
  exact eachR_back cs r h.1 fun c hc r => comp_back (h.2 c hc) r
theorem entry_back {e : EntryD} (h : WfEn e) (r : List UInt8) : takeE (entryS e ++ r, false) = (e, r, false) := by
  obtain ⟨h1, h2, h3, h4, h5⟩ := h
  simp only [takeE, entryS, nums_cons, nums_nil, List.nil_append, List.append_nil, List.append_assoc, num_back h1, num_back h2, edit_back h3, eachR_back (enc := stepS) e.delta r h4 fun s hs r => step_back (h5 s hs) r]
theorem msg_back {m : MsgD} (h : Wf m) (r : List UInt8) : takeM (putS m ++ r, false) = (m, r, false) := by
  obtain ⟨hc, hr, hq, hk⟩ := h
  obtain ⟨k, c, v, q, f, l, u, es, en, t, ⟨o, n, xs⟩⟩ := m
  simp only at hc hr hq hk
  rcases hk with ⟨rfl, rfl, rfl, rfl, rfl, rfl, hT, h⟩ | ⟨rfl, rfl, rfl, rfl, rfl, rfl, rfl, hT, h, h'⟩ | ⟨rfl, rfl, rfl, hf, hl, ht, h1, h2, h3, h4⟩
  · rw [hT]
    simp only [takeM, putS, bodyS, letter, byteR, kindOf, List.cons_append, List.append_assoc, nums_cons, nums_nil, List.nil_append, List.append_nil, if_true, Bool.false_eq_true, if_false, num_back hc, num_back hr, num_back hq, edit_back h]
  · rw [hT]
    simp only [takeM, putS, bodyS, letter, byteR, kindOf, List.cons_append, List.append_assoc, nums_cons, nums_nil, List.nil_append, List.append_nil, if_true, Bool.false_eq_true, if_false, num_back hc, num_back hr, eachR_back (enc := entryS) en r h fun e he r => entry_back (h' e he) r, show ¬ ((1 : Int) = 0) by decide, show ¬ ((67 : UInt8) = 80) by decide]
  · have hsz : t.data.toList.length = t.size := Array.length_toList
    have hb : Small (bit u) := by cases u <;> exact ⟨by decide, by decide⟩
    have hu : (bit u == 1) = u := by cases u <;> rfl
    simp only at h1 h2 h3 h4
    simp only [takeM, putS, bodyS, letter, byteR, kindOf, treeS, List.cons_append, List.append_assoc, nums_cons, nums_nil, List.nil_append, List.append_nil, if_true, Bool.false_eq_true, if_false, num_back hc, num_back hr, num_back hq, num_back hf, num_back hl, num_back hb, strR_back (s := t.data.toList) (by rw [hsz]; exact ht), num_back h1, num_back h2, eachR_back (enc := nodeS) xs r h3 fun e he r => node_back (h4 e he) r, show ¬ ((2 : Int) = 0) by decide, show ¬ ((2 : Int) = 1) by decide, show ¬ ((83 : UInt8) = 80) by decide, show ¬ ((83 : UInt8) = 67) by decide, ba_data, hu]
end Go.Proofs.YtkamhpbfebdhjaaGreatDoor.Pk

/- What may be: edits, steps, entries, trees, messages, as plain functions; what may be is well formed for its text. Nothing of the program stands here. -/
namespace Go.Proofs.YtkamhpbfebdhjaaGreatDoor.May
open Go.Lib Go.Proofs.YtkamhpbfebdhjaaGreatDoor.Take Go.Proofs.YtkamhpbfebdhjaaGreatDoor.Tree Go.Proofs.YtkamhpbfebdhjaaGreatDoor.Data Go.Proofs.YtkamhpbfebdhjaaGreatDoor.Pk
set_option linter.unusedVariables false
set_option linter.unusedSimpArgs false
/-! ### Edits -/
def rawP (c : CompD) : Prop := ((c.kind = 0 ∨ c.kind = 2) ∧ 0 ≤ c.n ∧ c.n ≤ 4096 ∧ c.text.size = 0) ∨ (c.kind = 1 ∧ c.n = 0 ∧ c.text.size ≤ 4096)
instance (c : CompD) : Decidable (rawP c) := by unfold rawP; exact inferInstance
def rawB (c : CompD) : Bool := decide (rawP c)
def sizeC (c : CompD) : Int := c.n + c.text.size
def compsOk : Int → List CompD → Bool
  | _, [] => true
  | last, c :: cs => rawB c && decide (sizeC c ≠ 0 ∧ c.kind ≠ last ∧ ¬ (c.kind = 1 ∧ last = 2)) && compsOk c.kind cs
def spanF : List CompD → Int
  | [] => 0
  | c :: cs => (if c.kind = 1 then 0 else c.n) + spanF cs
def spanT : List CompD → Int
  | [] => 0
  | c :: cs => (if c.kind = 2 then 0 else sizeC c) + spanT cs
def editB (cs : List CompD) : Bool := decide (cs.length ≤ 4096) && compsOk (-1) cs && decide (spanF cs ≤ 4096 ∧ spanT cs ≤ 4096)
/-! ### Steps, entries -/
def idP (i : Int) : Prop := 0 ≤ i ∧ i < 16777216
instance (i : Int) : Decidable (idP i) := by unfold idP; exact inferInstance
def stepP (s : StepD) : Prop := idP s.id ∧ ((s.kind = 0 ∧ s.kids.length = 0 ∧ s.node = 0 ∧ s.fr = 0 ∧ s.up = 0) ∨ (s.kind = 1 ∧ s.kids.length = 0 ∧ (0 ≤ s.node ∧ s.node ≤ 7) ∧ s.fr = 0 ∧ s.up = 0) ∨
  (s.kind = 2 ∧ (s.kids.length ≤ 2048 ∧ ∀ k ∈ s.kids, idP k) ∧ s.node = 0 ∧ s.fr = 0 ∧ s.up = 0) ∨ (s.kind = 3 ∧ s.kids.length = 0 ∧ s.node = 0 ∧ 0 ≤ s.fr ∧ s.fr ≤ s.up ∧ s.up ≤ 4096))
instance (s : StepD) : Decidable (stepP s) := by unfold stepP; exact inferInstance
def stepB (s : StepD) : Bool := decide (stepP s)
def entryB (e : EntryD) : Bool := decide (0 ≤ e.client ∧ e.client ≤ 2 ∧ 0 ≤ e.seq ∧ e.seq ≤ 4096 ∧ 0 < e.seq) && editB e.edit && decide (e.delta.length ≤ 8192) && e.delta.all stepB
/-! ### Trees -/
def leafP (k : Int) : Prop := k = 4 ∨ k = 5 ∨ k = 6
instance (k : Int) : Decidable (leafP k) := by unfold leafP; exact inferInstance
def aloneP (t : TreeD) (size before : Int) (x : NodeD) : Prop :=
  (x.kind = 0 → x.id = t.root ∧ x.fr = 0 ∧ x.up = size) ∧ before < x.id ∧ x.id < t.next ∧ 0 ≤ x.kind ∧ x.kind ≤ 7 ∧ 0 ≤ x.fr ∧ x.fr ≤ x.up ∧ x.up ≤ size ∧ (leafP x.kind → x.kids.length = 0)
instance (t : TreeD) (size before : Int) (x : NodeD) : Decidable (aloneP t size before x) := by unfold aloneP; exact inferInstance
/-- The root's place, if the nodes may be each by itself. -/
def scan (t : TreeD) (size : Int) : Nat → List NodeD → Int → Int → Option Int
  | _, [], root, _ => some root
  | i, x :: xs, root, before => if aloneP t size before x ∧ ¬ (x.kind = 0 ∧ 0 ≤ root) then scan t size (i + 1) xs (if x.kind = 0 then (i : Int) else root) x.id else none
def posOf (xs : List NodeD) (id : Int) : Option Nat := xs.findIdx? (fun x => x.id == id)
def kidsGo (xs : List NodeD) (up : Int) : List Int → Int → List Bool → List Nat → Option (List Bool × List Nat)
  | [], _, seen, row => some (seen, row)
  | id :: ks, fr, seen, row => match posOf xs id with
    | none => none
    | some k => match xs[k]? with
      | none => none
      | some y => if seen[k]? = some false ∧ fr ≤ y.fr ∧ y.up ≤ up then kidsGo xs up ks y.up (seen.set k true) (row ++ [k]) else none
def bfs (xs : List NodeD) : Nat → List Nat → List Bool → Bool
  | _, [], seen => seen.all id
  | 0, _ :: _, _ => false
  | f + 1, r :: row, seen => match xs[r]? with
    | none => false
    | some x => match kidsGo xs x.up x.kids x.fr seen row with
      | none => false
      | some p => bfs xs f p.2 p.1
def treeLim (t : TreeD) (size : Int) : Prop := 1 ≤ t.nodes.length ∧ t.nodes.length ≤ 2048 ∧ 0 ≤ t.next ∧ t.next ≤ 16777216 ∧ 0 ≤ size ∧ size ≤ 4096
instance (t : TreeD) (size : Int) : Decidable (treeLim t size) := by unfold treeLim; exact inferInstance
def treeB (t : TreeD) (size : Int) : Bool := decide (treeLim t size) && match scan t size 0 t.nodes (-1) (-1) with
  | none => false
  | some r => decide (0 ≤ r) && bfs t.nodes t.nodes.length [r.toNat] ((List.replicate t.nodes.length false).set r.toNat true)
/-! ### Messages -/
def upB (x most : Int) : Bool := decide (0 ≤ x ∧ x ≤ most)
def noneB (m : MsgD) : Bool := decide (m.fr = 0 ∧ m.last = 0 ∧ m.refused = false ∧ m.text.size = 0 ∧ m.tree.root = 0 ∧ m.tree.next = 0 ∧ m.tree.nodes.length = 0)
def headB (m : MsgD) : Bool := upB m.client 2 && upB m.rev 4096 && upB m.seq 4096
def pollB (m : MsgD) : Bool := noneB m && decide (m.entries.length = 0) && editB m.edit && decide (0 < m.seq ∨ m.edit.length = 0)
def chgB (m : MsgD) : Bool := noneB m && decide (m.edit.length = 0 ∧ m.seq = 0 ∧ m.entries.length ≤ 3) && m.entries.all entryB
def snapB (m : MsgD) : Bool := decide (m.edit.length = 0 ∧ m.entries.length = 0) && upB m.fr 4096 && upB m.last 4096 && decide (m.text.size ≤ 300) && treeB m.tree m.text.size
def msgB (m : MsgD) : Bool := headB m && (if m.kind = 0 then pollB m else if m.kind = 1 then chgB m else if m.kind = 2 then snapB m else false)
/-! ### What may be is well formed -/
theorem text_nil {t : ByteArray} (h : t.size = 0) : t = ba [] := by
  obtain ⟨a⟩ := t
  have h' : a.size = 0 := h
  obtain rfl : a = #[] := Array.eq_empty_of_size_eq_zero h'
  rfl
theorem small_of {x k : Int} (h : 0 ≤ x) (h' : x ≤ k) (hk : k < 1000000000) : Small x := ⟨h, by omega⟩
theorem raw_wf {c : CompD} (h : rawB c = true) : WfC c := by
  rcases of_decide_eq_true h with ⟨h, h1, h2, h3⟩ | ⟨h, h1, h2⟩
  · exact .inr ⟨by omega, small_of h1 h2 (by decide), text_nil h3⟩
  · exact .inl ⟨h, h1, small_of (Int.natCast_nonneg _) (show (c.text.size : Int) ≤ 4096 by omega) (by decide)⟩
theorem comps_wf : ∀ {last : Int} {cs : List CompD}, compsOk last cs = true → ∀ c ∈ cs, WfC c
  | _, [], _ => by simp
  | last, c :: cs, h => by
    simp only [compsOk, Bool.and_eq_true] at h
    intro d hd
    rcases List.mem_cons.1 hd with rfl | hd
    · exact raw_wf h.1.1
    · exact comps_wf h.2 d hd
theorem edit_wf {cs : List CompD} (h : editB cs = true) : WfE cs := by
  simp only [editB, Bool.and_eq_true, decide_eq_true_eq] at h
  exact ⟨small_of (Int.natCast_nonneg _) (show (cs.length : Int) ≤ 4096 by omega) (by decide), comps_wf h.1.2⟩
theorem step_wf {s : StepD} (h : stepB s = true) : WfS s := by
  obtain ⟨k, i, n, f, u, ks⟩ := s
  obtain ⟨⟨h1, h2⟩, g⟩ := of_decide_eq_true h
  simp only at h1 h2 g
  have z : Small 0 := ⟨by decide, by decide⟩
  have sk : ∀ j : Int, 0 ≤ j → j ≤ 3 → Small j := fun j a b => ⟨a, by omega⟩
  have kz : ks.length = 0 → WfK ks := fun e => by
    obtain rfl := List.eq_nil_of_length_eq_zero e
    exact ⟨z, fun a ha => absurd ha (by simp)⟩
  have hi : Small i := ⟨h1, by omega⟩
  rcases g with ⟨rfl, g, rfl, rfl, rfl⟩ | ⟨rfl, g, ⟨h3, h4⟩, rfl, rfl⟩ | ⟨rfl, ⟨g, h3⟩, rfl, rfl, rfl⟩ | ⟨rfl, g, rfl, h3, h4, h5⟩
  · exact ⟨z, hi, z, z, z, kz g⟩
  · exact ⟨sk 1 (by decide) (by decide), hi, small_of h3 h4 (by decide), z, z, kz g⟩
  · exact ⟨sk 2 (by decide) (by decide), hi, z, z, z, small_of (Int.natCast_nonneg _) (show (ks.length : Int) ≤ 2048 by omega) (by decide), fun a ha => ⟨(h3 a ha).1, by have := (h3 a ha).2; omega⟩⟩
  · exact ⟨sk 3 (by decide) (by decide), hi, z, ⟨h3, by simp only; omega⟩, ⟨by simp only; omega, by simp only; omega⟩, kz g⟩
theorem entry_wf {e : EntryD} (h : entryB e = true) : WfEn e := by
  simp only [entryB, Bool.and_eq_true, decide_eq_true_eq, List.all_eq_true] at h
  obtain ⟨⟨⟨h1, h2⟩, h3⟩, h4⟩ := h
  exact ⟨⟨h1.1, by omega⟩, ⟨h1.2.2.1, by omega⟩, edit_wf h2, ⟨by omega, by omega⟩, fun s hs => step_wf (h4 s hs)⟩
theorem scan_wf {t : TreeD} {size : Int} : ∀ {xs : List NodeD} {i : Nat} {root before r : Int}, scan t size i xs root before = some r → -1 ≤ before →
    (∀ x ∈ xs, 0 ≤ x.id ∧ x.id < t.next ∧ 0 ≤ x.kind ∧ x.kind ≤ 7 ∧ 0 ≤ x.fr ∧ x.fr ≤ x.up ∧ x.up ≤ size) ∧ (r = root ∨ ∃ x ∈ xs, x.id = t.root ∧ x.kind = 0)
  | [], i, root, before, r, h, _ => by
    simp only [scan, Option.some.injEq] at h
    exact ⟨by simp, .inl h.symm⟩
  | x :: xs, i, root, before, r, h, hb => by
    simp only [scan] at h
    split at h
    · rename_i hc
      obtain ⟨⟨a1, a2, a3, a4, a5, a6, a7, a8, a9⟩, _⟩ := hc
      obtain ⟨h1, h2⟩ := scan_wf h (by omega)
      refine ⟨fun y hy => ?_, ?_⟩
      · rcases List.mem_cons.1 hy with rfl | hy
        · exact ⟨by omega, a3, a4, a5, a6, a7, a8⟩
        · exact h1 y hy
      · rcases h2 with h2 | ⟨y, hy, h2⟩
        · by_cases hk : x.kind = 0
          · exact .inr ⟨x, by simp, (a1 hk).1, hk⟩
          · rw [if_neg hk] at h2
            exact .inl h2
        · exact .inr ⟨y, by simp [hy], h2⟩
    · cases h
theorem posOf_some {xs : List NodeD} {id : Int} {k : Nat} (h : posOf xs id = some k) : ∃ y, xs[k]? = some y ∧ y.id = id := by
  unfold posOf at h
  rw [List.findIdx?_eq_some_iff_getElem] at h
  obtain ⟨hk, h1, _⟩ := h
  exact ⟨xs[k], List.getElem?_eq_getElem hk, by simpa using h1⟩
theorem unseen_set : ∀ {seen : List Bool} {k : Nat}, seen[k]? = some false → (seen.set k true).count false + 1 = seen.count false
  | [], k, h => by simp at h
  | b :: s, 0, h => by simp at h; subst h; simp
  | b :: s, k + 1, h => by
    have := unseen_set (seen := s) (k := k) (by simpa using h)
    simp only [List.set_cons_succ, List.count_cons]
    omega
theorem kidsGo_some {xs : List NodeD} {up : Int} : ∀ {ks : List Int} {fr : Int} {seen seen' : List Bool} {row row' : List Nat}, kidsGo xs up ks fr seen row = some (seen', row') →
    seen'.length = seen.length ∧ ks.length + seen'.count false = seen.count false ∧ (∀ a ∈ ks, ∃ y ∈ xs, y.id = a) ∧ (∀ k, k ∈ row → k ∈ row') ∧ (∀ k, seen[k]? = some false → seen'[k]? = some false ∨ k ∈ row') ∧ row'.length = row.length + ks.length
  | [], fr, seen, seen', row, row', h => by
    simp only [kidsGo, Option.some.injEq, Prod.mk.injEq] at h
    obtain ⟨rfl, rfl⟩ := h
    exact ⟨rfl, by simp, by simp, fun _ h => h, fun k h => .inl h, rfl⟩
  | id :: ks, fr, seen, seen', row, row', h => by
    simp only [kidsGo] at h
    cases hp : posOf xs id with
    | none => rw [hp] at h; cases h
    | some k =>
      obtain ⟨y, hy, hid⟩ := posOf_some hp
      simp only [hp, hy] at h
      split at h
      · rename_i hc
        obtain ⟨h1, h2, h3, h4, h5, h6⟩ := kidsGo_some h
        have hu := unseen_set hc.1
        refine ⟨by simpa using h1, by simp only [List.length_cons]; omega, fun a ha => ?_, fun j hj => h4 j (by simp [hj]), fun j hj => ?_, by simp at h6 ⊢; omega⟩
        · rcases List.mem_cons.1 ha with rfl | ha
          · exact ⟨y, List.mem_of_getElem? hy, hid⟩
          · exact h3 a ha
        · by_cases hjk : j = k
          · subst hjk
            exact .inr (h4 j (by simp))
          · exact h5 j (by rw [List.getElem?_set_ne (fun e => hjk e.symm)]; exact hj)
      · cases h
theorem bfs_kids {xs : List NodeD} : ∀ {f : Nat} {row : List Nat} {seen : List Bool}, bfs xs f row seen = true → ∀ k, (k ∈ row ∨ seen[k]? = some false) → ∀ x, xs[k]? = some x → (∀ a ∈ x.kids, ∃ y ∈ xs, y.id = a) ∧ x.kids.length ≤ seen.length
  | f, [], seen, h, k, hk, x, hx => by
    rcases hk with hk | hk
    · simp at hk
    · have h' : seen.all _root_.id = true := by cases f <;> exact h
      rw [List.all_eq_true] at h'
      exact absurd (h' _ (List.mem_of_getElem? hk)) (by simp)
  | 0, _ :: _, seen, h, k, hk, x, hx => by simp [bfs] at h
  | f + 1, r :: row, seen, h, k, hk, x, hx => by
    simp only [bfs] at h
    split at h
    · cases h
    · rename_i y hy
      split at h
      · cases h
      · rename_i p hp
        obtain ⟨h1, h2, h3, h4, h5, h6⟩ := kidsGo_some (seen' := p.1) (row' := p.2) hp
        have hc : seen.count false ≤ seen.length := List.count_le_length
        have key : ∀ j, j ∈ p.2 ∨ p.1[j]? = some false → ∀ z, xs[j]? = some z → (∀ a ∈ z.kids, ∃ y ∈ xs, y.id = a) ∧ z.kids.length ≤ seen.length := fun j hj z hz => by
          have := bfs_kids h j hj z hz
          rw [h1] at this
          exact this
        rcases hk with hk | hk
        · rcases List.mem_cons.1 hk with rfl | hk
          · rw [hy] at hx
            injection hx with hx
            subst hx
            exact ⟨h3, by omega⟩
          · exact key k (.inl (h4 k hk)) x hx
        · rcases h5 k hk with h | h
          · exact key k (.inr h) x hx
          · exact key k (.inl h) x hx
theorem tree_wf {t : TreeD} {size : Int} (h : treeB t size = true) : WfT t := by
  simp only [treeB, Bool.and_eq_true, decide_eq_true_eq] at h
  obtain ⟨⟨l1, l2, l3, l4, l5, l6⟩, h⟩ := h
  cases hs : scan t size 0 t.nodes (-1) (-1) with
  | none => rw [hs] at h; cases h
  | some r =>
    rw [hs] at h
    simp only [Bool.and_eq_true, decide_eq_true_eq] at h
    obtain ⟨h0, hb⟩ := h
    obtain ⟨w1, w2⟩ := scan_wf hs (by omega)
    have hid : ∀ y ∈ t.nodes, Small y.id := fun y hy => ⟨(w1 y hy).1, by have := (w1 y hy).2.1; omega⟩
    refine ⟨?_, ⟨l3, by omega⟩, ⟨by omega, by omega⟩, fun x hx => ?_⟩
    · rcases w2 with w2 | ⟨x, hx, e, _⟩
      · omega
      · rw [← e]; exact hid x hx
    · obtain ⟨a1, a2, a3, a4, a5, a6, a7⟩ := w1 x hx
      obtain ⟨k, hk, he⟩ := List.getElem_of_mem hx
      have hx' : t.nodes[k]? = some x := by rw [List.getElem?_eq_getElem hk, he]
      have := bfs_kids hb k (by
        by_cases hkr : k = r.toNat
        · exact .inl (by simp [hkr])
        · refine .inr ?_
          rw [List.getElem?_set_ne (fun e => hkr e.symm), List.getElem?_replicate, if_pos hk]) x hx'
      obtain ⟨b1, b2⟩ := this
      rw [List.length_set, List.length_replicate] at b2
      exact ⟨hid x hx, ⟨a3, by omega⟩, ⟨a5, by omega⟩, ⟨by omega, by omega⟩, ⟨by omega, by omega⟩, fun a ha => by
        obtain ⟨y, hy, e⟩ := b1 a ha
        rw [← e]; exact hid y hy⟩
theorem up_small {x most : Int} (h : upB x most = true) (hm : most < 1000000000) : Small x := by
  have := of_decide_eq_true h
  exact ⟨this.1, by omega⟩
theorem nil_of {α : Type} {l : List α} (h : l.length = 0) : l = [] := List.eq_nil_of_length_eq_zero h
theorem msg_wf {m : MsgD} (h : msgB m = true) : Wf m := by
  obtain ⟨k, c, v, q, f, l, u, es, en, t, ⟨o, n, xs⟩⟩ := m
  simp only [msgB, headB, Bool.and_eq_true] at h
  obtain ⟨⟨⟨h1, h2⟩, h3⟩, h⟩ := h
  refine ⟨up_small h1 (by decide), up_small h2 (by decide), up_small h3 (by decide), ?_⟩
  split at h
  · rename_i hk
    simp only [pollB, noneB, Bool.and_eq_true, decide_eq_true_eq] at h
    obtain ⟨⟨⟨⟨a1, a2, a3, a4, a5, a6, a7⟩, b⟩, d⟩, _⟩ := h
    exact .inl ⟨hk, a1, a2, a3, nil_of b, text_nil a4, by rw [a5, a6, nil_of a7]; rfl, edit_wf d⟩
  · split at h
    · rename_i hk
      simp only [chgB, noneB, Bool.and_eq_true, decide_eq_true_eq, List.all_eq_true] at h
      obtain ⟨⟨⟨a1, a2, a3, a4, a5, a6, a7⟩, b1, b2, b3⟩, d⟩ := h
      exact .inr (.inl ⟨hk, b2, a1, a2, a3, nil_of b1, text_nil a4, by rw [a5, a6, nil_of a7]; rfl, ⟨by simp only; omega, by simp only; omega⟩, fun e he => entry_wf (d e he)⟩)
    · split at h
      · rename_i hk
        simp only [snapB, Bool.and_eq_true, decide_eq_true_eq] at h
        obtain ⟨⟨⟨⟨⟨b1, b2⟩, f1⟩, l1⟩, t1⟩, r1⟩ := h
        exact .inr (.inr ⟨hk, nil_of b1, nil_of b2, up_small f1 (by decide), up_small l1 (by decide), ⟨by simp only; omega, by simp only; omega⟩, tree_wf r1⟩)
      · cases h
/-! ### What a text tells -/
/-- A text is that of a message. -/
def Says (m : MsgD) (l : List UInt8) : Prop := msgB m = true ∧ putS m = l
theorem says_got {m : MsgD} {l : List UInt8} (h : Says m l) (r : List UInt8) : takeM (l ++ r, false) = (m, r, false) := by
  rw [← h.2]; exact msg_back (msg_wf h.1) r
theorem says_one {m m' : MsgD} {l : List UInt8} (h : Says m l) (h' : Says m' l) : m = m' := by
  have h1 := says_got h []
  rw [says_got h' []] at h1
  exact (Prod.mk.inj h1).1.symm
theorem says_ends {m m' : MsgD} {l r : List UInt8} (h : Says m l) (h' : Says m' (l ++ r)) : r = [] := by
  have h1 := says_got h (r ++ [])
  rw [← List.append_assoc, says_got h' []] at h1
  have := (Prod.mk.inj (Prod.mk.inj h1).2).1
  simpa using this.symm
theorem says_ne {m : MsgD} {l : List UInt8} (h : Says m l) : l ≠ [] := by rw [← h.2]; simp [putS]
end Go.Proofs.YtkamhpbfebdhjaaGreatDoor.May

/- How long a message's text is at most. Nothing of the program stands here. -/
namespace Go.Proofs.YtkamhpbfebdhjaaGreatDoor.MayLen
open Go.Lib Go.Proofs.YtkamhpbfebdhjaaGreatDoor.Dec Go.Proofs.YtkamhpbfebdhjaaGreatDoor.Take Go.Proofs.YtkamhpbfebdhjaaGreatDoor.Tree Go.Proofs.YtkamhpbfebdhjaaGreatDoor.Data Go.Proofs.YtkamhpbfebdhjaaGreatDoor.Pk Go.Proofs.YtkamhpbfebdhjaaGreatDoor.May
set_option linter.unusedVariables false
theorem num_len {x : Int} (h : Small x) : (num x).length ≤ 10 := by
  unfold num
  rw [itoa_small h, List.length_append, List.length_singleton]
  have := dec_short x.toNat (by have := h.2; omega)
  omega
theorem flat_len {α β : Type} (f : α → List β) (B : Nat) : ∀ (xs : List α), (∀ a ∈ xs, (f a).length ≤ B) → (xs.flatMap f).length ≤ B * xs.length
  | [], _ => by simp
  | x :: xs, h => by
    have h1 := h x (by simp)
    have h2 := flat_len f B xs (fun a ha => h a (by simp [ha]))
    rw [List.flatMap_cons, List.length_append, List.length_cons, Nat.mul_add]
    omega
theorem nums_len10 (xs : List Int) (h : ∀ x ∈ xs, Small x) : (nums xs).length ≤ 10 * xs.length := flat_len num 10 xs fun x hx => num_len (h x hx)
theorem row_len {ks : List Int} (h : WfK ks) (hn : ks.length ≤ 2048) : (row ks).length ≤ 20490 := by
  have h1 := num_len h.1
  have h2 := nums_len10 ks h.2
  unfold row
  rw [List.length_append]
  omega
theorem str_len {s : List UInt8} (h : Small s.length) : (str s).length ≤ 10 + s.length := by
  have h1 := num_len h
  unfold str
  unfold num at h1
  simp only [List.length_append, List.length_cons, List.length_nil] at *
  omega
theorem comp_len {c : CompD} (h : rawB c = true) : (compS c).length ≤ 5000 := by
  have hw := raw_wf h
  have hsz : c.text.data.toList.length = c.text.size := Array.length_toList
  rcases of_decide_eq_true h with ⟨h0, h1, h2, h3⟩ | ⟨h0, h1, h2⟩
  · have hn : Small c.n := ⟨h1, by omega⟩
    have := num_len hn
    unfold compS
    rw [if_neg (by omega)]
    split <;> simp <;> omega
  · unfold compS
    rw [if_pos h0]
    have := str_len (s := c.text.data.toList) ⟨by omega, by omega⟩
    simp only [List.length_cons]
    omega
theorem comps_raw : ∀ {last : Int} {cs : List CompD}, compsOk last cs = true → ∀ c ∈ cs, rawB c = true
  | _, [], _ => by simp
  | last, c :: cs, h => by
    simp only [compsOk, Bool.and_eq_true] at h
    intro d hd
    rcases List.mem_cons.1 hd with rfl | hd
    · exact h.1.1
    · exact comps_raw h.2 d hd
theorem edit_len {cs : List CompD} (h : editB cs = true) : (editS cs).length ≤ 20480010 := by
  have hw := edit_wf h
  simp only [editB, Bool.and_eq_true, decide_eq_true_eq] at h
  have h1 := num_len hw.1
  have h2 := flat_len compS 5000 cs (fun c hc => comp_len (comps_raw h.1.2 c hc))
  unfold editS
  rw [List.length_append]
  omega
theorem step_len {s : StepD} (h : stepB s = true) : (stepS s).length ≤ 20540 := by
  obtain ⟨w1, w2, w3, w4, w5, w6⟩ := step_wf h
  have hk : s.kids.length ≤ 2048 := by
    obtain ⟨_, h⟩ := of_decide_eq_true h
    rcases h with h | h | h | h
    · omega
    · omega
    · exact h.2.1.1
    · omega
  have h1 := row_len w6 hk
  have h2 := nums_len10 [s.kind, s.id, s.node, s.fr, s.up] (by simp [w1, w2, w3, w4, w5])
  unfold stepS
  rw [List.length_append]
  simp only [List.length_cons, List.length_nil] at h2
  omega
theorem entry_len {e : EntryD} (h : entryB e = true) : (entryS e).length ≤ 189000000 := by
  obtain ⟨w1, w2, w3, w4, w5⟩ := entry_wf h
  simp only [entryB, Bool.and_eq_true, decide_eq_true_eq, List.all_eq_true] at h
  have h1 := edit_len h.1.1.2
  have h2 := flat_len stepS 20540 e.delta (fun s hs => step_len (h.2 s hs))
  have h3 := nums_len10 [e.client, e.seq] (by simp [w1, w2])
  have h4 := num_len w4
  unfold entryS
  simp only [List.length_append, List.length_cons, List.length_nil] at *
  omega
theorem tree_kids {t : TreeD} {size : Int} (h : treeB t size = true) : ∀ x ∈ t.nodes, x.kids.length ≤ 2048 := by
  simp only [treeB, Bool.and_eq_true, decide_eq_true_eq] at h
  obtain ⟨⟨l1, l2, l3, l4, l5, l6⟩, h⟩ := h
  cases hs : scan t size 0 t.nodes (-1) (-1) with
  | none => rw [hs] at h; cases h
  | some r =>
    rw [hs] at h
    simp only [Bool.and_eq_true, decide_eq_true_eq] at h
    obtain ⟨h0, hb⟩ := h
    intro x hx
    obtain ⟨k, hk, he⟩ := List.getElem_of_mem hx
    have hx' : t.nodes[k]? = some x := by rw [List.getElem?_eq_getElem hk, he]
    have := bfs_kids hb k (by
      by_cases hkr : k = r.toNat
      · exact .inl (by simp [hkr])
      · refine .inr ?_
        rw [List.getElem?_set_ne (fun e => hkr e.symm), List.getElem?_replicate, if_pos hk]) x hx'
    rw [List.length_set, List.length_replicate] at this
    omega
theorem tree_lim {t : TreeD} {size : Int} (h : treeB t size = true) : t.nodes.length ≤ 2048 := by
  simp only [treeB, Bool.and_eq_true, decide_eq_true_eq] at h
  exact h.1.2.1
theorem tree_len {t : TreeD} {size : Int} (h : treeB t size = true) : (treeS t).length ≤ 43000000 := by
  obtain ⟨w1, w2, w3, w4⟩ := tree_wf h
  have hk := tree_kids h
  have hl := tree_lim h
  have h1 := nums_len10 [t.root, t.next, (t.nodes.length : Int)] (by simp [w1, w2, w3])
  have h2 := flat_len nodeS 20530 t.nodes (fun x hx => by
    obtain ⟨a1, a2, a3, a4, a5⟩ := w4 x hx
    have b1 := row_len a5 (hk x hx)
    have b2 := nums_len10 [x.id, x.kind, x.fr, x.up] (by simp [a1, a2, a3, a4])
    unfold nodeS
    rw [List.length_append]
    simp only [List.length_cons, List.length_nil] at b2
    omega)
  unfold treeS
  rw [List.length_append]
  simp only [List.length_cons, List.length_nil] at h1
  omega
theorem body_len {m : MsgD} (h : msgB m = true) : (bodyS m).length ≤ 600000000 := by
  have hw := msg_wf h
  have hq := num_len hw.seq
  simp only [msgB, Bool.and_eq_true] at h
  obtain ⟨_, h⟩ := h
  unfold bodyS
  split at h
  · rename_i hk
    simp only [pollB, Bool.and_eq_true] at h
    have := edit_len h.1.2
    rw [if_pos hk, List.length_append]
    omega
  · split at h
    · rename_i h0 hk
      simp only [chgB, Bool.and_eq_true, decide_eq_true_eq, List.all_eq_true] at h
      have h1 := flat_len entryS 189000000 m.entries (fun e he => entry_len (h.2 e he))
      have h2 := num_len (x := (m.entries.length : Int)) ⟨by omega, by omega⟩
      rw [if_neg h0, if_pos hk, List.length_append]
      omega
    · split at h
      · rename_i h0 h1 hk
        rcases hw.kind with hh | hh | hh
        · exact absurd hh.1 h0
        · exact absurd hh.1 h1
        · obtain ⟨_, _, _, f1, f2, f3, f4⟩ := hh
          simp only [snapB, Bool.and_eq_true, decide_eq_true_eq] at h
          have hsz : m.text.data.toList.length = m.text.size := Array.length_toList
          have t1 := tree_len h.2
          have t2 := str_len (s := m.text.data.toList) (by rw [hsz]; exact f3)
          have hb : Small (bit m.refused) := by cases m.refused <;> exact ⟨by decide, by decide⟩
          have t3 := nums_len10 [m.seq, m.fr, m.last, bit m.refused] (by simp [hw.seq, f1, f2, hb])
          rw [if_neg h0, if_neg h1]
          simp only [List.length_append, List.length_cons, List.length_nil] at *
          omega
      · cases h
theorem put_len {m : MsgD} (h : msgB m = true) : (putS m).length ≤ 700000000 := by
  have h1 := body_len h
  have hw := msg_wf h
  have h2 := nums_len10 [m.client, m.rev] (by simp [hw.client, hw.rev])
  unfold putS
  simp only [List.length_append, List.length_cons, List.length_nil] at *
  omega
/-- May a message be put? -/
def putOk (m : MsgD) : Bool := msgB m && decide ((putS m).length ≤ 1000000)
end Go.Proofs.YtkamhpbfebdhjaaGreatDoor.MayLen

/- What is taken from a text: its numbers are small. Nothing of the program stands here. -/
namespace Go.Proofs.YtkamhpbfebdhjaaGreatDoor.PkR
open Go.Lib Go.Proofs.YtkamhpbfebdhjaaGreatDoor.Dec Go.Proofs.YtkamhpbfebdhjaaGreatDoor.Take Go.Proofs.YtkamhpbfebdhjaaGreatDoor.Tree Go.Proofs.YtkamhpbfebdhjaaGreatDoor.Data Go.Proofs.YtkamhpbfebdhjaaGreatDoor.Pk Go.Proofs.YtkamhpbfebdhjaaGreatDoor.May
set_option linter.unusedVariables false
set_option linter.unusedSimpArgs false
theorem decFrom_lt : ∀ (l : List UInt8) (acc n : Nat), decFrom acc l = some n → n < (acc + 1) * 10 ^ l.length
  | [], acc, n, h => by
    simp only [decFrom, Option.some.injEq] at h
    simp; omega
  | b :: r, acc, n, h => by
    simp only [decFrom] at h
    cases hd : digitVal b with
    | none => rw [hd] at h; cases h
    | some d =>
      rw [hd] at h
      have hd10 : d < 10 := by
        unfold digitVal at hd
        split at hd
        · injection hd with hd; omega
        · cases hd
      have := decFrom_lt r _ n h
      rw [List.length_cons, Nat.pow_succ]
      have h2 : (10 * acc + d + 1) * 10 ^ r.length ≤ (acc + 1) * (10 ^ r.length * 10) := by
        rw [Nat.mul_comm (10 ^ r.length) 10, ← Nat.mul_assoc]
        exact Nat.mul_le_mul_right _ (by omega)
      refine Nat.lt_of_lt_of_le this (Nat.le_trans ?_ h2)
      exact Nat.mul_le_mul_right _ (by omega)
theorem dig_small (e : UInt8) (st : St) : Small (digR e st).1 := by
  have z : Small 0 := ⟨by decide, by decide⟩
  unfold digR
  cases hc : cutAt e st.1 with
  | none => exact z
  | some p =>
    obtain ⟨l, r⟩ := p
    simp only
    cases ha : atoiAll l with
    | «syntax» => exact z
    | range => exact z
    | ok v =>
      simp only
      split
      · exact z
      · rename_i hn
        simp only [Bool.or_eq_true, decide_eq_true_eq, not_or] at hn
        obtain ⟨⟨_, h9⟩, hs⟩ := hn
        rw [atoiAll_short l (by omega)] at ha
        have hat : atoi l = some v := by
          cases h : atoi l with
          | none => rw [h] at ha; cases ha
          | some u => rw [h] at ha; injection ha with ha; rw [ha]
        cases l with
        | nil => cases hat
        | cons b r =>
          have h1 : (b == 45) = false := by
            cases h : (b == 45) with
            | false => rfl
            | true => exact absurd (by simp [sign, h]) hs
          have h2 : (b == 43) = false := by
            cases h : (b == 43) with
            | false => rfl
            | true => exact absurd (by simp [sign, h]) hs
          simp only [atoi, h1, h2, Bool.false_eq_true, if_false, Option.map_eq_some_iff] at hat
          obtain ⟨n, hn, rfl⟩ := hat
          unfold decNat at hn
          split at hn
          · cases hn
          · have := decFrom_lt _ _ _ hn
            have h3 : 10 ^ (b :: r).length ≤ 10 ^ 9 := Nat.pow_le_pow_right (by decide) (by omega)
            exact ⟨by simp only; omega, by simp only; omega⟩
theorem num_small (st : St) : Small (numR st).1 := dig_small 44 st
theorem eachN_mem {α : Type} {one : St → α × St} : ∀ (n : Nat) (st : St) (a : α), a ∈ (eachN one n st).1 → ∃ st', a = (one st').1
  | 0, st, a, h => by simp [eachN] at h
  | n + 1, st, a, h => by
    unfold eachN at h
    split at h
    · simp at h
    · simp only [List.mem_cons] at h
      rcases h with h | h
      · exact ⟨st, h⟩
      · exact eachN_mem n _ a h
theorem eachN_len {α : Type} {one : St → α × St} : ∀ (n : Nat) (st : St), (eachN one n st).1.length ≤ n
  | 0, st => by simp [eachN]
  | n + 1, st => by
    unfold eachN
    split
    · simp
    · have := eachN_len (one := one) n (one st).2
      simp only [List.length_cons]; omega
theorem eachR_len {α : Type} {one : St → α × St} (st : St) : (eachR one st).1.length < 1000000000 := by
  have h := dig_small 44 st
  have := eachN_len (one := one) (digR 44 st).1.toNat (digR 44 st).2
  have h1 := h.1
  have h2 := h.2
  unfold eachR
  omega
theorem eachN_bad {α : Type} {one : St → α × St} {n : Nat} {st : St} (h : st.2 = true) : eachN one n st = ([], st) := by
  cases n with
  | zero => rfl
  | succ n => unfold eachN; rw [if_pos h]
theorem eachN_go {α : Type} {one : St → α × St} {n : Nat} {st : St} (h : st.2 = false) : eachN one (n + 1) st = ((one st).1 :: (eachN one n (one st).2).1, (eachN one n (one st).2).2) := by
  rw [eachN, if_neg (by rw [h]; decide)]
theorem eachR_mem {α : Type} {one : St → α × St} {st : St} {a : α} (h : a ∈ (eachR one st).1) : ∃ st', a = (one st').1 := eachN_mem _ _ _ h
theorem kids_small {st : St} : ∀ k ∈ (eachR numR st).1, Small k := fun k hk => by
  obtain ⟨st', rfl⟩ := eachR_mem hk
  exact num_small st'
/-- The ids of a tree that was taken are numbers. -/
theorem node_small (st : St) : Small (takeN st).1.id ∧ ∀ k ∈ (takeN st).1.kids, Small k := ⟨num_small st, kids_small⟩
theorem msg_nodes (st : St) : (takeM st).1.tree.nodes = [] ∨ ∃ st', (takeM st).1.tree.nodes = (eachR takeN st').1 := by
  by_cases k0 : kindOf (byteR st).1 = 0
  · exact .inl (by unfold takeM; simp only; rw [if_pos k0]; rfl)
  · by_cases k1 : kindOf (byteR st).1 = 1
    · exact .inl (by unfold takeM; simp only; rw [if_neg k0, if_pos k1]; rfl)
    · by_cases k2 : kindOf (byteR st).1 = 2
      · refine .inr ⟨?_, ?_⟩
        rotate_left
        · unfold takeM; simp only; rw [if_neg k0, if_neg k1, if_pos k2]
      · exact .inl (by unfold takeM; simp only; rw [if_neg k0, if_neg k1, if_neg k2]; rfl)
theorem msg_small (st : St) : ∀ x ∈ (takeM st).1.tree.nodes, Small x.id ∧ ∀ k ∈ x.kids, Small k := by
  intro x hx
  rcases msg_nodes st with h | ⟨st', h⟩
  · rw [h] at hx; cases hx
  · rw [h] at hx
    obtain ⟨st2, rfl⟩ := eachR_mem hx
    exact node_small st2
end Go.Proofs.YtkamhpbfebdhjaaGreatDoor.PkR

/- Plain facts for awake of the laws on messages. Nothing of the program stands here. -/
namespace Go.Proofs.YtkamhpbfebdhjaaGreatDoor.PkA
open Go.Lib Go.Proofs.YtkamhpbfebdhjaaGreatDoor.Dec Go.Proofs.YtkamhpbfebdhjaaGreatDoor.Take Go.Proofs.YtkamhpbfebdhjaaGreatDoor.Data Go.Proofs.YtkamhpbfebdhjaaGreatDoor.Pk Go.Proofs.YtkamhpbfebdhjaaGreatDoor.May Go.Proofs.YtkamhpbfebdhjaaGreatDoor.MayLen
set_option linter.unusedVariables false
set_option linter.unusedSimpArgs false
def eA : List CompD := [⟨0, 4, ba []⟩, ⟨1, 0, ba [97, 44]⟩, ⟨2, 1, ba []⟩]
def mA : MsgD := ⟨0, 2, 7, 3, 0, 0, false, eA, [], ba [], noTree⟩
def mS : MsgD := ⟨2, 0, 0, 0, 0, 0, false, [], [], ba [], noTree⟩
def sC : List StepD := [⟨2, 4, 0, 0, 0, [5]⟩]
def nC : List EntryD := [⟨1, 1, [⟨0, 2, ba []⟩], sC⟩]
def mC : MsgD := ⟨1, 0, 1, 0, 0, 0, false, [], nC, ba [], noTree⟩
theorem putA : putS mA = [80, 50, 44, 55, 44, 51, 44, 51, 44, 107, 52, 44, 112, 50, 58, 97, 44, 99, 49, 44] := by
  simp [putS, mA, eA, bodyS, editS, compS, letter, nums, num, Take.str, itoa, decDigits, ba]
theorem okA : putOk mA = true := by
  unfold putOk
  rw [putA]
  simp [msgB, headB, mA, eA, pollB, noneB, editB, compsOk, rawB, rawP, sizeC, upB, spanF, spanT, noTree, ba, ByteArray.size]
theorem noS : putOk mS = false := by
  unfold putOk
  simp [msgB, headB, mS, snapB, treeB, treeLim, noTree]
theorem putC : putS mC = [67, 48, 44, 49, 44, 49, 44, 49, 44, 49, 44, 49, 44, 107, 50, 44, 49, 44, 50, 44, 52, 44, 48, 44, 48, 44, 48, 44, 49, 44, 53, 44] := by
  simp [putS, mC, nC, sC, bodyS, entryS, stepS, editS, compS, row, letter, nums, num, Take.str, itoa, decDigits, ba]
theorem okC : putOk mC = true := by
  unfold putOk
  rw [putC]
  simp [msgB, headB, mC, nC, sC, chgB, entryB, stepB, stepP, idP, noneB, editB, compsOk, rawB, rawP, sizeC, upB, spanF, spanT, noTree, ba, ByteArray.size]
def l03 : List UInt8 := [80, 50, 44, 55, 44, 48, 51, 44, 48, 44]
theorem no03 (m : MsgD) (h : Says m l03) : False := by
  have h1 := says_got h []
  rw [List.append_nil] at h1
  have h2 : (takeM (l03, false)).1.seq = 3 ∧ (takeM (l03, false)).1.kind = 0 ∧ (takeM (l03, false)).1.client = 2 ∧ (takeM (l03, false)).1.rev = 7 := ⟨rfl, rfl, rfl, rfl⟩
  rw [h1] at h2
  obtain ⟨e1, e2, e3, e4⟩ := h2
  simp only at e1 e2 e3 e4
  have h3 := h.2
  obtain ⟨k, c, v, q, f, l, u, es, en, t, T⟩ := m
  simp only at e1 e2 e3 e4
  subst e1 e2 e3 e4
  simp [putS, bodyS, letter, nums, num, itoa, decDigits, l03] at h3
end Go.Proofs.YtkamhpbfebdhjaaGreatDoor.PkA

/- Plain laws on weighted sums of bytes modulo 1000003: nothing of the program stands here. -/
namespace Go.Proofs.YtkamhpbfebdhjaaGreatDoor.SumMath
set_option linter.unusedVariables false
set_option linter.unusedSimpArgs false

/-- Each byte with its place, from a place on. -/
def wsum : List UInt8 → Int → Int
  | [], _ => 0
  | b :: l, i => (i + 1) * (b.toNat : Int) + wsum l (i + 1)
/-- All bytes. -/
def bsum : List UInt8 → Int
  | [] => 0
  | b :: l => (b.toNat : Int) + bsum l
def sumL (l : List UInt8) : Int := wsum l 0 % 1000003

theorem wsum_shift (l : List UInt8) : ∀ i k : Int, wsum l (i + k) = wsum l i + k * bsum l := by
  induction l with
  | nil => intro i k; simp [wsum, bsum]
  | cons b l ih =>
    intro i k
    simp only [wsum, bsum]
    rw [show i + k + 1 = (i + 1) + k from by omega, ih, Int.mul_add, Int.add_mul (i + 1) k]
    omega
theorem wsum_append (l m : List UInt8) : ∀ i : Int, wsum (l ++ m) i = wsum l i + wsum m (i + l.length) := by
  induction l with
  | nil => intro i; simp [wsum]
  | cons b l ih =>
    intro i
    simp only [wsum, List.cons_append, List.length_cons]
    rw [ih, show i + 1 + (l.length : Int) = i + ((l.length + 1 : Nat) : Int) from by omega]
    omega
theorem bsum_range (l : List UInt8) : 0 ≤ bsum l ∧ bsum l ≤ 255 * l.length := by
  induction l with
  | nil => simp [bsum]
  | cons b l ih =>
    have := b.toNat_lt
    simp only [bsum, List.length_cons]
    omega
theorem bsum_append (l m : List UInt8) : bsum (l ++ m) = bsum l + bsum m := by
  induction l with
  | nil => simp [bsum]
  | cons b l ih => simp only [bsum, List.cons_append]; omega
theorem sumL_range (l : List UInt8) : 0 ≤ sumL l ∧ sumL l < 1000003 := by unfold sumL; omega
theorem sumL_append (l m : List UInt8) : sumL (l ++ m) = (sumL l + sumL m + l.length * bsum m) % 1000003 := by
  unfold sumL
  rw [wsum_append, show (0 : Int) + (l.length : Int) = 0 + (l.length : Int) from rfl, wsum_shift]
  generalize (l.length : Int) * bsum m = c
  omega
theorem wsum_set (l : List UInt8) : ∀ (j : Nat) (c : UInt8) (i : Int), (h : j < l.length) → wsum (l.set j c) i = wsum l i + (i + j + 1) * ((c.toNat : Int) - (l[j].toNat : Int)) := by
  induction l with
  | nil => intro j c i h; simp at h
  | cons b l ih =>
    intro j c i h
    cases j with
    | zero =>
      simp only [List.set_cons_zero, wsum, List.getElem_cons_zero]
      rw [show i + ((0 : Nat) : Int) + 1 = i + 1 from by omega, Int.mul_sub]
      omega
    | succ j =>
      simp only [List.set_cons_succ, wsum, List.getElem_cons_succ]
      rw [ih j c (i + 1) (by simpa using h), show i + 1 + (j : Int) + 1 = i + ((j + 1 : Nat) : Int) + 1 from by omega]
      omega
theorem bytes_coprime : ∀ c, c < 256 → 0 < c → Nat.gcd c 1000003 = 1 := by decide +kernel
/-- A place below the prime times an unlike byte is no multiple of it. -/
theorem no_multiple (a b : Int) (ha : a ≠ 0) (ha' : -1000003 < a ∧ a < 1000003) (hb : b ≠ 0) (hb' : -256 < b ∧ b < 256) : ¬ (1000003 : Int) ∣ a * b := by
  intro h
  have h1 := Int.natAbs_dvd_natAbs.2 h
  rw [Int.natAbs_mul] at h1
  have h2 : Nat.Coprime 1000003 b.natAbs := by
    rw [Nat.coprime_comm]
    exact bytes_coprime b.natAbs (by omega) (by omega)
  have h3 := Nat.Coprime.dvd_of_dvd_mul_right h2 h1
  have h4 := Nat.le_of_dvd (by omega) h3
  have h5 : ((1000003 : Int)).natAbs = 1000003 := rfl
  omega
theorem unlike_sums (x y a b : Int) (h : y = x + a * b) (ha : a ≠ 0) (ha' : -1000003 < a ∧ a < 1000003) (hb : b ≠ 0) (hb' : -256 < b ∧ b < 256) : y % 1000003 ≠ x % 1000003 := by
  intro e
  refine no_multiple a b ha ha' hb hb' ?_
  have h1 : a * b = y - x := by omega
  rw [h1]
  omega
theorem sumL_set (l : List UInt8) (j : Nat) (c : UInt8) (h : j < l.length) (hl : l.length ≤ 1000000) (hc : c ≠ l[j]) : sumL (l.set j c) ≠ sumL l := by
  unfold sumL
  have h1 : c.toNat ≠ l[j].toNat := fun e => hc (UInt8.toNat_inj.1 e)
  have h2 := c.toNat_lt
  have h3 := l[j].toNat_lt
  refine unlike_sums (wsum l 0) _ ((j : Int) + 1) ((c.toNat : Int) - (l[j].toNat : Int)) ?_ (by omega) (by omega) (by omega) (by omega)
  rw [wsum_set l j c 0 h, show (0 : Int) + (j : Int) + 1 = (j : Int) + 1 from by omega]
/-- Two bytes that change places. -/
theorem sumL_swap (l : List UInt8) (x y : Nat) (hx : x < l.length) (hy : y < l.length) (hl : l.length ≤ 1000000) :
    (sumL ((l.set x l[y]).set y l[x]) = sumL l) ↔ (l[x] = l[y] ∨ x = y) := by
  by_cases hxy : x = y
  · subst hxy
    simp
  · by_cases e : l[x] = l[y]
    · have h1 : (l.set x l[y]).set y l[x] = l := by
        rw [← e, List.set_getElem_self, e, List.set_getElem_self]
      exact ⟨fun _ => .inl e, fun _ => by rw [h1]⟩
    · refine ⟨fun h => ?_, fun h => absurd h (by simp [e, hxy])⟩
      exfalso
      have h1 : (l[x]).toNat ≠ (l[y]).toNat := fun e' => e (UInt8.toNat_inj.1 e')
      have h2 := (l[x]).toNat_lt
      have h3 := (l[y]).toNat_lt
      unfold sumL at h
      refine unlike_sums (wsum l 0) (wsum ((l.set x l[y]).set y l[x]) 0) ((x : Int) - (y : Int)) (((l[y]).toNat : Int) - ((l[x]).toNat : Int)) ?_ (by omega) (by omega) (by omega) (by omega) h
      rw [wsum_set _ y _ 0 (by simpa using hy), wsum_set l x _ 0 hx]
      rw [List.getElem_set_ne (by omega)]
      generalize ((l[y]).toNat : Int) = p
      generalize ((l[x]).toNat : Int) = q
      rw [show (0 : Int) + (x : Int) + 1 = x + 1 from by omega, show (0 : Int) + (y : Int) + 1 = y + 1 from by omega]
      simp only [Int.sub_mul, Int.add_mul, Int.mul_sub]
      omega
end Go.Proofs.YtkamhpbfebdhjaaGreatDoor.SumMath

/- Texts in their frames, as plain functions; a frame of which one byte was turned is none. Nothing of the program stands here. -/
namespace Go.Proofs.YtkamhpbfebdhjaaGreatDoor.Fr
open Go.Lib Go.Proofs.YtkamhpbfebdhjaaGreatDoor.Dec Go.Proofs.YtkamhpbfebdhjaaGreatDoor.Take Go.Proofs.YtkamhpbfebdhjaaGreatDoor.SumMath
set_option linter.unusedVariables false
set_option linter.unusedSimpArgs false
def wrapS (l : List UInt8) : List UInt8 := itoa l.length ++ 58 :: (itoa (sumL l) ++ 58 :: l)
/-- The text that stands in a frame. -/
def frameR (s : List UInt8) : Option (List UInt8) :=
  let a := digR 58 (s, false)
  let b := digR 58 a.2
  if b.2.2 = true ∨ a.1 ≠ b.2.1.length ∨ wrapS b.2.1 ≠ s then none else some b.2.1
theorem sum_small (l : List UInt8) : Small (sumL l) := by have := sumL_range l; exact ⟨this.1, by omega⟩
theorem len_small {l : List UInt8} (h : l.length < 1000000000) : Small (l.length : Int) := ⟨by omega, by omega⟩
theorem frame_back {l : List UInt8} (h : l.length < 1000000000) : frameR (wrapS l) = some l := by
  have h1 := digR_back 58 (by decide) (len_small h) (itoa (sumL l) ++ 58 :: l)
  have h2 := digR_back 58 (by decide) (sum_small l) l
  unfold frameR
  simp only [wrapS, h1, h2]
  rw [if_neg (by simp)]
theorem frame_some {s l : List UInt8} (h : frameR s = some l) : wrapS l = s := by
  unfold frameR at h
  simp only at h
  split at h
  · cases h
  · rename_i hc
    injection h with h
    subst h
    by_cases e : wrapS (digR 58 (digR 58 (s, false)).2).2.1 = s
    · exact e
    · exact absurd (.inr (.inr e)) hc
theorem wrap_inj {a b : List UInt8} (ha : a.length < 1000000000) (hb : b.length < 1000000000) (h : wrapS a = wrapS b) : a = b := by
  have h1 := frame_back ha
  rw [h, frame_back hb] at h1
  injection h1 with h1
  exact h1.symm
theorem dig_ne {u : Nat} {b : UInt8} (h : b ∈ decDigits u) : b ≠ 58 := fun e => by
  have := dec_mem u b h
  subst e
  exact absurd this.2 (by decide)
theorem dec_inj {u v : Nat} (h : decDigits u = decDigits v) : u = v := by
  have h1 := decNat_dec u
  rw [h, decNat_dec v] at h1
  injection h1 with h1
  exact h1.symm
theorem nd_mono : ∀ (u v : Nat), u ≤ v → nDigits u ≤ nDigits v := by
  intro u
  induction u using Nat.strongRecOn with
  | ind u ih =>
    intro v h
    by_cases hu : u < 10
    · rw [nDigits_small hu]
      exact nDigits_pos v
    · have hv : ¬ v < 10 := by omega
      rw [nDigits_big hu, nDigits_big hv]
      have := ih (u / 10) (by omega) (v / 10) (Nat.div_le_div_right h)
      omega
theorem dec_mono (u v : Nat) (h : u ≤ v) : (decDigits u).length ≤ (decDigits v).length := by
  rw [decDigits_length, decDigits_length]
  exact nd_mono u v h
/-- Three parts with a colon behind the first and the second one. -/
def three (A S l : List UInt8) : List UInt8 := A ++ 58 :: (S ++ 58 :: l)
theorem wrap_three (l : List UInt8) : wrapS l = three (decDigits l.length) (decDigits (sumL l).toNat) l := by
  have h := sumL_range l
  unfold wrapS three
  have e1 : itoa (l.length : Int) = decDigits l.length := by
    unfold itoa
    rw [if_neg (by omega)]
    rfl
  have e2 : itoa (sumL l) = decDigits (sumL l).toNat := by
    unfold itoa
    rw [if_neg (by omega)]
  rw [e1, e2]
theorem three_a {A S l : List UInt8} {j : Nat} (h : j < A.length) : (three A S l)[j]? = A[j]? := by unfold three; rw [List.getElem?_append_left h]
theorem three_c {A S l : List UInt8} : (three A S l)[A.length]? = some 58 := by unfold three; rw [List.getElem?_append_right (Nat.le_refl _)]; simp
theorem three_s {A S l : List UInt8} {j : Nat} (h : j < S.length) : (three A S l)[A.length + 1 + j]? = S[j]? := by
  unfold three
  rw [List.getElem?_append_right (by omega), show A.length + 1 + j - A.length = j + 1 by omega, List.getElem?_cons_succ, List.getElem?_append_left h]
theorem three_d {A S l : List UInt8} : (three A S l)[A.length + 1 + S.length]? = some 58 := by
  unfold three
  rw [List.getElem?_append_right (by omega), show A.length + 1 + S.length - A.length = S.length + 1 by omega, List.getElem?_cons_succ, List.getElem?_append_right (Nat.le_refl _)]; simp
theorem three_l {A S l : List UInt8} {j : Nat} : (three A S l)[A.length + S.length + 2 + j]? = l[j]? := by
  unfold three
  rw [List.getElem?_append_right (by omega), show A.length + S.length + 2 + j - A.length = (S.length + 1 + j) + 1 by omega, List.getElem?_cons_succ, List.getElem?_append_right (by omega), show S.length + 1 + j - S.length = j + 1 by omega, List.getElem?_cons_succ]
theorem three_len {A S l : List UInt8} : (three A S l).length = A.length + S.length + 2 + l.length := by unfold three; simp; omega
/-- Two frames as long as each other that are alike but for one place. -/
structure Near (i : Nat) (a b : List UInt8) : Prop where
  len : (wrapS a).length = (wrapS b).length
  at_ : ∀ j, j ≠ i → (wrapS a)[j]? = (wrapS b)[j]?
theorem Near.symm {i : Nat} {a b : List UInt8} (h : Near i a b) : Near i b a := ⟨h.len.symm, fun j hj => (h.at_ j hj).symm⟩
theorem Near.only {i : Nat} {a b : List UInt8} (h : Near i a b) {j : Nat} (hj : (wrapS a)[j]? ≠ (wrapS b)[j]?) : j = i := by
  by_cases e : j = i
  · exact e
  · exact absurd (h.at_ j e) hj
theorem dig_at {u j : Nat} {b : UInt8} (h : (decDigits u)[j]? = some b) : b ≠ 58 := dig_ne (List.mem_of_getElem? h)
theorem dig_some {u j : Nat} (h : j < (decDigits u).length) : (decDigits u)[j]? ≠ some 58 := fun e => dig_at e rfl
theorem near_p {i : Nat} {a b : List UInt8} (h : Near i a b) : (decDigits b.length).length ≤ (decDigits a.length).length := by
  refine Nat.le_of_not_lt fun hlt => ?_
  have hl := h.len
  have ho := @Near.only _ _ _ h
  rw [wrap_three, wrap_three] at hl ho
  rw [three_len, three_len] at hl
  have hab : a.length < b.length := by
    refine Nat.lt_of_not_le fun hle => ?_
    have := dec_mono _ _ hle
    omega
  have h1 : (decDigits a.length).length = i := ho (by
    rw [three_c, three_a hlt]
    exact fun e => dig_some hlt e.symm)
  have h2 : (decDigits b.length).length = i := ho (by
    rw [three_c, show (decDigits b.length).length = (decDigits a.length).length + 1 + ((decDigits b.length).length - (decDigits a.length).length - 1) by omega, three_s (by omega)]
    exact dig_some (by omega))
  omega
theorem near_q {i : Nat} {a b : List UInt8} (h : Near i a b) (hp : (decDigits a.length).length = (decDigits b.length).length) (hi : i < (decDigits a.length).length) : (decDigits (sumL b).toNat).length ≤ (decDigits (sumL a).toNat).length := by
  refine Nat.le_of_not_lt fun hlt => ?_
  have ho := @Near.only _ _ _ h
  rw [wrap_three, wrap_three] at ho
  have h1 : (decDigits a.length).length + 1 + (decDigits (sumL a).toNat).length = i := ho (by
    rw [three_d, hp, three_s hlt]
    exact fun e => dig_some hlt e.symm)
  omega
theorem list_diff : ∀ {l m : List UInt8}, l.length = m.length → l ≠ m → ∃ j, j < l.length ∧ l[j]? ≠ m[j]?
  | [], [], _, h => absurd rfl h
  | x :: l, y :: m, hl, h => by
    by_cases e : x = y
    · subst e
      obtain ⟨j, hj, hne⟩ := list_diff (l := l) (m := m) (by simpa using hl) (fun e => h (by rw [e]))
      exact ⟨j + 1, by simpa using hj, by simpa using hne⟩
    · exact ⟨0, by simp, by simpa using e⟩
/-- A frame of which one byte was turned is none. -/
theorem near_same {i : Nat} {a b : List UInt8} (h : Near i a b) (ha : a.length ≤ 1000000) : a = b := by
  have hp : (decDigits a.length).length = (decDigits b.length).length := Nat.le_antisymm (near_p h.symm) (near_p h)
  have hl := h.len
  have ho := @Near.only _ _ _ h
  rw [wrap_three, wrap_three] at hl ho
  rw [three_len, three_len] at hl
  by_cases hab : a.length = b.length
  · have hq : (decDigits (sumL a).toNat).length = (decDigits (sumL b).toNat).length := by omega
    refine Classical.byContradiction fun hne => ?_
    obtain ⟨j, hj, hd⟩ := list_diff hab hne
    have hi := ho (j := (decDigits a.length).length + (decDigits (sumL a).toNat).length + 2 + j) (by rw [three_l, hp, hq, three_l]; exact hd)
    have hS : decDigits (sumL a).toNat = decDigits (sumL b).toNat := by
      refine Classical.byContradiction fun hS => ?_
      obtain ⟨k, hk, hd⟩ := list_diff hq hS
      have := ho (j := (decDigits a.length).length + 1 + k) (by rw [three_s hk, hp, three_s (by omega)]; exact hd)
      omega
    have hs : sumL a = sumL b := by
      have := dec_inj hS
      have h1 := sumL_range a
      have h2 := sumL_range b
      omega
    have hjb : j < b.length := by omega
    have hb : b = a.set j b[j] := by
      refine List.ext_getElem? fun k => ?_
      by_cases hkj : k = j
      · subst hkj
        rw [List.getElem?_set_self hj, List.getElem?_eq_getElem hjb]
      · rw [List.getElem?_set_ne (fun e => hkj e.symm)]
        refine Classical.byContradiction fun hne => ?_
        have := ho (j := (decDigits a.length).length + (decDigits (sumL a).toNat).length + 2 + k) (by rw [three_l, hp, hq, three_l]; exact fun e => hne e.symm)
        omega
    refine sumL_set a j b[j] hj ha (fun e => hd ?_) (by rw [← hb]; exact hs.symm)
    rw [List.getElem?_eq_getElem hj, List.getElem?_eq_getElem hjb, e]
  · obtain ⟨k, hk, hd⟩ := list_diff hp (fun e => hab (dec_inj e))
    have hi := ho (j := k) (by rw [three_a hk, three_a (by omega)]; exact hd)
    have h1 := near_q h hp (by omega)
    have h2 := near_q h.symm hp.symm (by omega)
    omega
theorem turned_none {a b : List UInt8} {i : Nat} {c : UInt8} (ha : a.length ≤ 1000000) (hi : i < (wrapS a).length) (hc : c ≠ (wrapS a)[i]) : (wrapS a).set i c ≠ wrapS b := by
  intro e
  have hn : Near i a b := ⟨by rw [← e, List.length_set], fun j hj => by rw [← e, List.getElem?_set_ne (fun e => hj e.symm)]⟩
  have := near_same hn ha
  subst this
  have h1 : ((wrapS a).set i c)[i]? = (wrapS a)[i]? := by rw [e]
  rw [List.getElem?_set_self hi, List.getElem?_eq_getElem hi] at h1
  injection h1 with h1
  exact hc h1
/-- No frame goes on as another one. -/
theorem wrap_ends {a b r : List UInt8} (ha : a.length < 1000000000) (hb : b.length < 1000000000) (h : wrapS a ++ r = wrapS b) : r = [] := by
  have e : wrapS a ++ r = itoa a.length ++ 58 :: (itoa (sumL a) ++ 58 :: (a ++ r)) := by simp [wrapS]
  have h1 := digR_back 58 (by decide) (len_small ha) (itoa (sumL a) ++ 58 :: (a ++ r))
  have h2 := digR_back 58 (by decide) (sum_small a) (a ++ r)
  have g1 := digR_back 58 (by decide) (len_small hb) (itoa (sumL b) ++ 58 :: b)
  have g2 := digR_back 58 (by decide) (sum_small b) b
  rw [show itoa (b.length : Int) ++ 58 :: (itoa (sumL b) ++ 58 :: b) = wrapS b from rfl, ← h, e, h1] at g1
  obtain ⟨k1, k2⟩ := Prod.mk.inj g1
  rw [(Prod.mk.inj k2).1] at h2
  rw [h2] at g2
  have k3 := (Prod.mk.inj (Prod.mk.inj g2).2).1
  have := congrArg List.length k3
  rw [List.length_append] at this
  exact List.eq_nil_of_length_eq_zero (by omega)
theorem wrap_len {a : List UInt8} (h : a.length < 1000000000) : (wrapS a).length ≤ a.length + 20 := by
  have h0 := sumL_range a
  rw [wrap_three, three_len]
  have h1 := dec_short a.length h
  have h2 := dec_short (sumL a).toNat (by omega)
  omega
end Go.Proofs.YtkamhpbfebdhjaaGreatDoor.Fr

/- Plain facts for awake of the laws on frames. Nothing of the program stands here. -/
namespace Go.Proofs.YtkamhpbfebdhjaaGreatDoor.FrA
open Go.Lib Go.Proofs.YtkamhpbfebdhjaaGreatDoor.Dec Go.Proofs.YtkamhpbfebdhjaaGreatDoor.Take Go.Proofs.YtkamhpbfebdhjaaGreatDoor.Data Go.Proofs.YtkamhpbfebdhjaaGreatDoor.Pk Go.Proofs.YtkamhpbfebdhjaaGreatDoor.May Go.Proofs.YtkamhpbfebdhjaaGreatDoor.MayLen Go.Proofs.YtkamhpbfebdhjaaGreatDoor.Fr Go.Proofs.YtkamhpbfebdhjaaGreatDoor.SumMath
set_option linter.unusedVariables false
set_option linter.unusedSimpArgs false
def m0 : MsgD := ⟨0, 2, 7, 0, 0, 0, false, [], [], ba [], noTree⟩
def m1 : MsgD := ⟨0, -1, 0, 0, 0, 0, false, [], [], ba [], noTree⟩
theorem put0 : putS m0 = [80, 50, 44, 55, 44, 48, 44, 48, 44] := by
  simp [putS, m0, bodyS, editS, letter, nums, num, itoa, decDigits]
theorem ok0 : putOk m0 = true := by
  unfold putOk
  rw [put0]
  simp [msgB, headB, m0, pollB, noneB, editB, spanF, spanT, noTree, ba]
  exact ⟨⟨⟨by decide, by decide⟩, by decide⟩, rfl, by decide⟩
theorem no1 : putOk m1 = false := by
  unfold putOk
  simp [msgB, headB, m1]
  exact fun h => absurd h (by decide)
theorem head_ne (a l : List UInt8) : wrapS a ≠ 120 :: l := by
  rw [wrap_three]
  intro h
  have h1 : (three (decDigits a.length) (decDigits (sumL a).toNat) a)[0]? = some 120 := by rw [h]; rfl
  have hl : 0 < (decDigits a.length).length := by rw [decDigits_length]; exact nDigits_pos _
  rw [three_a hl] at h1
  have hm : (120 : UInt8) ∈ decDigits a.length := List.mem_of_getElem? h1
  have := dec_mem _ _ hm
  exact absurd this.2 (by decide)
end Go.Proofs.YtkamhpbfebdhjaaGreatDoor.FrA

/- The thirteen cells of a message's block. Nothing of the program stands here. -/
namespace Go.Proofs.YtkamhpbfebdhjaaGreatDoor.C13
open Go.RowKit Go.Proofs.YtkamhpbfebdhjaaGreatDoor.Mem
theorem cells13 {w : World} {b : Nat} {v0 v1 v2 v3 v4 v5 v6 v7 v8 v9 v10 v11 v12 : Value} {t : TypeId} (h : w.heap[b]? = some (.cells #[v0, v1, v2, v3, v4, v5, v6, v7, v8, v9, v10, v11, v12] t (0, 0))) :
    w.cell? ⟨b, 0, none⟩ = some v0 ∧ w.cell? ⟨b, 1, none⟩ = some v1 ∧ w.cell? ⟨b, 2, none⟩ = some v2 ∧ w.cell? ⟨b, 3, none⟩ = some v3 ∧ w.cell? ⟨b, 4, none⟩ = some v4 ∧ w.cell? ⟨b, 5, none⟩ = some v5 ∧ w.cell? ⟨b, 6, none⟩ = some v6 ∧
      w.cell? ⟨b, 7, none⟩ = some v7 ∧ w.cell? ⟨b, 8, none⟩ = some v8 ∧ w.cell? ⟨b, 9, none⟩ = some v9 ∧ w.cell? ⟨b, 10, none⟩ = some v10 ∧ w.cell? ⟨b, 11, none⟩ = some v11 ∧ w.cell? ⟨b, 12, none⟩ = some v12 :=
  ⟨blk_cell h 0, blk_cell h 1, blk_cell h 2, blk_cell h 3, blk_cell h 4, blk_cell h 5, blk_cell h 6, blk_cell h 7, blk_cell h 8, blk_cell h 9, blk_cell h 10, blk_cell h 11, blk_cell h 12⟩
end Go.Proofs.YtkamhpbfebdhjaaGreatDoor.C13

/- A slice of one's own from whose front elements are taken, and onto whose end others are appended. Nothing of the program stands here. -/
namespace Go.Proofs.YtkamhpbfebdhjaaGreatDoor.QueueI
open Go.RowKit Go.Proofs.YtkamhpbfebdhjaaGreatDoor.Mem Go.Proofs.YtkamhpbfebdhjaaGreatDoor.Read
set_option linter.unusedVariables false
set_option linter.unusedSimpArgs false
def QO (T : TypeId) (base : Nat) (w : World) (v : Value) (xs : List Value) : Prop :=
  ∃ g off c cur, v = .slice (some ⟨g, off, none⟩) xs.length c ∧ base ≤ g ∧ w.heap[g]? = some (.cells cur T (0, 0)) ∧ xs.length ≤ c ∧ off + c ≤ cur.size ∧ ∀ j u, xs[j]? = some u → cur[off + j]? = some u
/-- The blocks of a type from a place on. -/
def OT (T : TypeId) (base : Nat) (w : World) (k : Nat) : Prop := base ≤ k ∧ ∃ cur, w.heap[k]? = some (.cells cur T (0, 0))
theorem OT.far {T : TypeId} {base : Nat} {w : World} {k : Nat} {cs : Array Value} {t : TypeId} {f : Nat × Nat} (h : w.heap[k]? = some (.cells cs t f)) (ht : t ≠ T) : ¬ OT T base w k := fun ⟨_, cur, hc⟩ => blk_ne h hc ht rfl
theorem OT.map {T : TypeId} {base : Nat} {w : World} {k : Nat} {es : Array MapEntry} {n : Nat} (h : w.heap[k]? = some (.map es n)) : ¬ OT T base w k := fun ⟨_, cur, hc⟩ => by rw [h] at hc; cases hc
theorem Step.ofOT {T : TypeId} {a b c : World} (h : Step No a b) {base : Nat} (hb : a.heap.size ≤ base) (k : Step (OT T base b) b c) : Step No a c := h.trans k fun i ⟨hi, _⟩ hlt => by omega
theorem QO.step {F : Nat → Prop} {T : TypeId} {base : Nat} {w w' : World} {v : Value} {xs : List Value} (h : QO T base w v xs) (hs : Step F w w') (hF : ∀ k, OT T base w k → ¬ F k) : QO T base w' v xs := by
  obtain ⟨g, off, c, cur, h1, h2, h3, h4⟩ := h
  exact ⟨g, off, c, cur, h1, h2, hs.blk h3 (hF g ⟨h2, cur, h3⟩), h4⟩
theorem QO.no {T : TypeId} {base : Nat} {w w' : World} {v : Value} {xs : List Value} (h : QO T base w v xs) (hs : Step No w w') : QO T base w' v xs := h.step hs fun _ _ f => f
theorem QO.get {T : TypeId} {base : Nat} {w : World} {v : Value} {xs : List Value} (h : QO T base w v xs) : ∃ g off c, v = .slice (some ⟨g, off, none⟩) xs.length c ∧ xs.length ≤ c ∧ ∀ j u, xs[j]? = some u → w.cell? ⟨g, off + j, none⟩ = some u := by
  obtain ⟨g, off, c, cur, h1, h2, h3, h4, h5, h6⟩ := h
  exact ⟨g, off, c, h1, h4, fun j u hu => by rw [blk_cell h3]; exact h6 j u hu⟩
theorem QO.start {T : TypeId} {base : Nat} (w : World) (hb : base ≤ w.heap.size) (x : Value) : QO T base (w.alloc (.cells #[x] T)) (.slice (some ⟨w.heap.size, 0, none⟩) 1 1) [x] :=
  ⟨w.heap.size, 0, 1, #[x], rfl, hb, blk_new _ _, Nat.le_refl _, Nat.le_refl _, fun j u hu => by
    cases j with
    | zero => simpa using hu
    | succ j => simp at hu⟩
/-- Without its first one. -/
theorem QO.tail {T : TypeId} {base g off c : Nat} {w : World} {x : Value} {xs : List Value} (h : QO T base w (.slice (some ⟨g, off, none⟩) (xs.length + 1) c) (x :: xs)) : QO T base w (.slice (if c = 1 then some ⟨g, off, none⟩ else some ⟨g, off + 1, none⟩) xs.length (c - 1)) xs := by
  obtain ⟨g', off', c', cur, h1, h2, h3, h4, h5, h6⟩ := h
  injection h1 with e1 e2 e3
  injection e1 with e1
  injection e1 with e1 e4 _
  subst e1 e4 e3
  simp only [List.length_cons] at h4
  by_cases hc : c = 1
  · subst hc
    obtain rfl : xs = [] := List.eq_nil_of_length_eq_zero (by omega)
    exact ⟨g, off, 0, cur, by simp, h2, h3, by simp, by omega, fun j u hu => by simp at hu⟩
  · rw [if_neg hc]
    exact ⟨g, off + 1, c - 1, cur, rfl, h2, h3, by omega, by omega, fun j u hu => by
      have := h6 (j + 1) u (by simpa using hu)
      rwa [show off + (j + 1) = off + 1 + j by omega] at this⟩
theorem run_append_q {P : Program} (w : World) (t ty e : TypeId) (z : Value) (bytes base : Nat) (ht : P.underlying t = some (.slice e)) (hinfo : (P.info? e).map (fun i => (i.zero, i.size, i.bytes)) = some (some z, 1, bytes)) (hzs : z.cells.size = 1)
    (v : Value) (xs : List Value) (hq : QO e base w v xs) (hb : base ≤ w.heap.size) (a : Addr) (c : Nat) (u : Value) (hu : w.cell? a = some u) (h1 : u.oneCell' = true) (h63 : xs.length + 1 ≤ maxLen) (hbytes : (xs.length + 1) * bytes ≤ 140737488355328) :
    ∃ v' w', (Builtin.append_ #[t, t] ty #[v, .slice (some a) 1 c]).run P w = .ok v' w' ∧ QO e base w' v' (xs ++ [u]) ∧ Step (OT e base w) w w' := by
  obtain ⟨i, hi, hzz⟩ := Option.map_eq_some_iff.1 hinfo
  simp only [Prod.mk.injEq] at hzz
  obtain ⟨hz, hs, hby⟩ := hzz
  obtain ⟨g, off, cp, cur, rfl, hbg, hh, hn, hsz, hc⟩ := hq
  have hnews : ∀ j y, [u][j]? = some y → w.cell? (a.add j) = some y := by
    intro j y hy
    cases j with
    | zero => simp at hy; subst hy; simpa [Addr.add] using hu
    | succ j => simp at hy
  have hone : ∀ y ∈ [u], y.oneCell' = true := by simpa using h1
  by_cases hroom : xs.length + 1 ≤ cp
  · have hr := run_append_room_cells (P := P) w t ty e i ht hi g off xs.length cp a 1 c [u] (by simp [hs]) hnews hone hroom
      (fun j hj => by
        obtain rfl : j = 0 := by simpa using hj
        rw [blk_cell hh, hs, Nat.mul_one, Nat.add_zero, Array.getElem?_eq_getElem (by omega)]; rfl)
      (fun j _ => blk_free hh _)
    refine ⟨_, _, hr, ⟨g, off, cp, cur.setIfInBounds (off + xs.length) u, by simp, hbg, ?_, by simpa using hroom, by simpa using hsz, fun j y hy => ?_⟩, ?_⟩
    · rw [hs, Nat.mul_one]
      exact blk_set hh (off + xs.length) u
    · by_cases hj : j < xs.length
      · rw [List.getElem?_append_left hj] at hy
        rw [Array.getElem?_setIfInBounds_ne (by omega)]
        exact hc j y hy
      · rw [List.getElem?_append_right (by omega)] at hy
        have hj' : j - xs.length = 0 := by
          rcases Nat.eq_zero_or_pos (j - xs.length) with h | h
          · exact h
          · obtain ⟨m, hm⟩ : ∃ m, j - xs.length = m + 1 := ⟨j - xs.length - 1, by omega⟩
            rw [hm] at hy; simp at hy
        rw [hj'] at hy
        simp at hy
        subst hy
        rw [show off + j = off + xs.length by omega, Array.getElem?_setIfInBounds_self_of_lt (by omega)]
    · rw [hs, Nat.mul_one]
      exact (Step.refl _ w).setCell (p := ⟨g, off + xs.length, none⟩) (fun _ => ⟨hbg, cur, hh⟩) u
  · obtain ⟨v', w', hr, hown, hg⟩ := run_append_arg_grows (P := P) w t ty e i z 1 bytes ht hi hz hs hby hzs (by decide) ⟨g, off, none⟩ xs.length cp xs (by simp)
      (fun j y hy => by
        rw [show (⟨g, off, none⟩ : Addr).add j = ⟨g, off + j, none⟩ by unfold Addr.add; split <;> simp_all]
        rw [blk_cell hh]; exact hc j y hy) a 1 c [u] (by simp) hnews (by omega) h63 hbytes
    refine ⟨v', w', hr, ?_, (Step.refl _ w).grown hg (fun k hk => by cases hk)⟩
    rcases hown.2 with ⟨_, h0⟩ | ⟨g', cap, cur', rfl, hb', hh', hnc, hcm, hcs, htake⟩
    · omega
    · refine ⟨g', 0, cap, cur', by simp, Nat.le_trans hb hb', hh', by simpa using hnc, by omega, fun j y hy => ?_⟩
      have hj : j < xs.length + 1 := by have := (List.getElem?_eq_some_iff.1 hy).1; simpa using this
      have := hown.cellAt j (by omega)
      rw [blk_cell hh'] at this
      rw [Nat.zero_add, this, hy]
theorem list_append_q {P : Program} {ops : Array Oper} {rest : List Oper} {o : Oper} {a : Act} {Q : Exit → Act → World → Prop} (W : World) (hgd : o.guard = none) (s x : Operand) (t e : TypeId) (z : Value) (bytes base : Nat)
    (ho : o.op = .call { callee := .builtin .append, args := #[s, x], argTypes := #[t, t] })
    (ht : P.underlying t = some (.slice e)) (hinfo : (P.info? e).map (fun i => (i.zero, i.size, i.bytes)) = some (some z, 1, bytes)) (hz : z.cells.size = 1)
    (v : Value) (xs : List Value) (hs : a.eval s = v) (hq : QO e base W v xs) (hb : base ≤ W.heap.size) (ad : Addr) (c : Nat) (u : Value) (hx : a.eval x = .slice (some ad) 1 c) (hu : W.cell? ad = some u) (h1 : u.oneCell' = true)
    (hm : xs.length + 1 ≤ maxLen) (hby : (xs.length + 1) * bytes ≤ 140737488355328)
    (h : ∀ v1 w1, QO e base w1 v1 (xs ++ [u]) → Step (OT e base W) W w1 → wpList P ops Q rest (a.put o.dst v1) w1) :
    wpList P ops Q (o :: rest) a W := by
  obtain ⟨v1, w1, hr, h2, h3⟩ := run_append_q (P := P) W t o.type e z bytes base ht hinfo hz v xs hq hb ad c u hu h1 hm hby
  refine wpList_plain hgd fun K hK => ?_
  unfold Oper.wp execOp
  simp only [ho, resolve, invoke, builtin, Sem.run_bind, Sem.run_pure, Result.andThen_ok, List.map_toArray, List.map_cons, List.map_nil, hs, hx, hr]
  exact hK _ _ (h _ _ h2 h3)
end Go.Proofs.YtkamhpbfebdhjaaGreatDoor.QueueI

/- Structs compared field by field: what '==' and '!=' come to. Nothing of the program stands here. -/
namespace Go.Proofs.YtkamhpbfebdhjaaGreatDoor.Eqs
set_option linter.unusedVariables false
section
variable {P : Program} {w : World} {d : Nat} {xs ys : Array Value}
/-- One field, and those behind it. -/
theorem fields_cons {f : Field} {fs : List Field} {a b : Value} {r s : Bool} (hn : f.name ≠ "_") (ha : (part f.type xs f.offset).run P w = .ok a w) (hb : (part f.type ys f.offset).run P w = .ok b w)
    (he : (Op.equalIn d f.type a b).run P w = .ok r w) (hr : (Op.eqFields d xs ys fs).run P w = .ok s w) : (Op.eqFields d xs ys (f :: fs)).run P w = .ok (r && s) w := by
  rw [Op.eqFields]
  simp only [if_pos hn, Sem.run_bind, ha, hb, he, Result.andThen_ok]
  cases r <;> simp [hr]
theorem fields_nil : (Op.eqFields d xs ys []).run P w = .ok true w := by
  simp [Op.eqFields]
theorem struct_eq {t : TypeId} {fs : Array Field} {r : Bool} (hu : P.underlying t = some (.struct fs)) (hp : P.stoodInHeld t = false) (h : (Op.eqFields d xs ys fs.toList).run P w = .ok r w) : (Op.equalIn (d + 1) t (.agg xs) (.agg ys)).run P w = .ok r w := by
  have hf : P.fieldsOf t = fs := by simp [Program.fieldsOf, hu]
  rw [run_equalIn_struct (P := P) w d t xs ys (by rw [hf]; exact hu) hp, hf]
  exact h
end
end Go.Proofs.YtkamhpbfebdhjaaGreatDoor.Eqs

/- Bytes of a string, appended to a row of one's own: and where the row lies behind it. -/
namespace Go.Proofs.YtkamhpbfebdhjaaGreatDoor.AppStr
open Go.RowKit Go.Lib Go.Proofs.YtkamhpbfebdhjaaGreatDoor.Mem
set_option linter.unusedVariables false
theorem run_append_str {P : Program} (w : World) (t u ty e : TypeId) (i : TypeInfo) (ht : P.underlying t = some (.slice e)) (hu : P.underlying u = some .string) (hi : P.info? e = some i) (hz : i.zero = some (.int .u8 0))
    (hsize : i.size = 1) (hby : i.bytes = 1)
    (v : Value) (n : Nat) (xs : List Value) (hown : w.ownsRow 0 e 1 v n xs) (s : ByteArray) (hbytes : n + s.size ≤ 140737488355328) :
    ∃ v' w', (Builtin.append_ #[t, u] ty #[v, .string s]).run P w = .ok v' w' ∧ w'.ownsRow 0 e 1 v' (n + s.size) (xs ++ strCells s) ∧ w.grownBy w' v.ownBlock ∧ (v'.ownBlock = v.ownBlock ∨ v'.ownBlock = some w.heap.size) := by
  obtain ⟨v', w', hr, h1, h2, _⟩ := run_append_own_string (P := P) w 0 t u ty e i ht hu hi hz hsize hby v n xs hown s (by simp only [maxLen]; omega) hbytes (Nat.zero_le _)
  refine ⟨v', w', hr, h1, h2, ?_⟩
  have hxl : xs.length = n := by simpa using hown.1
  rcases hown.2 with ⟨rfl, rfl⟩ | ⟨g, cap, cur, rfl, hbg, hg, hnc, hcm, hcs, htake⟩
  · by_cases hm : s.size = 0
    · have hf := run_firstCells_string (P := P) w 1 s
      rw [hm] at hf
      have hr2 : (Builtin.append_ #[t, u] ty #[.slice none 0 0, .string s]).run P w = .ok (.slice none 0 0) w := by
        simp [Builtin.append_, run_underlying ht, run_underlying hu, sizeOf, typeInfo, hi, hsize, Builtin.lenOf, hm, hf]
      rw [hr] at hr2
      injection hr2 with e1 _
      exact .inl (by rw [e1])
    · have hr2 := run_append_nil_string (P := P) w t u ty e i (.int .u8 0) ht hu hi hz s (by omega) (by omega) (by rw [hby]; omega)
      rw [hr] at hr2
      injection hr2 with e1 _
      exact .inr (by rw [e1]; rfl)
  · by_cases hroom : n + s.size ≤ cap
    · have hcs' : cur.size = cap := by simpa using hcs
      have hr2 := run_append_room_string (P := P) w t u ty e i ht hu hi hsize g n cap cur hg s hroom (by omega)
      rw [hr] at hr2
      injection hr2 with e1 _
      exact .inl (by rw [e1]; rfl)
    · have holds : ∀ j u, xs[j]? = some u → w.cell? ((⟨g, 0, none⟩ : Addr).add j) = some u := hown.cells (g := g) rfl
      have hr2 := run_append_grow_string (P := P) w t u ty e i (.int .u8 0) ht hu hi hz ⟨g, 0, none⟩ n cap xs (by rw [hsize]; simpa using hxl) holds s (by omega) (by omega) (by rw [hby]; exact growslice_fits (by omega) (by omega))
      rw [hr] at hr2
      injection hr2 with e1 _
      exact .inr (by rw [e1]; rfl)
theorem list_append_str {P : Program} {ops : Array Oper} {rest : List Oper} {o : Oper} {a : Act} {Q : Exit → Act → World → Prop} (W : World) (hgd : o.guard = none) (sl x : Operand) (t u e : TypeId)
    (ho : o.op = .call { callee := .builtin .append, args := #[sl, x], argTypes := #[t, u] })
    (ht : P.underlying t = some (.slice e)) (hu : P.underlying u = some .string) (hinfo : (P.info? e).map (fun i => (i.zero, i.size, i.bytes)) = some (some (.int .u8 0), 1, 1))
    (v : Value) (n : Nat) (xs : List Value) (hs : a.eval sl = v) (hown : W.ownsRow 0 e 1 v n xs) (s : ByteArray) (hx : a.eval x = .string s) (hbytes : n + s.size ≤ 140737488355328)
    (h : ∀ v1 w1, w1.ownsRow 0 e 1 v1 (n + s.size) (xs ++ strCells s) → W.grownBy w1 v.ownBlock → (v1.ownBlock = v.ownBlock ∨ v1.ownBlock = some W.heap.size) → wpList P ops Q rest (a.put o.dst v1) w1) :
    wpList P ops Q (o :: rest) a W := by
  obtain ⟨i0, hi, hzz⟩ := Option.map_eq_some_iff.1 hinfo
  simp only [Prod.mk.injEq] at hzz
  obtain ⟨hz0, hz1, hz2⟩ := hzz
  refine wpList_plain hgd fun K hK => ?_
  obtain ⟨v', w', hr, h2, h3, h4⟩ := run_append_str (P := P) W t u o.type e i0 ht hu hi hz0 hz1 hz2 v n xs hown s hbytes
  unfold Oper.wp execOp
  simp only [ho, resolve, invoke, builtin, Sem.run_bind, Sem.run_pure, Result.andThen_ok, List.map_toArray, List.map_cons, List.map_nil, hs, hx, hr]
  exact hK _ _ (h v' w' h2 h3 h4)
end Go.Proofs.YtkamhpbfebdhjaaGreatDoor.AppStr

/- Two ways to tell whether a tree may be: going over it from the root on; and counting parents and what the root reaches. They answer alike. Nothing of the program stands here. -/
namespace Go.Proofs.YtkamhpbfebdhjaaGreatDoor.TreeEq
open Go.Proofs.YtkamhpbfebdhjaaGreatDoor.Tree Go.Proofs.YtkamhpbfebdhjaaGreatDoor.Data Go.Proofs.YtkamhpbfebdhjaaGreatDoor.May
set_option linter.unusedVariables false
set_option linter.unusedSimpArgs false
def aloneAll (t : TreeD) (size : Int) : Int → List NodeD → Prop
  | _, [] => True
  | before, x :: xs => aloneP t size before x ∧ aloneAll t size x.id xs
def kidsOk (xs : List NodeD) (up : Int) : List Int → Int → Prop
  | [], _ => True
  | id :: ks, fr => ∃ k y, posOf xs id = some k ∧ xs[k]? = some y ∧ y.kind ≠ 0 ∧ fr ≤ y.fr ∧ y.up ≤ up ∧ kidsOk xs up ks y.up
def kpos (xs : List NodeD) (x : NodeD) : List Nat := x.kids.filterMap (posOf xs)
def kat (xs : List NodeD) (v : Nat) : List Nat := match xs[v]? with | none => [] | some x => kpos xs x
/-- How many nodes stand at and below one, so deep at most. -/
def reachF (xs : List NodeD) : Nat → Nat → Nat
  | 0, _ => 0
  | f + 1, v => 1 + ((kat xs v).map (reachF xs f)).sum
structure RefP (t : TreeD) (size : Int) : Prop where
  lim : treeLim t size
  alone : aloneAll t size (-1) t.nodes
  kids : ∀ x ∈ t.nodes, kidsOk t.nodes x.up x.kids x.fr
  roots : (t.nodes.filter fun x => decide (x.kind = 0)).length = 1
  parents : ∀ k x, t.nodes[k]? = some x → x.kind ≠ 0 → (t.nodes.flatMap (kpos t.nodes)).count k = 1
  reach : ∀ r, posOf t.nodes t.root = some r → reachF t.nodes (t.nodes.length + 1) r = t.nodes.length
/-! ### The nodes by themselves -/
theorem scan_some {t : TreeD} {size : Int} : ∀ {xs : List NodeD} {i : Nat} {root before r : Int}, -1 ≤ root → scan t size i xs root before = some r →
    aloneAll t size before xs ∧ ((r = root ∧ xs.filter (fun x => decide (x.kind = 0)) = []) ∨ (root = -1 ∧ ∃ (j : Nat) (x : NodeD), xs[j]? = some x ∧ x.kind = 0 ∧ r = i + j ∧ (xs.filter fun x => decide (x.kind = 0)).length = 1))
  | [], i, root, before, r, _, h => by
    simp only [scan, Option.some.injEq] at h
    exact ⟨trivial, .inl ⟨h.symm, rfl⟩⟩
  | x :: xs, i, root, before, r, hr, h => by
    simp only [scan] at h
    split at h
    · rename_i hc
      by_cases hk : x.kind = 0
      · rw [if_pos hk] at h
        obtain ⟨h1, h2⟩ := scan_some (by omega) h
        have hneg : root = -1 := by
          have := fun h0 => hc.2 ⟨hk, h0⟩
          omega
        refine ⟨⟨hc.1, h1⟩, .inr ⟨hneg, 0, x, rfl, hk, ?_⟩⟩
        rcases h2 with ⟨h2, h3⟩ | ⟨h2, _⟩
        · exact ⟨by omega, by rw [List.filter_cons, if_pos (by simpa using hk), h3]; rfl⟩
        · omega
      · rw [if_neg hk] at h
        obtain ⟨h1, h2⟩ := scan_some hr h
        refine ⟨⟨hc.1, h1⟩, ?_⟩
        have hf : ∀ ys, List.filter (fun x : NodeD => decide (x.kind = 0)) (x :: ys) = List.filter (fun x : NodeD => decide (x.kind = 0)) ys := fun ys => by rw [List.filter_cons, if_neg (by simpa using hk)]
        rw [hf]
        rcases h2 with h2 | ⟨h2, j, y, hj, hy, h3, h4⟩
        · exact .inl h2
        · exact .inr ⟨h2, j + 1, y, by simpa using hj, hy, by omega, h4⟩
    · cases h
theorem scan_all {t : TreeD} {size : Int} : ∀ {xs : List NodeD} {i : Nat} {root before : Int}, aloneAll t size before xs → ((root = -1 ∧ (xs.filter fun x => decide (x.kind = 0)).length ≤ 1) ∨ xs.filter (fun x => decide (x.kind = 0)) = []) → ∃ r, scan t size i xs root before = some r
  | [], i, root, before, _, _ => ⟨root, rfl⟩
  | x :: xs, i, root, before, h, hr => by
    simp only [scan]
    by_cases hk : x.kind = 0
    · rw [List.filter_cons, if_pos (by simpa using hk)] at hr
      rcases hr with ⟨h1, h2⟩ | h1
      · rw [if_pos ⟨h.1, by omega⟩]
        exact scan_all h.2 (.inr (List.eq_nil_of_length_eq_zero (by simpa using h2)))
      · cases h1
    · rw [if_pos ⟨h.1, fun e => hk e.1⟩, if_neg hk]
      rw [List.filter_cons, if_neg (by simpa using hk)] at hr
      exact scan_all h.2 hr
theorem alone_ids {t : TreeD} {size : Int} : ∀ {xs : List NodeD} {before : Int}, aloneAll t size before xs → (∀ x ∈ xs, before < x.id ∧ (x.kind = 0 → x.id = t.root)) ∧ xs.Pairwise (fun a b => a.id < b.id)
  | [], _, _ => ⟨by simp, List.Pairwise.nil⟩
  | x :: xs, before, h => by
    obtain ⟨h1, h2⟩ := alone_ids h.2
    have hb := h.1.2.1
    refine ⟨fun y hy => ?_, List.pairwise_cons.2 ⟨fun y hy => (h1 y hy).1, h2⟩⟩
    rcases List.mem_cons.1 hy with rfl | hy
    · exact ⟨hb, fun e => (h.1.1 e).1⟩
    · exact ⟨Int.lt_trans hb (h1 y hy).1, (h1 y hy).2⟩
theorem pos_at {xs : List NodeD} (h : xs.Pairwise (fun a b => a.id < b.id)) {k : Nat} {x : NodeD} (hk : xs[k]? = some x) : posOf xs x.id = some k := by
  unfold posOf
  obtain ⟨hk', rfl⟩ := List.getElem?_eq_some_iff.1 hk
  rw [List.findIdx?_eq_some_iff_getElem]
  refine ⟨hk', by simp, fun j hj => ?_⟩
  have := List.pairwise_iff_getElem.1 h j k (by omega) hk' hj
  simp only [beq_iff_eq]
  omega
theorem root_one {xs : List NodeD} (h : (xs.filter fun x => decide (x.kind = 0)).length = 1) {j k : Nat} {x y : NodeD} (hj : xs[j]? = some x) (hk : xs[k]? = some y) (hx : x.kind = 0) (hy : y.kind = 0) : j = k := by
  induction xs generalizing j k with
  | nil => simp at hj
  | cons z zs ih =>
    rw [List.filter_cons] at h
    split at h
    · have h0 : zs.filter (fun x => decide (x.kind = 0)) = [] := List.eq_nil_of_length_eq_zero (by simpa using h)
      have hno : ∀ (i : Nat) (w : NodeD), zs[i]? = some w → w.kind ≠ 0 := fun i w hw e => by
        have : w ∈ zs.filter (fun x => decide (x.kind = 0)) := List.mem_filter.2 ⟨List.mem_of_getElem? hw, by simpa using e⟩
        rw [h0] at this
        cases this
      cases j with
      | zero =>
        cases k with
        | zero => rfl
        | succ k => exact absurd hy (hno k y (by simpa using hk))
      | succ j => exact absurd hx (hno j x (by simpa using hj))
    · rename_i hz
      cases j with
      | zero => simp at hj; subst hj; simp [hx] at hz
      | succ j =>
        cases k with
        | zero => simp at hk; subst hk; simp [hy] at hz
        | succ k => exact congrArg Nat.succ (ih h (j := j) (k := k) (by simpa using hj) (by simpa using hk))
/-! ### The way from the root on -/
/-- What was gone over, what is to come, what was seen. -/
structure Inv (xs : List NodeD) (r : Nat) (pop : List Nat) (row : List (Nat × Nat)) (seen : List Bool) : Prop where
  len : seen.length = xs.length
  nodup : (pop ++ row.map (·.1)).Nodup
  seen : ∀ k, seen[k]? = some true ↔ k ∈ pop ++ row.map (·.1)
  perm : List.Perm (r :: pop.flatMap (kat xs)) (pop ++ row.map (·.1))
  deep : ∀ p ∈ row, xs.length + 1 ≤ p.2 + pop.length
  sum : pop.length + (row.map fun p => reachF xs p.2 p.1).sum = reachF xs (xs.length + 1) r
theorem Inv.lt {xs : List NodeD} {r : Nat} {pop : List Nat} {row : List (Nat × Nat)} {seen : List Bool} (h : Inv xs r pop row seen) {k : Nat} (hk : k ∈ pop ++ row.map (·.1)) : k < xs.length := by
  have := (h.seen k).2 hk
  rw [← h.len]
  exact (List.getElem?_eq_some_iff.1 this).1
theorem sub_count (f : Nat → List Nat) {l m : List Nat} (h : List.Sublist l m) (k : Nat) : (l.flatMap f).count k ≤ (m.flatMap f).count k := by
  induction h with
  | slnil => exact Nat.le_refl _
  | cons a _ ih => rw [List.flatMap_cons, List.count_append]; omega
  | cons_cons a _ ih => rw [List.flatMap_cons, List.flatMap_cons, List.count_append, List.count_append]; omega
theorem nodup_part {l : List Nat} {n : Nat} (h : l.Nodup) (hl : ∀ k ∈ l, k < n) : List.Perm l ((List.range n).filter fun k => decide (k ∈ l)) :=
  (List.perm_ext_iff_of_nodup h (List.nodup_range.filter _)).2 fun k => by
    rw [List.mem_filter, List.mem_range]
    simp only [decide_eq_true_eq]
    exact ⟨fun hk => ⟨hl k hk, hk⟩, fun hk => hk.2⟩
theorem nodup_le {l : List Nat} {n : Nat} (h : l.Nodup) (hl : ∀ k ∈ l, k < n) : l.length ≤ n := by
  rw [(nodup_part h hl).length_eq]
  have := List.length_filter_le (fun k => decide (k ∈ l)) (List.range n)
  rwa [List.length_range] at this
theorem Inv.count {xs : List NodeD} {r : Nat} {pop : List Nat} {row : List (Nat × Nat)} {seen : List Bool} (h : Inv xs r pop row seen) : pop.length + row.length ≤ xs.length := by
  have := nodup_le h.nodup (fun k hk => h.lt hk)
  simpa using this
/-- Kids that can be gone over, as places. -/
theorem kidsGo_pos {xs : List NodeD} {up : Int} : ∀ {ks : List Int} {fr : Int} {seen seen' : List Bool} {row row' : List Nat}, kidsGo xs up ks fr seen row = some (seen', row') →
    row' = row ++ ks.filterMap (posOf xs) ∧ seen'.length = seen.length ∧ (ks.filterMap (posOf xs)).Nodup ∧ (∀ k ∈ ks.filterMap (posOf xs), seen[k]? = some false) ∧ (∀ k, seen'[k]? = some true ↔ seen[k]? = some true ∨ k ∈ ks.filterMap (posOf xs)) ∧
      ((∀ k ∈ ks.filterMap (posOf xs), ∀ y, xs[k]? = some y → y.kind ≠ 0) → kidsOk xs up ks fr)
  | [], fr, seen, seen', row, row', h => by
    simp only [kidsGo, Option.some.injEq, Prod.mk.injEq] at h
    obtain ⟨rfl, rfl⟩ := h
    exact ⟨by simp, rfl, by simp, by simp, by simp, fun _ => trivial⟩
  | id :: ks, fr, seen, seen', row, row', h => by
    simp only [kidsGo] at h
    cases hp : posOf xs id with
    | none => rw [hp] at h; cases h
    | some k =>
      obtain ⟨y, hy, hid⟩ := posOf_some hp
      simp only [hp, hy] at h
      split at h
      · rename_i hc
        obtain ⟨h1, h2, h3, h4, h5, h6⟩ := kidsGo_pos h
        have hlt := (List.getElem?_eq_some_iff.1 hc.1).1
        have hf : (id :: ks).filterMap (posOf xs) = k :: ks.filterMap (posOf xs) := by rw [List.filterMap_cons, hp]
        rw [hf]
        have hnk : k ∉ ks.filterMap (posOf xs) := fun hm => by
          have := h4 k hm
          rw [List.getElem?_set_self hlt] at this
          cases this
        refine ⟨by rw [h1, List.append_assoc]; rfl, by simpa using h2, List.nodup_cons.2 ⟨hnk, h3⟩, fun j hj => ?_, fun j => ?_, fun hk => ?_⟩
        · rcases List.mem_cons.1 hj with rfl | hj
          · exact hc.1
          · have := h4 j hj
            by_cases e : k = j
            · subst e; exact absurd hj hnk
            · rwa [List.getElem?_set_ne e] at this
        · rw [h5 j]
          by_cases e : k = j
          · subst e
            simp [List.getElem?_set_self hlt]
          · rw [List.getElem?_set_ne e]
            simp only [List.mem_cons]
            constructor
            · rintro (h | h)
              · exact .inl h
              · exact .inr (.inr h)
            · rintro (h | h | h)
              · exact .inl h
              · exact absurd h.symm e
              · exact .inr h
        · exact ⟨k, y, hp, hy, hk k (by simp) y hy, hc.2.1, hc.2.2, h6 fun j hj => hk j (by simp [hj])⟩
      · cases h
theorem kidsGo_ok {xs : List NodeD} {up : Int} : ∀ {ks : List Int} {fr : Int} {seen : List Bool} {row : List Nat}, kidsOk xs up ks fr → (ks.filterMap (posOf xs)).Nodup → (∀ k ∈ ks.filterMap (posOf xs), seen[k]? = some false) → ∃ p, kidsGo xs up ks fr seen row = some p
  | [], fr, seen, row, _, _, _ => ⟨_, rfl⟩
  | id :: ks, fr, seen, row, ⟨k, y, hp, hy, _, h1, h2, h3⟩, hn, hs => by
    have hf : (id :: ks).filterMap (posOf xs) = k :: ks.filterMap (posOf xs) := by rw [List.filterMap_cons, hp]
    rw [hf] at hn hs
    obtain ⟨hn1, hn2⟩ := List.nodup_cons.1 hn
    simp only [kidsGo, hp, hy]
    rw [if_pos ⟨hs k (by simp), h1, h2⟩]
    refine kidsGo_ok h3 hn2 fun j hj => ?_
    rw [List.getElem?_set_ne (fun e : k = j => hn1 (by rw [e]; exact hj))]
    exact hs j (by simp [hj])
/-- One node more is gone over. -/
theorem Inv.step {xs : List NodeD} {r v e : Nat} {pop : List Nat} {row : List (Nat × Nat)} {seen seen' : List Bool} {row' : List Nat} {x : NodeD} (h : Inv xs r pop ((v, e) :: row) seen) (hx : xs[v]? = some x) (hg : kidsGo xs x.up x.kids x.fr seen (row.map (·.1)) = some (seen', row')) :
    row' = (row ++ (kat xs v).map fun c => (c, e - 1)).map (·.1) ∧ Inv xs r (pop ++ [v]) (row ++ (kat xs v).map fun c => (c, e - 1)) seen' := by
  obtain ⟨h1, h2, h3, h4, h5, h6⟩ := kidsGo_pos hg
  have hk : kat xs v = x.kids.filterMap (posOf xs) := by unfold kat; rw [hx]; rfl
  rw [← hk] at h1 h3 h4 h5
  have hm : ((kat xs v).map fun c => (c, e - 1)).map (·.1) = kat xs v := by rw [List.map_map]; exact List.map_id' _
  have hcnt := h.count
  have he := h.deep (v, e) (by simp)
  simp only [List.length_cons] at hcnt he
  have hrow : (row ++ (kat xs v).map fun c => (c, e - 1)).map (·.1) = row.map (·.1) ++ kat xs v := by rw [List.map_append, hm]
  have hold : pop ++ [v] ++ (row.map (·.1) ++ kat xs v) = (pop ++ (v :: row.map (·.1))) ++ kat xs v := by simp
  refine ⟨by rw [hrow, h1], by rw [h2, h.len], ?_, fun k => ?_, ?_, fun p hp => ?_, ?_⟩
  · rw [hrow, hold]
    refine List.nodup_append.2 ⟨by simpa using h.nodup, h3, fun a ha b hb e => ?_⟩
    subst e
    have := (h.seen a).2 (by simpa using ha)
    rw [h4 a hb] at this
    cases this
  · rw [h5 k, h.seen k, hrow, hold, List.mem_append (s := pop ++ v :: row.map (·.1))]
    simp
  · rw [hrow, hold, List.flatMap_append, List.flatMap_cons, List.flatMap_nil, List.append_nil, ← List.cons_append]
    exact List.Perm.append (by simpa using h.perm) (List.Perm.refl _)
  · simp only [List.length_append, List.length_singleton]
    rcases List.mem_append.1 hp with hp | hp
    · have := h.deep p (by simp [hp])
      omega
    · obtain ⟨c, hc, rfl⟩ := List.mem_map.1 hp
      simp only
      omega
  · have hs := h.sum
    obtain ⟨d, rfl⟩ : ∃ d, e = d + 1 := ⟨e - 1, by omega⟩
    generalize reachF xs (xs.length + 1) r = R at hs ⊢
    simp only [List.map_cons, List.sum_cons, reachF] at hs
    rw [List.map_append, List.sum_append, List.map_map]
    simp only [List.length_append, List.length_singleton, Nat.add_sub_cancel]
    have : ((kat xs v).map ((fun p : Nat × Nat => reachF xs p.2 p.1) ∘ fun c => (c, d))) = (kat xs v).map (reachF xs d) := List.map_congr_left fun c hc => rfl
    rw [this]
    omega
theorem Inv.start {xs : List NodeD} {r : Nat} (h : r < xs.length) : Inv xs r [] [(r, xs.length + 1)] ((List.replicate xs.length false).set r true) := by
  refine ⟨by simp, by simp, fun k => ?_, by simp, fun p hp => ?_, by simp⟩
  · by_cases e : r = k
    · subst e
      simp [List.getElem?_set_self (show r < (List.replicate xs.length false).length by simpa using h)]
    · rw [List.getElem?_set_ne e, List.getElem?_replicate]
      simp only [List.nil_append, List.map_cons, List.map_nil, List.mem_singleton]
      constructor
      · intro h
        split at h
        · cases h
        · cases h
      · exact fun h => absurd h.symm e
  · simp only [List.mem_singleton] at hp
    subst hp
    simp
/-- Where it comes to an end, all well. -/
theorem bfs_end {xs : List NodeD} {r : Nat} : ∀ {f : Nat} {pop : List Nat} {row : List (Nat × Nat)} {seen : List Bool}, Inv xs r pop row seen → bfs xs f (row.map (·.1)) seen = true → (∀ v ∈ pop, ∀ x, xs[v]? = some x → (∀ k ∈ kat xs v, ∀ y, xs[k]? = some y → y.kind ≠ 0) → kidsOk xs x.up x.kids x.fr) →
    ∃ pop' seen', Inv xs r pop' [] seen' ∧ seen'.all id = true ∧ ∀ v ∈ pop', ∀ x, xs[v]? = some x → (∀ k ∈ kat xs v, ∀ y, xs[k]? = some y → y.kind ≠ 0) → kidsOk xs x.up x.kids x.fr
  | f, pop, [], seen, hi, h, hk => by
    refine ⟨pop, seen, hi, ?_, hk⟩
    cases f <;> exact h
  | 0, pop, p :: row, seen, hi, h, hk => by simp [bfs] at h
  | f + 1, pop, (v, e) :: row, seen, hi, h, hk => by
    simp only [bfs, List.map_cons] at h
    split at h
    · cases h
    · rename_i x hx
      split at h
      · cases h
      · rename_i p hp
        obtain ⟨s1, s2⟩ := hi.step (seen' := p.1) (row' := p.2) hx hp
        rw [s1] at h
        refine bfs_end s2 h fun u hu z hz hkk => ?_
        rcases List.mem_append.1 hu with hu | hu
        · exact hk u hu z hz hkk
        · obtain rfl : u = v := by simpa using hu
          rw [hx] at hz
          injection hz with hz
          subst hz
          have hkat : kat xs u = x.kids.filterMap (posOf xs) := by unfold kat; rw [hx]; rfl
          exact (kidsGo_pos (seen' := p.1) (row' := p.2) hp).2.2.2.2.2 (by rw [← hkat]; exact hkk)
theorem flat_range (xs : List NodeD) : (List.range xs.length).flatMap (kat xs) = xs.flatMap (kpos xs) := by
  have h1 : (List.range xs.length).flatMap (kat xs) = ((List.range xs.length).map (kat xs)).flatten := by rw [List.flatMap_def]
  have h2 : (List.range xs.length).map (kat xs) = xs.map (kpos xs) := by
    refine List.ext_getElem (by simp) fun i hi1 hi2 => ?_
    simp only [List.length_map, List.length_range] at hi1
    simp [kat, List.getElem?_eq_getElem hi1]
  rw [h1, h2, List.flatMap_def]
theorem range_perm {l : List Nat} {n : Nat} (h : l.Nodup) (hl : ∀ k, k ∈ l ↔ k < n) : List.Perm l (List.range n) :=
  (List.perm_ext_iff_of_nodup h List.nodup_range).2 fun k => by rw [hl k, List.mem_range]
theorem tree_ref {t : TreeD} {size : Int} (h : treeB t size = true) : RefP t size := by
  simp only [treeB, Bool.and_eq_true, decide_eq_true_eq] at h
  obtain ⟨hl, h⟩ := h
  cases hs : scan t size 0 t.nodes (-1) (-1) with
  | none => rw [hs] at h; cases h
  | some r =>
    rw [hs] at h
    simp only [Bool.and_eq_true, decide_eq_true_eq] at h
    obtain ⟨h0, hb⟩ := h
    obtain ⟨ha, hr⟩ := scan_some (by omega) hs
    rcases hr with ⟨hr, _⟩ | ⟨_, j, x, hj, hx0, hrj, hone⟩
    · omega
    · obtain rfl : r.toNat = j := by omega
      obtain ⟨hids, hp⟩ := alone_ids ha
      have hlt := (List.getElem?_eq_some_iff.1 hj).1
      obtain ⟨pop, seen, hi, hall, hk⟩ := bfs_end (Inv.start hlt) (by simpa using hb) (by simp)
      have hmem : ∀ k, k ∈ pop ↔ k < t.nodes.length := fun k => by
        have := hi.seen k
        simp only [List.map_nil, List.append_nil] at this
        rw [← this]
        constructor
        · exact fun e => hi.len ▸ (List.getElem?_eq_some_iff.1 e).1
        · intro hk
          have hk' : k < seen.length := by rw [hi.len]; exact hk
          rw [List.getElem?_eq_getElem hk']
          rw [List.all_eq_true] at hall
          have := hall _ (List.getElem_mem hk')
          simpa using this
      have hnd : pop.Nodup := by simpa using hi.nodup
      have hperm : List.Perm pop (List.range t.nodes.length) := range_perm hnd hmem
      have hq : List.Perm (r.toNat :: t.nodes.flatMap (kpos t.nodes)) (List.range t.nodes.length) := by
        have h1 := hi.perm
        simp only [List.map_nil, List.append_nil] at h1
        have h2 : List.Perm (pop.flatMap (kat t.nodes)) ((List.range t.nodes.length).flatMap (kat t.nodes)) := List.Perm.flatMap_right _ hperm
        rw [flat_range] at h2
        exact ((List.Perm.cons _ h2.symm).trans h1).trans hperm
      have hnq : (r.toNat :: t.nodes.flatMap (kpos t.nodes)).Nodup := hq.nodup_iff.2 List.nodup_range
      have hkind : ∀ k ∈ t.nodes.flatMap (kpos t.nodes), ∀ y, t.nodes[k]? = some y → y.kind ≠ 0 := fun k hk y hy e => by
        have := root_one hone hj hy hx0 e
        subst this
        exact (List.nodup_cons.1 hnq).1 hk
      refine ⟨hl, ha, fun y hy => ?_, hone, fun k y hy hy0 => ?_, fun r' hr' => ?_⟩
      · obtain ⟨v, hv, rfl⟩ := List.getElem_of_mem hy
        have hv' : t.nodes[v]? = some t.nodes[v] := List.getElem?_eq_getElem hv
        refine hk v ((hmem v).2 hv) _ hv' fun k hkk => hkind k ?_
        refine List.mem_flatMap.2 ⟨t.nodes[v], hy, ?_⟩
        have : kat t.nodes v = kpos t.nodes t.nodes[v] := by unfold kat; rw [hv']
        rwa [this] at hkk
      · have hk' := (List.getElem?_eq_some_iff.1 hy).1
        have hc := hq.count_eq k
        rw [List.count_cons, List.nodup_range.count, if_pos (List.mem_range.2 hk')] at hc
        have : ¬ (r.toNat == k) = true := fun e => by
          have e' : r.toNat = k := by simpa using e
          subst e'
          rw [hj] at hy
          injection hy with hy
          subst hy
          exact hy0 hx0
        rw [if_neg this] at hc
        omega
      · have hroot : posOf t.nodes t.root = some r.toNat := by
          rw [← (hids x (List.mem_of_getElem? hj)).2 hx0]
          exact pos_at hp hj
        rw [hroot] at hr'
        injection hr' with hr'
        subst hr'
        have h1 := hi.sum
        simp only [List.map_nil, List.sum_nil, Nat.add_zero] at h1
        rw [← h1, hperm.length_eq, List.length_range]
theorem bfs_ok {t : TreeD} {size : Int} {r : Nat} {x0 : NodeD} (h : RefP t size) (hr : t.nodes[r]? = some x0) (h0 : x0.kind = 0) : ∀ {f : Nat} {pop : List Nat} {row : List (Nat × Nat)} {seen : List Bool}, Inv t.nodes r pop row seen → t.nodes.length ≤ f + pop.length → bfs t.nodes f (row.map (·.1)) seen = true
  | f, pop, [], seen, hi, hf => by
    have hids := alone_ids h.alone
    have hroot : posOf t.nodes t.root = some r := by
      rw [← (hids.1 x0 (List.mem_of_getElem? hr)).2 h0]
      exact pos_at hids.2 hr
    have h1 := hi.sum
    simp only [List.map_nil, List.sum_nil, Nat.add_zero] at h1
    rw [h.reach r hroot] at h1
    have hnd : pop.Nodup := by simpa using hi.nodup
    have hall : seen.all id = true := by
      rw [List.all_eq_true]
      intro b hb
      obtain ⟨k, hk, rfl⟩ := List.getElem_of_mem hb
      have hkl : k < t.nodes.length := by rw [← hi.len]; exact hk
      have hm : k ∈ pop := by
        refine Classical.byContradiction fun hn => ?_
        have h2 : (k :: pop).Nodup := List.nodup_cons.2 ⟨hn, hnd⟩
        have h3 := nodup_le (n := t.nodes.length) h2 (fun j hj => by
          rcases List.mem_cons.1 hj with rfl | hj
          · exact hkl
          · exact hi.lt (by simpa using hj))
        simp at h3
        omega
      have := (hi.seen k).2 (by simpa using hm)
      rw [List.getElem?_eq_getElem hk] at this
      injection this
    cases f <;> exact hall
  | 0, pop, p :: row, seen, hi, hf => by
    have := hi.count
    simp at this
    omega
  | f + 1, pop, (v, e) :: row, seen, hi, hf => by
    have hv : v < t.nodes.length := hi.lt (by simp)
    have hx : t.nodes[v]? = some t.nodes[v] := List.getElem?_eq_getElem hv
    have hkat : kat t.nodes v = t.nodes[v].kids.filterMap (posOf t.nodes) := by unfold kat; rw [hx]; rfl
    have hvp : v ∉ pop := fun hm => by
      have := hi.nodup
      rw [List.nodup_append] at this
      exact this.2.2 v hm v (by simp) rfl
    have hkid : ∀ k ∈ kat t.nodes v, ∃ y, t.nodes[k]? = some y ∧ y.kind ≠ 0 := fun k hk => by
      have key : ∀ (ks : List Int) (fr up : Int), kidsOk t.nodes up ks fr → ∀ k ∈ ks.filterMap (posOf t.nodes), ∃ y, t.nodes[k]? = some y ∧ y.kind ≠ 0 := by
        intro ks
        induction ks with
        | nil => intro fr up _ k hk; simp at hk
        | cons id ks ih =>
          rintro fr up ⟨j, y, hp, hy, hy0, _, _, h3⟩ k hk
          rw [List.filterMap_cons, hp] at hk
          rcases List.mem_cons.1 hk with rfl | hk
          · exact ⟨y, hy, hy0⟩
          · exact ih _ _ h3 k hk
      rw [hkat] at hk
      exact key _ _ _ (h.kids _ (List.getElem_mem hv)) k hk
    have hsub : ∀ (l : List Nat), l.Nodup → (∀ u ∈ l, u < t.nodes.length) → ∀ k, (l.flatMap (kat t.nodes)).count k ≤ (t.nodes.flatMap (kpos t.nodes)).count k := fun l hl hlt k => by
      rw [← flat_range]
      have e1 : (l.flatMap (kat t.nodes)).count k = (((List.range t.nodes.length).filter fun k => decide (k ∈ l)).flatMap (kat t.nodes)).count k := (List.Perm.flatMap_right (kat t.nodes) (nodup_part hl hlt)).count_eq k
      rw [e1]
      exact sub_count (kat t.nodes) List.filter_sublist k
    have hcount : ∀ k ∈ kat t.nodes v, (pop.flatMap (kat t.nodes)).count k + (kat t.nodes v).count k ≤ 1 := fun k hk => by
      obtain ⟨y, hy, hy0⟩ := hkid k hk
      have h1 := hsub (pop ++ [v]) (by
        have := hi.nodup
        rw [show pop ++ ((v, e) :: row).map (·.1) = (pop ++ [v]) ++ row.map (·.1) by simp] at this
        exact (List.nodup_append.1 this).1) (fun u hu => hi.lt (by
          rcases List.mem_append.1 hu with hu | hu
          · simp [hu]
          · simp at hu; simp [hu])) k
      rw [h.parents k y hy hy0, List.flatMap_append, List.count_append] at h1
      simpa using h1
    have hnd : (kat t.nodes v).Nodup := List.nodup_iff_count.2 fun k => by
      by_cases hk : k ∈ kat t.nodes v
      · have := hcount k hk; omega
      · rw [List.count_eq_zero.2 hk]; omega
    have huns : ∀ k ∈ kat t.nodes v, seen[k]? = some false := fun k hk => by
      obtain ⟨y, hy, hy0⟩ := hkid k hk
      have hkl := (List.getElem?_eq_some_iff.1 hy).1
      have hks : k < seen.length := by rw [hi.len]; exact hkl
      rw [List.getElem?_eq_getElem hks]
      cases hb : seen[k] with
      | false => rfl
      | true =>
        exfalso
        have hm := (hi.seen k).1 (by rw [List.getElem?_eq_getElem hks, hb])
        rw [← hi.perm.mem_iff] at hm
        rcases List.mem_cons.1 hm with rfl | hm
        · rw [hr] at hy
          injection hy with hy
          subst hy
          exact hy0 h0
        · have h1 := List.count_pos_iff.2 hm
          have h2 := List.count_pos_iff.2 hk
          have := hcount k hk
          omega
    obtain ⟨p, hp⟩ := kidsGo_ok (row := row.map (·.1)) (h.kids _ (List.getElem_mem hv)) (by rw [← hkat]; exact hnd) (by rw [← hkat]; exact huns)
    obtain ⟨s1, s2⟩ := hi.step (seen' := p.1) (row' := p.2) hx hp
    simp only [bfs, List.map_cons, hx, hp]
    rw [s1]
    exact bfs_ok h hr h0 s2 (by simp; omega)
theorem ref_tree {t : TreeD} {size : Int} (h : RefP t size) : treeB t size = true := by
  have hids := alone_ids h.alone
  obtain ⟨r, hs⟩ := scan_all (i := 0) (root := -1) h.alone (.inl ⟨rfl, by rw [h.roots]; exact Nat.le_refl _⟩)
  obtain ⟨_, hr⟩ := scan_some (by omega) hs
  rcases hr with ⟨_, hr⟩ | ⟨_, j, x, hj, hx0, hrj, _⟩
  · have := h.roots
    rw [hr] at this
    cases this
  · have hjn : r.toNat = j := by omega
    have hlt := (List.getElem?_eq_some_iff.1 hj).1
    simp only [treeB, Bool.and_eq_true, decide_eq_true_eq]
    refine ⟨h.lim, ?_⟩
    rw [hs]
    simp only [Bool.and_eq_true, decide_eq_true_eq]
    refine ⟨by omega, ?_⟩
    rw [hjn]
    exact bfs_ok h hj hx0 (row := [(j, t.nodes.length + 1)]) (pop := []) (Inv.start hlt) (by simp)
theorem tree_iff {t : TreeD} {size : Int} : treeB t size = true ↔ RefP t size := ⟨tree_ref, ref_tree⟩
end Go.Proofs.YtkamhpbfebdhjaaGreatDoor.TreeEq
