/- Scripts, as plain functions: acts, their texts, and back; nothing of the program stands here. -/
import Derived.Test.YtjeamfoicpgkhaaDoorTake
namespace Go.Proofs.YtjeamfoicpgkhaaDoor.Scr
set_option linter.unusedVariables false
set_option linter.unusedSimpArgs false
open Go.Lib Go.Proofs.YtjeamfoicpgkhaaDoor.Dec Go.Proofs.YtjeamfoicpgkhaaDoor.Take
structure ActD where
  kind : Int
  client : Int
  up : Bool
  at_ : Int
  n : Int
  text : ByteArray
def letters : List UInt8 := [101, 116, 100, 108, 99, 98, 120, 106]
def isEdit (k : Int) : Bool := k == 0
def isBreak (k : Int) : Bool := k == 5
def isMove (k : Int) : Bool := decide (2 ≤ k) && decide (k ≤ 5)
/-- May an act be? -/
def actMay (a : ActD) : Bool :=
  decide (0 ≤ a.kind) && decide (a.kind < 8) && decide (0 ≤ a.client) && decide (a.client < 3) && decide (0 ≤ a.at_) && decide (a.at_ ≤ 4096) && decide (0 ≤ a.n) && decide (a.n ≤ 1000000) &&
  (if isEdit a.kind then decide (a.text.size ≤ 300) && !a.up
   else if isBreak a.kind then decide (a.text.size = 1) && decide (a.text.data.toList ≠ [0])
   else if isMove a.kind then decide (a.n = 0) && decide (a.text.size = 0)
   else !a.up && decide (a.at_ = 0) && decide (a.n = 0) && decide (a.text.size = 0))
def showAct (a : ActD) : List UInt8 :=
  letters.getD a.kind.toNat 0 :: (itoa a.client ++
    ((if isEdit a.kind then 64 :: num a.at_ else if isMove a.kind then (if a.up then 117 else 100) :: num a.at_ else []) ++
    ((if isEdit a.kind || isBreak a.kind then num a.n ++ str a.text.data.toList else []) ++ [59])))
def showActs (as : List ActD) : List UInt8 := as.flatMap showAct
/-- Acts that may be shown. -/
def Good (as : List ActD) : Prop := as.length ≤ 1024 ∧ ∀ a ∈ as, actMay a = true
instance (as : List ActD) : Decidable (Good as) := by unfold Good; infer_instance
def showS (as : List ActD) : ByteArray × Int := if Good as then (⟨(showActs as).toArray⟩, 0) else (⟨#[]⟩, 2300)
def idx (b : UInt8) : Int := (letters.findIdx? (· == b)).elim (-1) (fun i => (i : Int))
/-- An act, taken. -/
def actR (s : St) : ActD × St :=
  let b := byteR s
  let c := byteR b.2
  let k := idx b.1
  let d : Bool × Int × St := if isEdit k || isMove k then (let u := byteR c.2; let m := digR 44 u.2; (u.1 == 117, m.1, m.2)) else (false, 0, c.2)
  let e : Int × List UInt8 × St := if isEdit k || isBreak k then (let m := digR 44 d.2.2; let t := strR m.2; (m.1, t.1, t.2)) else (0, [], d.2.2)
  let f := byteR e.2.2
  (⟨k, (c.1.toNat : Int) - 48, d.1, d.2.1, e.1, ⟨e.2.1.toArray⟩⟩, f.2)
theorem bytes_back (s : ByteArray) : (⟨s.data.toList.toArray⟩ : ByteArray) = s := rfl
theorem kind_cases {k : Int} (h0 : 0 ≤ k) (h1 : k < 8) : k = 0 ∨ k = 1 ∨ k = 2 ∨ k = 3 ∨ k = 4 ∨ k = 5 ∨ k = 6 ∨ k = 7 := by omega
theorem itoa_client {c : Int} (h0 : 0 ≤ c) (h1 : c < 3) : ∃ b : UInt8, itoa c = [b] ∧ (b.toNat : Int) - 48 = c := by
  rcases (by omega : c = 0 ∨ c = 1 ∨ c = 2) with rfl | rfl | rfl
  · exact ⟨48, by decide +kernel, by decide⟩
  · exact ⟨49, by decide +kernel, by decide⟩
  · exact ⟨50, by decide +kernel, by decide⟩
theorem may_facts {a : ActD} (h : actMay a = true) : 0 ≤ a.kind ∧ a.kind < 8 ∧ 0 ≤ a.client ∧ a.client < 3 ∧ 0 ≤ a.at_ ∧ a.at_ ≤ 4096 ∧ 0 ≤ a.n ∧ a.n ≤ 1000000 ∧ a.text.size ≤ 300 ∧
    (isEdit a.kind = true → a.up = false) ∧ (isEdit a.kind = false → isMove a.kind = false → a.up = false ∧ a.at_ = 0) ∧ (isEdit a.kind = false → isBreak a.kind = false → a.n = 0 ∧ a.text.size = 0) := by
  unfold actMay at h
  simp only [Bool.and_eq_true, decide_eq_true_eq] at h
  obtain ⟨⟨⟨⟨⟨⟨⟨⟨h1, h2⟩, h3⟩, h4⟩, h5⟩, h6⟩, h7⟩, h8⟩, h9⟩ := h
  refine ⟨h1, h2, h3, h4, h5, h6, h7, h8, ?_⟩
  rcases kind_cases h1 h2 with e | e | e | e | e | e | e | e <;> rw [e] at h9 ⊢ <;> simp [isEdit, isBreak, isMove] at h9 ⊢ <;> (try omega) <;> (try (obtain ⟨q1, q2⟩ := h9; exact ⟨by omega, q2⟩)) <;> (try (obtain ⟨q1, q2⟩ := h9; exact ⟨by rw [q2]; decide, q1, q2⟩)) <;> (try (obtain ⟨⟨⟨q1, q2⟩, q3⟩, q4⟩ := h9; exact ⟨by rw [q4]; decide, ⟨q1, q2⟩, ⟨q3, q4⟩⟩))
theorem empty_of_size {t : ByteArray} (h : t.size = 0) : t = ⟨#[]⟩ := ByteArray.ext (Array.eq_empty_of_size_eq_zero h)
theorem small_of {x : Int} (h0 : 0 ≤ x) (h1 : x ≤ 1000000) : Small x := ⟨h0, by omega⟩
theorem idx_letter : idx 101 = 0 ∧ idx 116 = 1 ∧ idx 100 = 2 ∧ idx 108 = 3 ∧ idx 99 = 4 ∧ idx 98 = 5 ∧ idx 120 = 6 ∧ idx 106 = 7 := by decide +kernel
theorem actR_back {a : ActD} (h : actMay a = true) (r : List UInt8) : actR (showAct a ++ r, false) = (a, r, false) := by
  obtain ⟨h1, h2, h3, h4, h5, h6, h7, h8, h9, g1, g2, g3⟩ := may_facts h
  clear h
  obtain ⟨k, c, u, p, n, t⟩ := a
  simp only at *
  obtain ⟨b, hb, hc⟩ := itoa_client h3 h4
  have hp := numR_back (small_of h5 (by omega))
  have hn := numR_back (small_of h7 (by omega))
  have ht := fun r => strR_back (s := t.data.toList) (small_of (by omega) (by rw [Array.length_toList]; show ((t.size : Nat) : Int) ≤ _; omega)) r
  obtain ⟨i0, i1, i2, i3, i4, i5, i6, i7⟩ := idx_letter
  rcases kind_cases h1 h2 with e | e | e | e | e | e | e | e <;> subst e
  · have hu : u = false := g1 rfl
    subst hu
    simp [actR, showAct, byteR, letters, isEdit, isBreak, isMove, hb, hp, hn, ht, hc, i0, i1, i2, i3, i4, i5, i6, i7]
  · obtain ⟨rfl, rfl⟩ := g2 rfl rfl
    obtain ⟨rfl, he⟩ := g3 rfl rfl
    rw [empty_of_size he]
    simp [actR, showAct, byteR, letters, isEdit, isBreak, isMove, hb, hp, hn, ht, hc, i0, i1, i2, i3, i4, i5, i6, i7]
  · obtain ⟨rfl, he⟩ := g3 rfl rfl
    rw [empty_of_size he]
    cases u <;> simp [actR, showAct, byteR, letters, isEdit, isBreak, isMove, hb, hp, hn, ht, hc, i0, i1, i2, i3, i4, i5, i6, i7]
  · obtain ⟨rfl, he⟩ := g3 rfl rfl
    rw [empty_of_size he]
    cases u <;> simp [actR, showAct, byteR, letters, isEdit, isBreak, isMove, hb, hp, hn, ht, hc, i0, i1, i2, i3, i4, i5, i6, i7]
  · obtain ⟨rfl, he⟩ := g3 rfl rfl
    rw [empty_of_size he]
    cases u <;> simp [actR, showAct, byteR, letters, isEdit, isBreak, isMove, hb, hp, hn, ht, hc, i0, i1, i2, i3, i4, i5, i6, i7]
  · cases u <;> simp [actR, showAct, byteR, letters, isEdit, isBreak, isMove, hb, hp, hn, ht, hc, i0, i1, i2, i3, i4, i5, i6, i7]
  · obtain ⟨rfl, rfl⟩ := g2 rfl rfl
    obtain ⟨rfl, he⟩ := g3 rfl rfl
    rw [empty_of_size he]
    simp [actR, showAct, byteR, letters, isEdit, isBreak, isMove, hb, hp, hn, ht, hc, i0, i1, i2, i3, i4, i5, i6, i7]
  · obtain ⟨rfl, rfl⟩ := g2 rfl rfl
    obtain ⟨rfl, he⟩ := g3 rfl rfl
    rw [empty_of_size he]
    simp [actR, showAct, byteR, letters, isEdit, isBreak, isMove, hb, hp, hn, ht, hc, i0, i1, i2, i3, i4, i5, i6, i7]
theorem showAct_ne (a : ActD) : showAct a ≠ [] := by simp [showAct]
theorem showActs_cons (a : ActD) (as : List ActD) : showActs (a :: as) = showAct a ++ showActs as := by simp [showActs]
theorem showActs_app (as bs : List ActD) : showActs (as ++ bs) = showActs as ++ showActs bs := by simp [showActs]
/-- Where a taker stands that has taken some acts of a text. -/
def Inv (s : List UInt8) (st : St) (out : List ActD) : Prop :=
  ∀ as, Good as → showActs as = s → ∃ k, k ≤ as.length ∧ out = as.take k ∧ st = (showActs (as.drop k), false)
theorem inv_start (s : List UInt8) : Inv s (s, false) [] := fun as _ h => ⟨0, Nat.zero_le _, rfl, by rw [List.drop_zero, h]⟩
theorem inv_step {s : List UInt8} {st : St} {out : List ActD} (h : Inv s st out) (hne : st.1 ≠ []) : Inv s (actR st).2 (out ++ [(actR st).1]) := by
  intro as hg hs
  obtain ⟨k, hk, ho, hst⟩ := h as hg hs
  have hlt : k < as.length := by
    rcases Nat.lt_or_ge k as.length with h1 | h1
    · exact h1
    · exfalso
      rw [hst, List.drop_eq_nil_of_le h1] at hne
      exact hne rfl
  have e : actR st = (as[k], showActs (as.drop (k + 1)), false) := by
    rw [hst, List.drop_eq_getElem_cons hlt, showActs_cons]
    exact actR_back (hg.2 _ (List.getElem_mem hlt)) _
  refine ⟨k + 1, hlt, ?_, by rw [e]⟩
  rw [e, ho, List.take_succ_eq_append_getElem hlt]
theorem inv_end {s : List UInt8} {st : St} {out : List ActD} (h : Inv s st out) (he : st.1 = [] ∨ st.2 = true ∨ 1024 < out.length) {as : List ActD} (hg : Good as) (hs : showActs as = s) : out = as ∧ st.2 = false := by
  obtain ⟨k, hk, ho, hst⟩ := h as hg hs
  have hlen : out.length = k := by rw [ho, List.length_take]; omega
  rcases he with he | he | he
  · rw [hst] at he
    have hnil : as.drop k = [] := by
      cases hd : as.drop k with
      | nil => rfl
      | cons a r =>
        rw [hd, showActs_cons] at he
        have := List.append_eq_nil_iff.1 he
        exact absurd this.1 (showAct_ne a)
    have : as.length ≤ k := List.drop_eq_nil_iff.1 hnil
    exact ⟨by rw [ho, List.take_of_length_le this], by rw [hst]⟩
  · rw [hst] at he
    cases he
  · have := hg.1
    omega
theorem show_inj {as bs : List ActD} (ha : Good as) (hb : Good bs) (h : showActs as = showActs bs) : as = bs := by
  have key : ∀ (n : Nat) (as bs : List ActD), as.length ≤ n → (∀ a ∈ as, actMay a = true) → (∀ b ∈ bs, actMay b = true) → showActs as = showActs bs → as = bs := by
    intro n
    induction n with
    | zero =>
      intro as bs hn _ _ h
      have : as = [] := List.eq_nil_of_length_eq_zero (by omega)
      subst this
      cases bs with
      | nil => rfl
      | cons b bs =>
        rw [showActs_cons] at h
        exact absurd (List.append_eq_nil_iff.1 h.symm).1 (showAct_ne b)
    | succ n ih =>
      intro as bs hn h1 h2 h
      cases as with
      | nil =>
        cases bs with
        | nil => rfl
        | cons b bs =>
          rw [showActs_cons] at h
          exact absurd (List.append_eq_nil_iff.1 h.symm).1 (showAct_ne b)
      | cons a as =>
        cases bs with
        | nil =>
          rw [showActs_cons] at h
          exact absurd (List.append_eq_nil_iff.1 h).1 (showAct_ne a)
        | cons b bs =>
          rw [showActs_cons, showActs_cons] at h
          have e1 := actR_back (h1 a (by simp)) (showActs as)
          have e2 := actR_back (h2 b (by simp)) (showActs bs)
          rw [h, e2] at e1
          injection e1 with e3 e4
          injection e4 with e4 _
          rw [e3, ih as bs (by simpa using hn) (fun x hx => h1 x (by simp [hx])) (fun x hx => h2 x (by simp [hx])) e4.symm]
  exact key as.length as bs (Nat.le_refl _) ha.2 hb.2 h
/-- What a text is read as. -/
def Reads (s : ByteArray) (r : List ActD × Int) : Prop :=
  (r.2 = 0 ∧ Good r.1 ∧ showActs r.1 = s.data.toList) ∨ (r = ([], 2300) ∧ ∀ as, Good as → showActs as ≠ s.data.toList)
theorem reads_one {s : ByteArray} {r q : List ActD × Int} (h : Reads s r) (k : Reads s q) : r = q := by
  obtain ⟨a, n⟩ := r
  obtain ⟨b, m⟩ := q
  rcases h with ⟨rfl, h1, h2⟩ | ⟨h1, h2⟩
  · rcases k with ⟨rfl, k1, k2⟩ | ⟨k1, k2⟩
    · rw [show a = b from show_inj h1 k1 (h2.trans k2.symm)]
    · exact absurd h2 (k2 _ h1)
  · rcases k with ⟨rfl, k1, k2⟩ | ⟨k1, k2⟩
    · exact absurd k2 (h2 _ k1)
    · rw [h1, k1]
/-- What is read in the end. -/
theorem reads_end {s : ByteArray} {st : St} {out : List ActD} (h : Inv s.data.toList st out) (he : st.1 = [] ∨ st.2 = true ∨ 1024 < out.length) :
    Reads s (if st.2 = true ∨ (showS out).2 ≠ 0 ∨ (showS out).1 ≠ s then ([], 2300) else (out, 0)) := by
  by_cases hc : st.2 = true ∨ (showS out).2 ≠ 0 ∨ (showS out).1 ≠ s
  · rw [if_pos hc]
    refine .inr ⟨rfl, fun as hg hs => ?_⟩
    obtain ⟨rfl, h2⟩ := inv_end h he hg hs
    have e : showS out = (s, 0) := by
      unfold showS
      rw [if_pos hg, hs]
    rw [e, h2] at hc
    simp at hc
  · rw [if_neg hc]
    have h2 : (showS out).2 = 0 := Decidable.not_not.1 (fun e => hc (.inr (.inl e)))
    have h3 : (showS out).1 = s := Decidable.not_not.1 (fun e => hc (.inr (.inr e)))
    have hg : Good out := by
      unfold showS at h2
      split at h2
      · assumption
      · simp at h2
    refine .inl ⟨rfl, hg, ?_⟩
    unfold showS at h3
    rw [if_pos hg] at h3
    rw [← h3]
end Go.Proofs.YtjeamfoicpgkhaaDoor.Scr
