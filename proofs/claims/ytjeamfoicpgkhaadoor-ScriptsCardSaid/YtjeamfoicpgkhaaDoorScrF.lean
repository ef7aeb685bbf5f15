/- The reference's reading of scripts, as a plain function. -/
import Derived.Test.YtjeamfoicpgkhaaDoorScr
namespace Go.Proofs.YtjeamfoicpgkhaaDoor.Scr
open Go.Lib Go.Proofs.YtjeamfoicpgkhaaDoor.Dec Go.Proofs.YtjeamfoicpgkhaaDoor.Take
set_option linter.unusedVariables false
set_option linter.unusedSimpArgs false
def actF (t : List UInt8) (p : SF) : ActD × SF :=
  let k := idx (t.getD p.1 0)
  let c := ((t.getD (p.1 + 1) 0).toNat : Int) - 48
  let d : Bool × Int × SF := if isMove k || isEdit k then (let m := digF 44 t (p.1 + 3, p.2); (t[p.1 + 2]? == some 117, m.1, m.2)) else (false, 0, (p.1 + 2, p.2))
  let e : Int × List UInt8 × SF := if isEdit k || isBreak k then (let m := digF 44 t d.2.2; let s := strF t m.2; (m.1, s.1, s.2)) else (0, [], d.2.2)
  (⟨k, c, d.1, d.2.1, e.1, ⟨e.2.1.toArray⟩⟩, (e.2.2.1 + 1, e.2.2.2))
theorem drop_more {t l r : List UInt8} {p : Nat} (h : t.drop p = l ++ r) : t.drop (p + l.length) = r := by
  rw [← List.drop_drop, h, List.drop_left]
theorem get_first {t r : List UInt8} {p : Nat} {b : UInt8} (h : t.drop p = b :: r) : t.getD p 0 = b ∧ t[p]? = some b ∧ t.drop (p + 1) = r := by
  have h1 : t[p]? = some b := by
    have := congrArg (fun l => l[0]?) h
    simpa using this
  refine ⟨by rw [List.getD_eq_getElem?_getD, h1]; rfl, h1, ?_⟩
  rw [← List.drop_drop, h]
  rfl
theorem actF_back {a : ActD} (h : actMay a = true) (t r : List UInt8) (p : Nat) (ht : t.drop p = showAct a ++ r) :
    actF t (p, false) = (a, (p + (showAct a).length, false)) ∧ t.drop (p + (showAct a).length) = r := by
  refine ⟨?_, drop_more ht⟩
  obtain ⟨h1, h2, h3, h4, h5, h6, h7, h8, h9, g1, g2, g3⟩ := may_facts h
  clear h
  obtain ⟨k, c, u, q, n, x⟩ := a
  simp only at *
  obtain ⟨b, hb, hc⟩ := itoa_client h3 h4
  have hx : Small (x.data.toList.length : Int) := small_of (by omega) (by rw [Array.length_toList]; show ((x.size : Nat) : Int) ≤ _; omega)
  obtain ⟨i0, i1, i2, i3, i4, i5, i6, i7⟩ := idx_letter
  unfold showAct at ht ⊢
  simp only [hb, List.cons_append, List.nil_append, List.append_assoc, List.length_cons, List.length_append, List.length_nil] at ht ⊢
  obtain ⟨e1, -, d1⟩ := get_first ht
  obtain ⟨e2, -, d2⟩ := get_first d1
  unfold actF
  simp only [e1, e2, hc]
  rcases kind_cases h1 h2 with e | e | e | e | e | e | e | e <;> subst e
  · have hu : u = false := g1 rfl
    subst hu
    simp only [isEdit, isBreak, isMove, BEq.refl, if_true, Bool.true_or, List.cons_append, List.append_assoc] at d2 ⊢
    obtain ⟨-, e3, d3⟩ := get_first d2
    obtain ⟨m1, d4⟩ := numF_back (small_of h5 (by omega)) t _ _ d3 false
    obtain ⟨m2, d5⟩ := numF_back (small_of h7 (by omega)) t _ _ d4 false
    obtain ⟨m3, d6⟩ := strF_back hx t _ _ d5
    simp [letters, i0, e3, m1, m2, m3]
    omega
  · obtain ⟨rfl, rfl⟩ := g2 rfl rfl
    obtain ⟨rfl, he⟩ := g3 rfl rfl
    rw [empty_of_size he]
    simp [letters, i1, isEdit, isBreak, isMove]
  · obtain ⟨rfl, he⟩ := g3 rfl rfl
    rw [empty_of_size he]
    simp [isEdit, isBreak, isMove] at d2 ⊢
    obtain ⟨-, e3, d3⟩ := get_first d2
    obtain ⟨m1, d4⟩ := numF_back (small_of h5 (by omega)) t _ _ d3 false
    cases u <;> simp [letters, i2, e3, m1] <;> omega
  · obtain ⟨rfl, he⟩ := g3 rfl rfl
    rw [empty_of_size he]
    simp [isEdit, isBreak, isMove] at d2 ⊢
    obtain ⟨-, e3, d3⟩ := get_first d2
    obtain ⟨m1, d4⟩ := numF_back (small_of h5 (by omega)) t _ _ d3 false
    cases u <;> simp [letters, i3, e3, m1] <;> omega
  · obtain ⟨rfl, he⟩ := g3 rfl rfl
    rw [empty_of_size he]
    simp [isEdit, isBreak, isMove] at d2 ⊢
    obtain ⟨-, e3, d3⟩ := get_first d2
    obtain ⟨m1, d4⟩ := numF_back (small_of h5 (by omega)) t _ _ d3 false
    cases u <;> simp [letters, i4, e3, m1] <;> omega
  · simp [isEdit, isBreak, isMove] at d2 ⊢
    obtain ⟨-, e3, d3⟩ := get_first d2
    obtain ⟨m1, d4⟩ := numF_back (small_of h5 (by omega)) t _ _ d3 false
    obtain ⟨m2, d5⟩ := numF_back (small_of h7 (by omega)) t _ _ d4 false
    obtain ⟨m3, d6⟩ := strF_back hx t _ _ d5
    cases u <;> simp [letters, i5, e3, m1, m2, m3] <;> omega
  · obtain ⟨rfl, rfl⟩ := g2 rfl rfl
    obtain ⟨rfl, he⟩ := g3 rfl rfl
    rw [empty_of_size he]
    simp [letters, i6, isEdit, isBreak, isMove]
  · obtain ⟨rfl, rfl⟩ := g2 rfl rfl
    obtain ⟨rfl, he⟩ := g3 rfl rfl
    rw [empty_of_size he]
    simp [letters, i7, isEdit, isBreak, isMove]
theorem showAct_two (a : ActD) : 2 ≤ (showAct a).length := by
  simp only [showAct, List.length_cons, List.length_append, List.length_nil]
  omega
def InvF (t : List UInt8) (p : SF) (out : List ActD) : Prop :=
  ∀ as, Good as → showActs as = t → ∃ k, k ≤ as.length ∧ out = as.take k ∧ t.drop p.1 = showActs (as.drop k) ∧ p.2 = false
theorem invF_start (t : List UInt8) : InvF t (0, false) [] := fun as _ h => ⟨0, Nat.zero_le _, rfl, by rw [List.drop_zero, List.drop_zero, h], rfl⟩
theorem invF_step {t : List UInt8} {p : SF} {out : List ActD} (h : InvF t p out) (hne : p.1 + 1 < t.length) : InvF t (actF t p).2 (out ++ [(actF t p).1]) := by
  intro as hg hs
  obtain ⟨k, hk, ho, hd, hb⟩ := h as hg hs
  have hlt : k < as.length := by
    rcases Nat.lt_or_ge k as.length with h1 | h1
    · exact h1
    · exfalso
      rw [List.drop_eq_nil_of_le h1] at hd
      have := congrArg List.length hd
      rw [List.length_drop] at this
      simp [showActs] at this
      omega
  obtain ⟨p1, p2⟩ := p
  simp only at hb hd
  subst hb
  rw [List.drop_eq_getElem_cons hlt, showActs_cons] at hd
  obtain ⟨e, hd2⟩ := actF_back (hg.2 _ (List.getElem_mem hlt)) t _ _ hd
  refine ⟨k + 1, hlt, ?_, by rw [e]; exact hd2, by rw [e]⟩
  rw [e, ho, List.take_succ_eq_append_getElem hlt]
theorem invF_end {t : List UInt8} {p : SF} {out : List ActD} (h : InvF t p out) (he : ¬ p.1 + 1 < t.length ∨ p.2 = true ∨ 1024 < out.length) {as : List ActD} (hg : Good as) (hs : showActs as = t) : out = as ∧ p.2 = false := by
  obtain ⟨k, hk, ho, hd, hb⟩ := h as hg hs
  have hlen : out.length = k := by rw [ho, List.length_take]; omega
  rcases he with he | he | he
  · have hnil : as.drop k = [] := by
      cases hdk : as.drop k with
      | nil => rfl
      | cons a r =>
        exfalso
        rw [hdk, showActs_cons] at hd
        have h1 := congrArg List.length hd
        rw [List.length_drop, List.length_append] at h1
        have := showAct_two a
        omega
    have : as.length ≤ k := List.drop_eq_nil_iff.1 hnil
    exact ⟨by rw [ho, List.take_of_length_le this], hb⟩
  · rw [hb] at he
    cases he
  · have := hg.1
    omega
theorem readsF_end {s : ByteArray} {p : SF} {out : List ActD} (h : InvF s.data.toList p out) (he : ¬ p.1 + 1 < s.data.toList.length ∨ p.2 = true ∨ 1024 < out.length) :
    Reads s (if p.2 = true ∨ (showS out).2 ≠ 0 ∨ (showS out).1 ≠ s then ([], 2300) else (out, 0)) := by
  by_cases hc : p.2 = true ∨ (showS out).2 ≠ 0 ∨ (showS out).1 ≠ s
  · rw [if_pos hc]
    refine .inr ⟨rfl, fun as hg hs => ?_⟩
    obtain ⟨rfl, h2⟩ := invF_end h he hg hs
    have e : showS out = (s, 0) := by
      unfold showS
      rw [if_pos hg, hs]
    rw [e, h2] at hc
    simp at hc
  · rw [if_neg hc]
    have h2 : (showS out).2 = 0 := Decidable.not_not.1 (fun e => hc (.inr (.inl e)))
    have h3 : (showS out).1 = s := Decidable.not_not.1 (fun e => hc (.inr (.inr e)))
    have hg : Good out := by
      unfold showS at h2
      split at h2
      · assumption
      · simp at h2
    refine .inl ⟨rfl, hg, ?_⟩
    unfold showS at h3
    rw [if_pos hg] at h3
    rw [← h3]
end Go.Proofs.YtjeamfoicpgkhaaDoor.Scr
