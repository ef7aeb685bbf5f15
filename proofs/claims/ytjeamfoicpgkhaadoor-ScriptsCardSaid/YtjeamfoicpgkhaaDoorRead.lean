/- Slices that come in: what they read as. Nothing of the program stands here. -/
import Derived.Test.YtjeamfoicpgkhaaDoorMem
import Derived.ProofKit
import Derived.OpenShut
import Derived.ShutString
import Derived.ChangeOld
import Derived.SizedLaws
namespace Go.Proofs.YtjeamfoicpgkhaaDoor.Read
open Go.RowKit Go.Proofs.YtjeamfoicpgkhaaDoor.Mem
set_option linter.unusedVariables false
set_option linter.unusedSimpArgs false

theorem add_add (a : Addr) (i j : Nat) : (a.add i).add j = a.add (i + j) := by
  unfold Addr.add
  by_cases h1 : i = 0 <;> by_cases h2 : j = 0 <;> simp [h1, h2, Nat.add_assoc]
theorem add_block (a : Addr) (i : Nat) : (a.add i).block = a.block := by unfold Addr.add; split <;> rfl
/-- The slice v holds xs: each element's cells, sz of them, are R's. -/
def SlR {α : Type} (sz : Nat) (R : World → α → List Value → Prop) (w : World) (xs : List α) (v : Value) : Prop :=
  ∃ A c, v = .slice A xs.length c ∧ xs.length ≤ c ∧ c ≤ maxLen ∧
    ∀ j (h : j < xs.length), ∃ ad cs, A = some ad ∧ cs.length = sz ∧ R w xs[j] cs ∧ ∀ i u, cs[i]? = some u → w.cell? (ad.add (j * sz + i)) = some u
theorem list_of {α : Type} (P : Nat → α → Prop) : ∀ n, (∀ j, j < n → ∃ a, P j a) → ∃ xs : List α, xs.length = n ∧ ∀ j (h : j < xs.length), P j xs[j]
  | 0, _ => ⟨[], rfl, fun j h => absurd h (Nat.not_lt_zero _)⟩
  | n + 1, h => by
    obtain ⟨xs, hl, hx⟩ := list_of P n (fun j hj => h j (by omega))
    obtain ⟨a, ha⟩ := h n (by omega)
    refine ⟨xs ++ [a], by simp [hl], fun j hj => ?_⟩
    rw [List.getElem_append]
    split
    · exact hx j _
    · have : j = n := by simp [hl] at hj; omega
      subst this
      simpa using ha
section
variable {H : Type} {enc : TypeId × Value → H} {P : Program} {w : World} {base : Nat} {spare : Nat → Bool} {held : Bool}
theorem open_sl {α : Type} {sz : Nat} {R : World → α → List Value → Prop} {t e : TypeId} {fuel : Nat} {cs : List Value} {x : DataW H × List MemPlace} (ht : P.underlying t = some (.slice e)) (hC : P.cellsOf e = sz)
    (hR : ∀ fuel cs x, cs.length = sz → DataW.trod enc P w base spare held fuel e cs = some x → ∃ a, R w a cs) (h : DataW.trod enc P w base spare held fuel t cs = some x) :
    ∃ v xs, cs = [v] ∧ SlR sz R w xs v := by
  rcases DataW.trod_slice ht h with ⟨h0, _⟩ | ⟨a, len, cap, elems, rest, n, _, rfl, rfl, hb, hl, hm, hlen, hel, _⟩
  · exact ⟨_, [], h0, none, 0, rfl, Nat.le_refl _, by simp [maxLen], fun j h => absurd h (Nat.not_lt_zero _)⟩
  · obtain ⟨xs, hxl, hx⟩ := list_of (fun j (b : α) => ∃ cs, cs.length = sz ∧ R w b cs ∧ ∀ i u, cs[i]? = some u → w.cell? (a.add (j * sz + i)) = some u) len (fun j hj => by
      have h1 := hel j hj
      rw [List.getElem?_eq_getElem (by omega), Option.bind_eq_some_iff] at h1
      obtain ⟨cs, hc, ht'⟩ := h1
      rw [hC] at hc
      obtain ⟨_, hcl, hat⟩ := World.cells?_some hc
      obtain ⟨b, hb'⟩ := hR n cs _ hcl ht'
      refine ⟨b, cs, hcl, hb', fun i u hu => ?_⟩
      have hi : i < sz := by rw [← hcl]; exact (List.getElem?_eq_some_iff.1 hu).1
      rw [← add_add, hat i hi, hu])
    refine ⟨_, xs, rfl, some a, cap, by rw [hxl], by omega, hm, fun j hj => ?_⟩
    obtain ⟨cs, h1, h2, h3⟩ := hx j hj
    exact ⟨a, cs, rfl, h1, h2, h3⟩
end
def strR : World → ByteArray → List Value → Prop := fun _ s cs => cs = [.string s] ∧ s.size ≤ maxLen
def intR : World → Int → List Value → Prop := fun _ n cs => cs = [.int .i64 n]
theorem SlR.step {α : Type} {sz : Nat} {R : World → α → List Value → Prop} {w w' : World} {xs : List α} {v : Value} (h : SlR sz R w xs v) (hR : ∀ a cs, R w a cs → R w' a cs) (hs : Step No w w') : SlR sz R w' xs v := by
  obtain ⟨A, c, hv, h1, h2, h3⟩ := h
  refine ⟨A, c, hv, h1, h2, fun j hj => ?_⟩
  obtain ⟨ad, cs, e, hl, hr, hc⟩ := h3 j hj
  exact ⟨ad, cs, e, hl, hR _ _ hr, fun i u hu => hs.cell (hc i u hu) (fun f => f)⟩
/-- A row of one's own reads as what was laid in it. -/
theorem SlR.ofRow {α : Type} {sz : Nat} (hz : 0 < sz) {R : World → α → List Value → Prop} {enc : α → List Value} {w : World} {base : Nat} {e : TypeId} {v : Value} {xs : List α} (h : w.ownsRow base e sz v xs.length (xs.flatMap enc))
    (hl : ∀ a ∈ xs, (enc a).length = sz) (hR : ∀ a ∈ xs, R w a (enc a)) : SlR sz R w xs v := by
  obtain ⟨A, c, rfl, h1, h2⟩ := row_slice h
  refine ⟨A, c, rfl, h1, h2, fun j hj => ?_⟩
  obtain ⟨g, c', he, -, -⟩ := row_form h (by omega)
  injection he with he1 _ he3
  subst he1 he3
  refine ⟨_, enc xs[j], rfl, hl _ (List.getElem_mem hj), hR _ (List.getElem_mem hj), fun i u hu => ?_⟩
  have hi : i < sz := by rw [← hl _ (List.getElem_mem hj)]; exact (List.getElem?_eq_some_iff.1 hu).1
  have key : ∀ (ys : List α) (k : Nat) (hk : k < ys.length), (∀ a ∈ ys, (enc a).length = sz) → (ys.flatMap enc)[k * sz + i]? = (enc ys[k])[i]? := by
    intro ys
    induction ys with
    | nil => intro k hk; simp at hk
    | cons y ys ih =>
      intro k hk hys
      rw [List.flatMap_cons]
      cases k with
      | zero => rw [List.getElem?_append_left (by rw [hys y (by simp)]; omega)]; simp
      | succ k =>
        rw [List.getElem?_append_right (by rw [hys y (by simp), Nat.add_mul]; omega), hys y (by simp), show (k + 1) * sz + i - sz = k * sz + i by rw [Nat.add_mul]; omega]
        exact ih k (by simpa using hk) (fun a ha => hys a (by simp [ha]))
  have hlt : j * sz + i < xs.length * sz := by
    have : (j + 1) * sz ≤ xs.length * sz := Nat.mul_le_mul_right _ hj
    rw [Nat.add_mul] at this
    omega
  have ha : (⟨g, 0, none⟩ : Addr).add (j * sz + i) = ⟨g, j * sz + i, none⟩ := by unfold Addr.add; split <;> simp_all
  rw [ha, h.cellAt _ hlt, key xs j hj hl, hu]
end Go.Proofs.YtjeamfoicpgkhaaDoor.Read
