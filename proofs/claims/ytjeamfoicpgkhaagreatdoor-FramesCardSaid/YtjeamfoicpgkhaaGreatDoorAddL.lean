/- Edits in normal form, as the reference makes them: plain functions. Nothing of the program stands here. -/
import Derived.Test.YtjeamfoicpgkhaaGreatDoorLumpA
namespace Go.Proofs.YtjeamfoicpgkhaaGreatDoor.AddL
open Go.RowKit Go.Lib Go.Proofs.YtjeamfoicpgkhaaGreatDoor.Data Go.Proofs.YtjeamfoicpgkhaaGreatDoor.Pk Go.Proofs.YtjeamfoicpgkhaaGreatDoor.May
set_option linter.unusedVariables false
set_option linter.unusedSimpArgs false
def sizeR (c : CompD) : Int := if c.kind = 1 then c.text.size else c.n
def mergeC (x c : CompD) : CompD := ⟨x.kind, wrap64 (x.n + c.n), x.text ++ c.text⟩
def addR : List CompD → CompD → List CompD
  | [], c => [c]
  | x :: r, c => if x.kind = c.kind then mergeC x c :: r else if c.kind = 1 ∧ x.kind = 2 then x :: addR r c else c :: x :: r
def addL (xs : List CompD) (c : CompD) : List CompD := if sizeR c = 0 then xs else (addR xs.reverse c).reverse
theorem addL_zero {xs : List CompD} {c : CompD} (h : sizeR c = 0) : addL xs c = xs := by unfold addL; rw [if_pos h]
theorem addL_nil {c : CompD} (h : sizeR c ≠ 0) : addL [] c = [c] := by unfold addL; rw [if_neg h]; rfl
theorem addL_same {ys : List CompD} {x c : CompD} (h : sizeR c ≠ 0) (hk : x.kind = c.kind) : addL (ys ++ [x]) c = ys ++ [mergeC x c] := by
  unfold addL
  rw [if_neg h]
  simp [addR, hk]
theorem addL_cut {ys : List CompD} {x c : CompD} (h : sizeR c ≠ 0) (hk : x.kind ≠ c.kind) (h1 : c.kind = 1) (h2 : x.kind = 2) : addL (ys ++ [x]) c = addL ys c ++ [x] := by
  unfold addL
  rw [if_neg h, if_neg h]
  simp [addR, h1, h2]
theorem addL_more {ys : List CompD} {x c : CompD} (h : sizeR c ≠ 0) (hk : x.kind ≠ c.kind) (h1 : ¬ (c.kind = 1 ∧ x.kind = 2)) : addL (ys ++ [x]) c = ys ++ [x] ++ [c] := by
  unfold addL
  rw [if_neg h]
  simp [addR, hk, h1]
/-- Normal, from behind. -/
def nfR : List CompD → Prop
  | [] => True
  | [x] => True
  | x :: y :: r => x.kind ≠ y.kind ∧ ¬ (x.kind = 1 ∧ y.kind = 2) ∧ nfR (y :: r)
theorem nf_tail : ∀ {x : CompD} {r : List CompD}, nfR (x :: r) → nfR r
  | _, [], _ => trivial
  | _, _ :: _, h => h.2.2
theorem nf_head {x x' : CompD} (hk : x'.kind = x.kind) : ∀ {r : List CompD}, nfR (x :: r) → nfR (x' :: r)
  | [], _ => trivial
  | y :: r, h => ⟨by rw [hk]; exact h.1, by rw [hk]; exact h.2.1, h.2.2⟩
theorem addR_nf : ∀ {r : List CompD} {c : CompD}, nfR r → nfR (addR r c)
  | [], c, _ => trivial
  | x :: r, c, h => by
    unfold addR
    split
    · exact nf_head (by rfl) h
    · rename_i hk
      split
      · rename_i h12
        have h3 := addR_nf (c := c) (nf_tail h)
        cases r with
        | nil =>
          refine ⟨by rw [h12.1, h12.2]; decide, by rw [h12.2]; exact fun q => absurd q.1 (by decide), ?_⟩
          trivial
        | cons y r =>
          obtain ⟨g1, g2, g3⟩ := h
          have hy : y.kind ≠ 2 := fun e => g1 (by rw [h12.2, e])
          unfold addR at h3 ⊢
          split at h3
          · rename_i hy1
            rw [if_pos hy1]
            exact ⟨by show x.kind ≠ y.kind; exact g1, by rw [h12.2]; exact fun q => absurd q.1 (by decide), h3⟩
          · rename_i hy1
            rw [if_neg hy1, if_neg (fun q => hy q.2)]
            rw [if_neg (fun q => hy q.2)] at h3
            exact ⟨by rw [h12.1, h12.2]; decide, by rw [h12.2]; exact fun q => absurd q.1 (by decide), h3⟩
      · rename_i h12
        exact ⟨fun e => hk e.symm, h12, h⟩
theorem addL_nf {xs : List CompD} {c : CompD} (h : nfR xs.reverse) : nfR (addL xs c).reverse := by
  unfold addL
  split
  · exact h
  · rw [List.reverse_reverse]
    exact addR_nf h
theorem addL_len (xs : List CompD) (c : CompD) : (addL xs c).length ≤ xs.length + 1 := by
  have h : ∀ r : List CompD, (addR r c).length ≤ r.length + 1 := by
    intro r
    induction r with
    | nil => simp [addR]
    | cons x r ih =>
      unfold addR
      split
      · simp
      · split
        · simp; omega
        · simp
  unfold addL
  split
  · omega
  · have := h xs.reverse
    simpa using this
theorem addL_text {B D : Nat} {xs : List CompD} {c : CompD} (h : ∀ x ∈ xs, x.text.size ≤ B) (hc : c.text.size ≤ D) : ∀ x ∈ addL xs c, x.text.size ≤ B + D := by
  have key : ∀ r : List CompD, (∀ x ∈ r, x.text.size ≤ B) → ∀ x ∈ addR r c, x.text.size ≤ B + D := by
    intro r
    induction r with
    | nil =>
      intro _ x hx
      simp [addR] at hx
      subst hx
      omega
    | cons y r ih =>
      intro hr x hx
      have hy := hr y (by simp)
      have hr' : ∀ x ∈ r, x.text.size ≤ B := fun x hx => hr x (by simp [hx])
      unfold addR at hx
      split at hx
      · rcases List.mem_cons.1 hx with rfl | hx
        · have := ByteArray.size_append (a := y.text) (b := c.text)
          show (y.text ++ c.text).size ≤ _
          omega
        · have := hr' x hx; omega
      · split at hx
        · rcases List.mem_cons.1 hx with rfl | hx
          · omega
          · exact ih hr' x hx
        · rcases List.mem_cons.1 hx with rfl | hx
          · omega
          · rcases List.mem_cons.1 hx with rfl | hx
            · omega
            · have := hr' x hx; omega
  unfold addL
  split
  · intro x hx; have := h x hx; omega
  · intro x hx
    exact key xs.reverse (fun x hx => h x (by simpa using hx)) x (by simpa using hx)
/-- The whole edit, piece by piece. -/
def normL (cs : List CompD) : List CompD := cs.foldl addL []
theorem normL_next (cs : List CompD) (k : Nat) (h : k < cs.length) : normL (cs.take (k + 1)) = addL (normL (cs.take k)) cs[k] := by
  unfold normL
  rw [List.take_succ_eq_append_getElem h, List.foldl_append]
  rfl
theorem normL_nf (cs : List CompD) : nfR (normL cs).reverse := by
  unfold normL
  have : ∀ (cs xs : List CompD), nfR xs.reverse → nfR (cs.foldl addL xs).reverse := by
    intro cs
    induction cs with
    | nil => intro xs h; exact h
    | cons c cs ih => intro xs h; exact ih _ (addL_nf h)
  exact this cs [] trivial
theorem normL_len (cs : List CompD) : (normL cs).length ≤ cs.length := by
  unfold normL
  have : ∀ (cs xs : List CompD), (cs.foldl addL xs).length ≤ xs.length + cs.length := by
    intro cs
    induction cs with
    | nil => intro xs; simp
    | cons c cs ih =>
      intro xs
      have h1 := ih (addL xs c)
      have h2 := addL_len xs c
      rw [List.foldl_cons, List.length_cons]
      omega
  have := this cs []
  simpa using this
end Go.Proofs.YtjeamfoicpgkhaaGreatDoor.AddL
