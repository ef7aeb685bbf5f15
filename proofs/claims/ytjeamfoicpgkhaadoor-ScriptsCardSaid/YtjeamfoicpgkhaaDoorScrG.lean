/- Texts that are no scripts, found out by reading them; nothing of the program stands here. -/
import Derived.Test.YtjeamfoicpgkhaaDoorScrF
namespace Go.Proofs.YtjeamfoicpgkhaaDoor.Scr
open Go.Lib Go.Proofs.YtjeamfoicpgkhaaDoor.Dec Go.Proofs.YtjeamfoicpgkhaaDoor.Take
set_option linter.unusedVariables false
set_option linter.unusedSimpArgs false
def parseN : Nat → St → List ActD → St × List ActD
  | 0, st, out => (st, out)
  | n + 1, st, out => if st.1 = [] then (st, out) else if st.2 = true then (st, out) else parseN n (Scr.actR st).2 (out ++ [(Scr.actR st).1])
theorem inv_parseN (s : List UInt8) : ∀ (n : Nat) (st : St) (out : List ActD), Inv s st out → Inv s (parseN n st out).1 (parseN n st out).2
  | 0, st, out, h => h
  | n + 1, st, out, h => by
    unfold parseN
    split
    · exact h
    · rename_i h1
      split
      · exact h
      · exact inv_parseN s n _ _ (inv_step h h1)
def noneB (n : Nat) (s : List UInt8) : Bool :=
  let r := parseN n (s, false) []
  (decide (r.1.1 = []) || r.1.2) && (r.1.2 || decide (¬ (Good r.2)) || decide (showActs r.2 ≠ s))
theorem none_of (n : Nat) (s : List UInt8) (h : noneB n s = true) : ∀ as, Good as → showActs as ≠ s := by
  intro as hg hs
  have hi := inv_parseN s n (s, false) [] (inv_start s)
  unfold noneB at h
  simp only [Bool.and_eq_true, Bool.or_eq_true, decide_eq_true_eq] at h
  obtain ⟨h1, h2⟩ := h
  obtain ⟨e1, e2⟩ := inv_end hi (h1.elim .inl (fun h => .inr (.inl h))) hg hs
  rcases h2 with (h2 | h2) | h2
  · rw [e2] at h2; cases h2
  · exact h2 (e1 ▸ hg)
  · rw [e1] at h2; exact h2 hs
theorem show_nil : ∀ (as : List ActD), showActs as = [] → as = []
  | [], _ => rfl
  | a :: as, h => by
    rw [showActs_cons] at h
    exact absurd (List.append_eq_nil_iff.1 h).1 (showAct_ne a)
theorem noText : ([[116], [116, 48], [116, 48, 59, 116], [116, 51, 59], [84, 48, 59], [116, 48, 44, 59], [100, 48, 44, 59], [100, 48, 117, 59], [100, 48, 117, 48, 49, 44, 59], [101, 48, 64, 48, 44, 48, 44, 49, 58, 59], [101, 48, 64, 48, 44, 48, 44, 48, 58, 97, 59], [101, 48, 117, 48, 44, 48, 44, 48, 58, 59], [98, 48, 117, 48, 44, 48, 44, 48, 58, 59], [98, 48, 117, 48, 44, 48, 44, 49, 58, 0, 59], [120, 48, 59, 59], [32, 116, 48, 59], [116, 48, 59, 32], [100, 48, 117, 57, 57, 57, 57, 57, 44, 59]] : List (List UInt8)).all (fun s => noneB 20 s) = true := by decide +kernel
/-- The acts and the text that the program is asked about first. -/
def awakeActs : List ActD := [⟨0, 1, false, 2, 3, ⟨#[97, 59]⟩⟩, ⟨1, 0, false, 0, 0, ⟨#[]⟩⟩, ⟨2, 2, true, 1, 0, ⟨#[]⟩⟩, ⟨5, 0, false, 4, 5, ⟨#[120]⟩⟩, ⟨7, 1, false, 0, 0, ⟨#[]⟩⟩]
def awakeText : List UInt8 := [101, 49, 64, 50, 44, 51, 44, 50, 58, 97, 59, 59, 116, 48, 59, 100, 50, 117, 49, 44, 59, 98, 48, 100, 52, 44, 53, 44, 49, 58, 120, 59, 106, 49, 59]
theorem awake_show : Good awakeActs ∧ showActs awakeActs = awakeText := by
  constructor
  · decide +kernel
  · decide +kernel
end Go.Proofs.YtjeamfoicpgkhaaDoor.Scr
