/- The law on a queue's bounds. -/
import Derived.Test.YtmhnnkifkbamoaaQAwake
import Derived.Test.YtmhnnkifkbamoaaQueues
import Derived.WalkLawsBesides
namespace Go.Proofs.Ytmhnnkifkbamoaa.QLaw
open Go.RowKit Go.Proofs.Ytmhnnkifkbamoaa.Mem Go.Proofs.Ytmhnnkifkbamoaa.Read Go.Proofs.Ytmhnnkifkbamoaa.NetQ
set_option linter.unusedVariables false
set_option linter.unusedSimpArgs false

def whole (ss : List ByteArray) : List Fr := ss.map fun s => (s, false)
theorem whole_texts (ss : List ByteArray) : (whole ss).map (·.1) = ss := by
  unfold whole
  rw [List.map_map]
  exact List.map_id _
theorem put_more (ss : List ByteArray) (k : Nat) (hk : k < ss.length) (hz : (ss[k]).size ≤ 1000064) : fits (whole ((ss.take k).take 8)) ss[k] = decide (k < 8) ∧ putS (whole ((ss.take k).take 8)) (ss[k], false) = whole ((ss.take (k + 1)).take 8) := by
  have hf : fits (whole ((ss.take k).take 8)) ss[k] = decide (k < 8) := by
    unfold fits whole
    rw [List.length_map, List.length_take, List.length_take, decide_eq_true hz, Bool.and_true]
    by_cases h : k < 8
    · rw [decide_eq_true h]; exact decide_eq_true (by omega)
    · rw [decide_eq_false h]; exact decide_eq_false (by omega)
  refine ⟨hf, ?_⟩
  unfold putS
  rw [hf]
  by_cases h : k < 8
  · rw [if_pos (decide_eq_true h), List.take_take, List.take_take, Nat.min_eq_right (by omega), Nat.min_eq_right (by omega), List.take_succ_eq_append_getElem hk]
    unfold whole
    rw [List.map_append]
    rfl
  · rw [if_neg (by simp [h]), List.take_take, List.take_take, Nat.min_eq_left (by omega), Nat.min_eq_left (by omega)]
theorem fine_whole (ss : List ByteArray) (hz : ∀ s ∈ ss, s.size ≤ 1000064) : Fine (whole (ss.take 8)) := by
  refine ⟨by unfold whole; rw [List.length_map, List.length_take]; omega, fun x hx => ?_⟩
  unfold whole at hx
  rw [List.mem_map] at hx
  obtain ⟨s, hs, rfl⟩ := hx
  exact hz s (List.mem_of_mem_take hs)
theorem take_first (x : Fr) (xs : List Fr) : takeS (x :: xs) 0 = (x.1, 0, xs) := by
  unfold takeS
  rw [dif_pos ⟨by omega, by simp⟩]
  rfl
theorem take_drop (xs : List Fr) (k : Nat) (hk : k < xs.length) : takeS (xs.drop k) 0 = ((xs[k]).1, 0, xs.drop (k + 1)) := by
  rw [List.drop_eq_getElem_cons hk, take_first]
/-- What lies in the queue behind the copy. -/
theorem bound_after (ss : List ByteArray) (hz : ∀ s ∈ ss.take 8, s.size ≤ 1000064) :
    ∃ b n ys, copyS (whole (ss.take 8)) 0 = (b, n, ys) ∧ (n == 0) = decide (0 < (ss.length : Int)) ∧ Fine ys ∧ (whole (ss.take 8)).length ≤ ys.length ∧ ys.length ≤ (whole (ss.take 8)).length + 1 ∧ ∀ k, k < min ss.length 8 → ∃ (h : k < ys.length) (h2 : k < ss.length), (ys[k]).1 = ss[k] := by
  have hl : (whole (ss.take 8)).length = min ss.length 8 := by unfold whole; rw [List.length_map, List.length_take]; omega
  have hf : Fine (whole (ss.take 8)) := by
    refine ⟨by omega, fun x hx => ?_⟩
    unfold whole at hx
    rw [List.mem_map] at hx
    obtain ⟨s, hs, rfl⟩ := hx
    exact hz s hs
  have hg : ∀ k (h : k < (whole (ss.take 8)).length) (h2 : k < ss.length), ((whole (ss.take 8))[k]).1 = ss[k] := by
    intro k h h2
    have e1 : (whole (ss.take 8))[k] = (fun s => (s, false)) ((ss.take 8)[k]'(by rw [List.length_take]; omega)) := List.getElem_map ..
    rw [e1]
    exact List.getElem_take
  cases hss : ss with
  | nil =>
    refine ⟨false, 2201, [], rfl, by decide, ⟨by simp, by simp⟩, by simp [whole], by simp [whole], fun k hk => ?_⟩
    simp at hk
  | cons s0 rest =>
    rw [← hss]
    have hpos : 0 < ss.length := by rw [hss]; simp
    have hin : inR (whole (ss.take 8)) 0 := by unfold inR; omega
    refine ⟨_, 0, _, by unfold copyS; rw [dif_pos hin], ?_, fine_put hf _, ?_, ?_, fun k hk => ?_⟩
    · rw [decide_eq_true (by omega)]; decide
    · unfold putS; split <;> simp
    · unfold putS; split <;> simp
    · have h1 : k < (whole (ss.take 8)).length := by omega
      have h2 : k < ss.length := by omega
      unfold putS
      split
      · refine ⟨by simp; omega, h2, ?_⟩
        rw [List.getElem_append_left h1]
        exact hg k h1 h2
      · exact ⟨h1, h2, hg k h1 h2⟩
end Go.Proofs.Ytmhnnkifkbamoaa.QLaw
