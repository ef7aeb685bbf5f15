/- strings.Cut at one byte, and what a taker's digits need of it. -/
import Derived.Test.YtjeamfoicpgkhaaDoorMem
import Derived.Test.YtjeamfoicpgkhaaDoorProg
import Derived.Test.YtjeamfoicpgkhaaDoorTake
import Derived.Test.YtjeamfoicpgkhaaDoorShelf
namespace Go.Proofs.YtjeamfoicpgkhaaDoor.Cut
open Go.RowKit Go.Lib Go.Proofs.YtjeamfoicpgkhaaDoor.Mem Go.Proofs.YtjeamfoicpgkhaaDoor.Dec
set_option linter.unusedVariables false
set_option linter.unusedSimpArgs false
theorem index_cut (e : UInt8) : ∀ l : List UInt8, (indexByte l e = -1 ∧ cutAt e l = none) ∨ (∃ k : Nat, indexByte l e = k ∧ k < l.length ∧ cutAt e l = some (l.take k, l.drop (k + 1)))
  | [] => .inl ⟨rfl, rfl⟩
  | b :: l => by
    by_cases h : b = e
    · subst h
      exact .inr ⟨0, by simp [indexByte], by simp, by simp [cutAt]⟩
    · have hb : (b == e) = false := beq_eq_false_iff_ne.2 h
      rcases index_cut e l with ⟨h1, h2⟩ | ⟨k, h1, h2, h3⟩
      · exact .inl ⟨by simp [indexByte, hb, h1], by simp [cutAt, h, h2]⟩
      · have hk : ((k : Int) == -1) = false := beq_eq_false_iff_ne.2 (by omega)
        exact .inr ⟨k + 1, by simp [indexByte, hb, h1, hk], by simp; omega, by simp [cutAt, h, h3]⟩
set_option maxRecDepth 100000 in
theorem index1_any (s : ByteArray) (e : UInt8) (w : World) : Calls Tryd.prog 64 #[.string s, .string ⟨#[e]⟩] w fun r w' => r = .returned (.int .i64 (indexByte s.data.toList e)) ∧ w' = w := by
  by_cases hs : s.data.toList = [e]
  · have hb : ([e] == s.toList) = true := by rw [ByteArray.toList_eq, hs]; exact beq_self_eq_true _
    have hi : indexByte s.data.toList e = 0 := by rw [hs]; simp [indexByte]
    rw [hi]
    clear hs hi
    go_enter Tryd.func64, Tryd.ntmps64
    go_wp2_with fail
    go_ret
    exact ⟨rfl, rfl⟩
  · have hb : ([e] == s.toList) = false := by rw [ByteArray.toList_eq]; exact beq_eq_false_iff_ne.2 (fun h => hs h.symm)
    have he : ((e.toNat : Nat) : Int).toNat.toUInt8 = e := by simp
    have Hhs := Lib.hid hs
    have Hhe := Lib.hid he
    clear hs he
    go_enter Tryd.func64, Tryd.ntmps64
    go_wp2_with fail
    refine (Tryd.stringslite_IndexByte s _ _).mono ?_
    rintro r w' ⟨rfl, rfl⟩
    go_wp2_with fail
    go_ret
    exact ⟨rfl, rfl⟩
theorem ext_take (s : ByteArray) (k : Nat) : s.extract 0 k = ⟨(s.data.toList.take k).toArray⟩ := by
  apply ByteArray.ext
  apply Array.ext'
  simp
theorem ext_drop (s : ByteArray) (k : Nat) : s.extract k s.size = ⟨(s.data.toList.drop k).toArray⟩ := by
  apply ByteArray.ext
  apply Array.ext'
  rw [ByteArray.data_extract, Array.toList_extract]
  show (s.data.toList.drop k).take (s.size - k) = s.data.toList.drop k
  exact List.take_of_length_le (by rw [List.length_drop, Array.length_toList]; exact Nat.le_refl _)
def CutPost (e : UInt8) (s : ByteArray) (w : World) (r : Ending) (w' : World) : Prop :=
  Step No w w' ∧ ((∃ p q, cutAt e s.data.toList = some (p, q) ∧ r = .returned (.tuple #[.string ⟨p.toArray⟩, .string ⟨q.toArray⟩, .bool true])) ∨ (cutAt e s.data.toList = none ∧ r = .returned (.tuple #[.string s, .string ⟨#[]⟩, .bool false])))
set_option maxRecDepth 100000 in
theorem cut1_any (s : ByteArray) (e : UInt8) (w : World) (hs : s.size ≤ maxLen) : Calls Tryd.prog 59 #[.string s, .string ⟨#[e]⟩] w (CutPost e s w) := by
  unfold maxLen at hs
  rcases index_cut e s.data.toList with ⟨h1, h2⟩ | ⟨k, h1, h2, h3⟩
  · have Hh2 := Lib.hid h2
    have Hhs := Lib.hid hs
    clear h2 hs
    go_enter Tryd.func59, Tryd.ntmps59
    go_wp2_with fail
    refine (index1_any s e _).mono ?_
    rintro r w' ⟨rfl, rfl⟩
    rw [h1]
    go_wp2
    go_ret3
    exact ⟨Step.refl _ _, .inr ⟨Hh2.out, rfl⟩⟩
  · have hk : (0 : Int) ≤ k := by omega
    have hl : k < s.size := by rw [Array.length_toList] at h2; exact h2
    have hk1 : (k : Int) ≤ s.size := by omega
    have hk2 : (k : Int) + 1 ≤ s.size := by omega
    have Hh2 := Lib.hid h2
    have Hh3 := Lib.hid h3
    clear h2 h3
    go_enter Tryd.func59, Tryd.ntmps59
    go_wp2_with fail
    refine (index1_any s e _).mono ?_
    rintro r w' ⟨rfl, rfl⟩
    rw [h1]
    go_wp2
    go_region
    all_goals
      go_wp2
      go_ret3
      exact ⟨(by repeat' (first | exact Step.refl _ _ | with_reducible assumption | refine Step.drew ?_ | refine Step.drewN ?_ _ | refine Step.alloc ?_ _)), .inl ⟨_, _, Hh3.out, by rw [← ext_take, ← ext_drop]; rfl⟩⟩
set_option maxRecDepth 100000 in
theorem Cut_any (s : ByteArray) (e : UInt8) (w : World) (hs : s.size ≤ maxLen) : Calls Tryd.prog 52 #[.string s, .string ⟨#[e]⟩] w (CutPost e s w) := by
  go_enter Tryd.func52, Tryd.ntmps52
  go_wp2_with fail
  refine (cut1_any s e _ hs).mono ?_
  rintro r w' ⟨hst, h⟩
  have Hhst := Lib.hid hst
  clear hst
  rcases h with ⟨p, q, h1, rfl⟩ | ⟨h1, rfl⟩
  · have Hh1 := Lib.hid h1
    clear h1
    go_wp2
    go_ret3
    exact ⟨Hhst.out, .inl ⟨p, q, Hh1.out, rfl⟩⟩
  · have Hh1 := Lib.hid h1
    clear h1
    go_wp2
    go_ret3
    exact ⟨Hhst.out, .inr ⟨Hh1.out, rfl⟩⟩
end Go.Proofs.YtjeamfoicpgkhaaDoor.Cut
