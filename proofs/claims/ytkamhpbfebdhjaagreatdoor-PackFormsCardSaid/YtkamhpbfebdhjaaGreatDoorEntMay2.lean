/- May a row of entries be? What pack.May asks of it. -/
import Derived.Test.YtkamhpbfebdhjaaGreatDoorEntMay
namespace Go.Proofs.YtkamhpbfebdhjaaGreatDoor.EntMay
open Go.RowKit Go.Lib Go.Proofs.YtkamhpbfebdhjaaGreatDoor.Mem Go.Proofs.YtkamhpbfebdhjaaGreatDoor.Read Go.Proofs.YtkamhpbfebdhjaaGreatDoor.Tree Go.Proofs.YtkamhpbfebdhjaaGreatDoor.Data Go.Proofs.YtkamhpbfebdhjaaGreatDoor.May Go.Proofs.YtkamhpbfebdhjaaGreatDoor.CompMay Go.Proofs.YtkamhpbfebdhjaaGreatDoor.CompR Go.Proofs.YtkamhpbfebdhjaaGreatDoor.MsgR Go.Proofs.YtkamhpbfebdhjaaGreatDoor.PatMay
set_option linter.unusedVariables false
set_option linter.unusedSimpArgs false
theorem badE_any (s : EntryD) (ev dv : Value) (w : World) (he : CompsR w s.edit ev) (hd : StepsR w s.delta dv) : Calls Tryz.prog 23 #[aggE s ev dv] w fun e w' => e = .returned (.bool (badE s)) ∧ Step No w w' := by
  have HX : Hid (∀ wx, Step No w wx → CompsR wx s.edit ev ∧ StepsR wx s.delta dv) := Lib.hid fun wx h => ⟨he.to h, hd.to h⟩
  obtain ⟨A, c, rfl, -, -⟩ := comps_len he
  obtain ⟨A', c', rfl, -, -⟩ := sl_len hd
  clear he hd
  unfold aggE badE
  go_enter Tryz.func23, Tryz.ntmps23
  go_wp2_with fail
  refine (entry_any s _ _ _ (HX.out _ (by repeat' (first | exact Step.refl _ _ | with_reducible assumption | refine Step.drew ?_ | refine Step.drewN ?_ _ | refine Step.alloc ?_ _))).1 (HX.out _ (by repeat' (first | exact Step.refl _ _ | with_reducible assumption | refine Step.drew ?_ | refine Step.drewN ?_ _ | refine Step.alloc ?_ _))).2).mono ?_
  rintro e w1 ⟨rfl, hs⟩
  have Hhs := Lib.hid hs
  clear hs
  go_wp2
  go_ret
  exact ⟨rfl, Step.trans (F := No) (G := No) (by repeat' (first | exact Step.refl _ _ | with_reducible assumption | refine Step.drew ?_ | refine Step.drewN ?_ _ | refine Step.alloc ?_ _)) Hhs.out (fun _ f _ => f)⟩
set_option maxHeartbeats 2000000 in
theorem indexEntries_any (xs : List EntryD) (v : Value) (w : World) (hx : EntriesR w xs v) : Calls Tryz.prog 48 #[v, .func (.func 23) #[] #[]] w (IdxPost badE xs w) := by
  obtain ⟨A, c, rfl, h1, h2⟩ := sl_len hx
  unfold maxLen at h2
  have HX := Lib.hid hx
  clear hx
  go_enter Tryz.func48, Tryz.ntmps48
  go_wp2
  go_loopw [5, 8] (fun _ i wr => ∃ k : Nat, k ≤ xs.length ∧ i = .int .i64 k ∧ (∀ x ∈ xs.take k, badE x = false) ∧ Step No w wr) (fun _ i _ => xs.length - (RowKit.intOf i).toNat)
  case atStart => exact ⟨0, Nat.zero_le _, rfl, by simp, (by repeat' (first | exact Step.refl _ _ | with_reducible assumption | refine Step.drew ?_ | refine Step.drewN ?_ _ | refine Step.alloc ?_ _))⟩
  case round =>
    obtain ⟨k, hk, rfl, hF, hs⟩ := hrel
    by_cases hlt : k < xs.length
    · obtain ⟨ad, ev, dv, rfl, hev, hdv, c0, c1, c2, c3⟩ := entries_cells (HX.out.to hs) k hlt
      have hi1 : (k : Int) < xs.length := by omega
      have hi0 : (0 : Int) ≤ k := by omega
      have HN := Lib.hid (any_take badE xs k hlt hF)
      have HA := Lib.hid (any_some (p := badE) hlt)
      generalize xs[k] = x at *
      obtain ⟨cl, sq, ed, de⟩ := x
      simp only at c0 c1 c2 c3 hev hdv
      have HhF := Lib.hid hF
      have Hhs := Lib.hid hs
      have Hhev := Lib.hid hev
      have Hhdv := Lib.hid hdv
      clear hF hs hev hdv
      go_wp2_with fail
      refine (badE_any ⟨cl, sq, ed, de⟩ ev dv _ Hhev.out Hhdv.out).mono ?_
      rintro e w1 ⟨rfl, hs1⟩
      have Hhs1 := Lib.hid hs1
      clear hs1
      cases hb : badE ⟨cl, sq, ed, de⟩ with
      | true =>
        have HA1 := Lib.hid (HA.out hb)
        clear hb
        go_wp2
        go_ret
        exact ⟨_, rfl, by rw [HA1.out]; exact decide_eq_true hi0, Hhs.out.trans Hhs1.out (fun _ f _ => f)⟩
      | false =>
        have HN1 := Lib.hid (HN.out hb)
        clear hb
        go_wp2
        go_roundw
        case rel => exact ⟨k + 1, hlt, rfl, HN1.out, Hhs.out.trans Hhs1.out (fun _ f _ => f)⟩
        case measure => simp [RowKit.intOf]; omega
    · obtain rfl : k = xs.length := by omega
      rw [List.take_length] at hF
      have HA := Lib.hid (any_none hF)
      have HhF := Lib.hid hF
      have Hhs := Lib.hid hs
      clear hF hs
      go_wp2
      go_ret
      exact ⟨_, rfl, by rw [HA.out]; rfl, Hhs.out⟩
theorem containsEntries_any (xs : List EntryD) (v : Value) (w : World) (hx : EntriesR w xs v) : Calls Tryz.prog 25 #[v, .func (.func 23) #[] #[]] w fun e w' => e = .returned (.bool (xs.any badE)) ∧ Step No w w' := by
  go_enter Tryz.func25, Tryz.ntmps25
  go_wp2_with fail
  refine (indexEntries_any xs v _ hx).mono ?_
  rintro e w1 ⟨i, rfl, hi, hs⟩
  have Hhi := Lib.hid hi
  have Hhs := Lib.hid hs
  clear hi hs
  go_wp2
  go_ret
  exact ⟨ret_bool Hhi.out, Hhs.out⟩
theorem any_entries {xs : List EntryD} : (!xs.any badE) = xs.all entryB := by
  rw [List.any_eq_not_all_not]
  simp [badE]
end Go.Proofs.YtkamhpbfebdhjaaGreatDoor.EntMay
