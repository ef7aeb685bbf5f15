/- May an entry be? The reference's answer. -/
import Derived.Test.YtjeamfoicpgkhaaGreatDoorRefStep3
import Derived.Test.YtjeamfoicpgkhaaGreatDoorLumpN
namespace Go.Proofs.YtjeamfoicpgkhaaGreatDoor.RefEntMay
open Go.RowKit Go.Lib Go.Proofs.YtjeamfoicpgkhaaGreatDoor.Mem Go.Proofs.YtjeamfoicpgkhaaGreatDoor.Read Go.Proofs.YtjeamfoicpgkhaaGreatDoor.Tree Go.Proofs.YtjeamfoicpgkhaaGreatDoor.Data Go.Proofs.YtjeamfoicpgkhaaGreatDoor.CompR Go.Proofs.YtjeamfoicpgkhaaGreatDoor.MsgR Go.Proofs.YtjeamfoicpgkhaaGreatDoor.May
open Go.Proofs.YtjeamfoicpgkhaaGreatDoor.RefStep (StepMay_ref)
open Go.Proofs.YtjeamfoicpgkhaaGreatDoor.RefNorm (CompsMay_ref)
set_option linter.unusedVariables false
set_option linter.unusedSimpArgs false
theorem cells4 {w : World} {b : Nat} {v0 v1 v2 v3 : Value} {t : TypeId} (h : w.heap[b]? = some (.cells #[v0, v1, v2, v3] t (0, 0))) :
    w.cell? ⟨b, 0, none⟩ = some v0 ∧ w.cell? ⟨b, 1, none⟩ = some v1 ∧ w.cell? ⟨b, 2, none⟩ = some v2 ∧ w.cell? ⟨b, 3, none⟩ = some v3 := ⟨blk_cell h 0, blk_cell h 1, blk_cell h 2, blk_cell h 3⟩
def headOk (cl sq : Int) : Prop := 0 ≤ cl ∧ cl < 3 ∧ 1 ≤ sq ∧ sq ≤ 4096
theorem entry_is (cl sq : Int) (ed : List CompD) (de : List StepD) : entryB ⟨cl, sq, ed, de⟩ = true ↔ headOk cl sq ∧ editB ed = true ∧ de.length ≤ 8192 ∧ ∀ s ∈ de, stepB s = true := by
  unfold headOk
  simp only [entryB, Bool.and_eq_true, decide_eq_true_eq, List.all_eq_true]
  constructor
  · rintro ⟨⟨⟨h1, h2⟩, h3⟩, h4⟩
    exact ⟨⟨h1.1, by omega, by omega, h1.2.2.2.1⟩, h2, h3, h4⟩
  · rintro ⟨h1, h2, h3, h4⟩
    exact ⟨⟨⟨⟨h1.1, by omega, by omega, h1.2.2.2, by omega⟩, h2⟩, h3⟩, h4⟩
set_option maxHeartbeats 8000000 in
set_option maxRecDepth 100000 in
theorem EntryMay_ref (e : EntryD) (ev dv : Value) (w : World) (hed : CompsR w e.edit ev) (hde : StepsR w e.delta dv) : Calls Tryz.prog 65 #[aggE e ev dv] w fun x w' => x = .returned (.bool (entryB e)) ∧ Step No w w' := by
  obtain ⟨A, n, rfl, -, -⟩ := comps_len hed
  obtain ⟨B, c, rfl, hc1, hc2⟩ := sl_len hde
  obtain ⟨cl, sq, ed, de⟩ := e
  simp only at hed hde hc1
  unfold maxLen at hc2
  unfold aggE
  simp only
  by_cases h1 : 0 ≤ cl
  rotate_left
  · have HR : Hid (entryB ⟨cl, sq, ed, de⟩ = false) := Lib.hid (by rw [← Bool.not_eq_true, entry_is]; exact (fun h => h1 h.1.1))
    go_enter Tryz.func65, Tryz.ntmps65
    go_wp2
    go_ret
    exact ⟨by rw [HR.out]; rfl, (by repeat' (first | exact Step.refl _ _ | with_reducible assumption | refine Step.drew ?_ | refine Step.drewN ?_ _ | refine Step.alloc ?_ _))⟩
  by_cases h2 : cl < 3
  rotate_left
  · have HR : Hid (entryB ⟨cl, sq, ed, de⟩ = false) := Lib.hid (by rw [← Bool.not_eq_true, entry_is]; exact (fun h => h2 h.1.2.1))
    go_enter Tryz.func65, Tryz.ntmps65
    go_wp2
    go_ret
    exact ⟨by rw [HR.out]; rfl, (by repeat' (first | exact Step.refl _ _ | with_reducible assumption | refine Step.drew ?_ | refine Step.drewN ?_ _ | refine Step.alloc ?_ _))⟩
  by_cases h3 : 1 ≤ sq
  rotate_left
  · have HR : Hid (entryB ⟨cl, sq, ed, de⟩ = false) := Lib.hid (by rw [← Bool.not_eq_true, entry_is]; exact (fun h => h3 h.1.2.2.1))
    go_enter Tryz.func65, Tryz.ntmps65
    go_wp2
    go_ret
    exact ⟨by rw [HR.out]; rfl, (by repeat' (first | exact Step.refl _ _ | with_reducible assumption | refine Step.drew ?_ | refine Step.drewN ?_ _ | refine Step.alloc ?_ _))⟩
  by_cases h4 : sq ≤ 4096
  rotate_left
  · have HR : Hid (entryB ⟨cl, sq, ed, de⟩ = false) := Lib.hid (by rw [← Bool.not_eq_true, entry_is]; exact (fun h => h4 h.1.2.2.2))
    go_enter Tryz.func65, Tryz.ntmps65
    go_wp2
    go_ret
    exact ⟨by rw [HR.out]; rfl, (by repeat' (first | exact Step.refl _ _ | with_reducible assumption | refine Step.drew ?_ | refine Step.drewN ?_ _ | refine Step.alloc ?_ _))⟩
  have HH : Hid (headOk cl sq) := Lib.hid ⟨h1, h2, h3, h4⟩
  have HEd := Lib.hid hed
  have HDe := Lib.hid hde
  clear hed hde
  have g1 : ¬ cl < 0 := by omega
  have g2 : ¬ 3 ≤ cl := by omega
  have g3 : ¬ sq < 1 := by omega
  have g4 : ¬ 4096 < sq := by omega
  go_enter Tryz.func65, Tryz.ntmps65
  go_wp2_with fail
  refine (CompsMay_ref _ ed _ (HEd.out.to (by repeat' (first | exact Step.refl _ _ | with_reducible assumption | refine Step.drew ?_ | refine Step.drewN ?_ _ | refine Step.alloc ?_ _)))).mono ?_
  rintro e w1 ⟨rfl, hs1⟩
  have HB1 := Lib.hid (hs1.blk (blk_new w _) (fun f => f))
  have HS1 : Hid (Step No w w1) := Lib.hid (((Step.refl No w).alloc _).trans hs1 (fun _ f _ => f))
  obtain ⟨a0, a1, a2, a3⟩ := cells4 HB1.out
  clear hs1
  cases hb : editB ed with
  | false =>
    have HR : Hid (entryB ⟨cl, sq, ed, de⟩ = false) := Lib.hid (by rw [← Bool.not_eq_true, entry_is]; exact fun h => by have := h.2.1; rw [hb] at this; cases this)
    clear hb
    go_wp2
    go_ret
    exact ⟨by rw [HR.out]; rfl, HS1.out⟩
  | true =>
    have HEb := Lib.hid hb
    clear hb
    by_cases hl : de.length ≤ 8192
    · have g5 : ¬ (8192 : Int) < de.length := by omega
      go_wp2
      go_loopw [3] (fun i wr => ∃ k : Nat, k ≤ de.length ∧ i = .int .i64 k ∧ (∀ s ∈ de.take k, stepB s = true) ∧ Step No w1 wr) (fun i _ => de.length - (RowKit.intOf i).toNat)
      case atStart => exact ⟨0, Nat.zero_le _, rfl, fun s hs => by simp at hs, Step.refl _ _⟩
      case round =>
        obtain ⟨k, hk, rfl, hall, hs⟩ := hrel
        clear a0 a1 a2 a3
        obtain ⟨a0, a1, a2, a3⟩ := cells4 (hs.blk HB1.out (fun f => f))
        by_cases hlt : k < de.length
        · obtain ⟨ad, kv, rfl, hkv, c0, c1, c2, c3, c4, c5⟩ := steps_cells (HDe.out.to (HS1.out.trans hs (fun _ f _ => f))) k hlt
          have hi0 : (0 : Int) ≤ k := by omega
          have hi1 : (k : Int) < de.length := by omega
          have HAll := Lib.hid hall
          have HIn := Lib.hid (List.getElem_mem hlt)
          have HTk := Lib.hid (List.take_succ_eq_append_getElem hlt)
          generalize de[k] = x at *
          obtain ⟨Ak, ck, rfl, -, -⟩ := sl_len hkv
          obtain ⟨kd, id, no, fr, up, ks⟩ := x
          simp only at c0 c1 c2 c3 c4 c5 hkv
          have HKv := Lib.hid hkv
          clear hkv hall
          have Hhs := Lib.hid hs
          clear hs
          go_wp2_with fail
          refine (StepMay_ref ⟨kd, id, no, fr, up, ks⟩ _ _ HKv.out).mono ?_
          rintro e w2 ⟨rfl, hs2⟩
          have HS2 : Hid (Step No w1 w2) := Lib.hid (Hhs.out.trans hs2 (fun _ f _ => f))
          clear hs2
          cases hsb : stepB ⟨kd, id, no, fr, up, ks⟩ with
          | false =>
            have HR : Hid (entryB ⟨cl, sq, ed, de⟩ = false) := Lib.hid (by rw [← Bool.not_eq_true, entry_is]; exact fun h => by have := h.2.2.2 _ HIn.out; rw [hsb] at this; cases this)
            clear hsb
            go_wp2
            go_ret
            exact ⟨by rw [HR.out]; rfl, HS1.out.trans HS2.out (fun _ f _ => f)⟩
          | true =>
            have HSb := Lib.hid hsb
            clear hsb
            go_wp2
            go_roundw
            case rel => exact ⟨k + 1, hlt, rfl, fun s hs => by
                rw [HTk.out] at hs
                rcases List.mem_append.1 hs with hs | hs
                · exact HAll.out s hs
                · simp at hs
                  subst hs
                  exact HSb.out, HS2.out⟩
            case measure => simp [RowKit.intOf]; omega
        · obtain rfl : k = de.length := by omega
          rw [List.take_length] at hall
          have HR : Hid (entryB ⟨cl, sq, ed, de⟩ = true) := Lib.hid (by rw [entry_is]; exact ⟨HH.out, HEb.out, hl, hall⟩)
          clear hall
          have Hhs := Lib.hid hs
          clear hs
          go_wp2
          go_ret
          exact ⟨by rw [HR.out]; rfl, HS1.out.trans Hhs.out (fun _ f _ => f)⟩
    · have g5 : (8192 : Int) < de.length := by omega
      have HR : Hid (entryB ⟨cl, sq, ed, de⟩ = false) := Lib.hid (by rw [← Bool.not_eq_true, entry_is]; exact fun h => hl h.2.2.1)
      clear hl
      go_wp2
      go_ret
      exact ⟨by rw [HR.out]; rfl, HS1.out⟩
end Go.Proofs.YtjeamfoicpgkhaaGreatDoor.RefEntMay
