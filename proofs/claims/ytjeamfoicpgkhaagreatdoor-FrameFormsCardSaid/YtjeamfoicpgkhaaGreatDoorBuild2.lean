/- What a writer of packed texts holds, as a string. -/
import Derived.Test.YtjeamfoicpgkhaaGreatDoorBuild
import Derived.Shelf.Strings.Builder1
namespace Go.Proofs.YtjeamfoicpgkhaaGreatDoor.Build
open Go.RowKit Go.Lib Go.Proofs.YtjeamfoicpgkhaaGreatDoor.Mem Go.Proofs.YtjeamfoicpgkhaaGreatDoor.AppStr
set_option linter.unusedVariables false
set_option linter.unusedSimpArgs false
theorem cells_u8 : Tryz.prog.cellsOf 5 = 1 := by kernel_rfl
theorem step_freeze {ok : Nat → Prop} {w w1 : World} {g : Nat} (h : Step ok w w1) (hg : ok g) (n : Nat) : Step ok w (w1.freeze ⟨g, 0, none⟩ n) := by
  have hb := Lib.below_freeze (Below.refl g w1) (p := ⟨g, 0, none⟩) (Nat.le_refl g) n
  refine ⟨hb.os.trans h.os, hb.tape.trans h.tape, hb.output.trans h.output, Nat.le_trans h.size hb.size, fun i hi hF => ?_⟩
  rw [← h.block i hi hF]
  have hne : i ≠ g := fun e => hF (e ▸ hg)
  simp only [World.freeze]
  split <;> simp_all [Array.getElem?_modify]
  intro e
  exact absurd e.symm hne
set_option maxHeartbeats 2000000 in
set_option maxRecDepth 100000 in
theorem String_any (ok : Nat → Prop) (w : World) (b : Nat) (l : List UInt8) (h : WRep ok w b l) :
    Calls Tryz.prog 41 #[.pointer (some ⟨b, 0, none⟩)] w fun e w' => e = .returned (.string ⟨l.toArray⟩) ∧ Step ok w w' := by
  obtain ⟨p, v, hbk, _, hok, hown, hv⟩ := h
  have hlt := blk_lt hbk
  rcases hown.2 with ⟨rfl, h0⟩ | ⟨g, cap, cur, rfl, _, hg, hnc, hcm, hcs, htake⟩
  · obtain rfl : l = [] := List.eq_nil_of_length_eq_zero h0
    have hUS : ∀ (W : World) (q : Option Addr), (Builtin.unsafeString_ #[132, 3] 9 #[.pointer q, .int .i64 0]).run Tryz.prog W = .ok (.string .empty) W := fun W q => Lib.run_unsafeString_none W _ _ _ q
    have c1 : w.drew.cell? ⟨b, 1, none⟩ = some (.slice none 0 0) := by
      have : w.drew.heap[b]? = some (.cells #[p, .slice none 0 0] TW (0, 0)) := hbk
      rw [blk_cell this]; rfl
    have hSD : (Builtin.unsafeSliceData_ #[59] 132 #[.slice none 0 0]).run Tryz.prog w.drew = .ok (.pointer none) w.drew := rfl
    have Hhbk := Lib.hid hbk
    have Hhown := Lib.hid hown
    have Hhv := Lib.hid hv
    clear hbk hown hv
    clear hlt
    go_enter Tryz.func41, Tryz.ntmps41
    go_wp2
    go_region
    all_goals (go_wp2; go_ret; exact ⟨rfl, (by repeat' (first | exact Step.refl _ _ | with_reducible assumption | refine Step.drew ?_ | refine Step.drewN ?_ _ | refine Step.alloc ?_ _))⟩)
  · by_cases hl0 : l = []
    · subst hl0
      have hUS : ∀ (W : World) (q : Option Addr), (Builtin.unsafeString_ #[132, 3] 9 #[.pointer q, .int .i64 0]).run Tryz.prog W = .ok (.string .empty) W := fun W q => Lib.run_unsafeString_none W _ _ _ q
      have c1 : w.drew.cell? ⟨b, 1, none⟩ = some (.slice (some ⟨g, 0, none⟩) 0 cap) := by
        have : w.drew.heap[b]? = some (.cells #[p, .slice (some ⟨g, 0, none⟩) 0 cap] TW (0, 0)) := hbk
        rw [blk_cell this]; rfl
      by_cases hc0 : cap = 0
      · subst hc0
        have hSD : (Builtin.unsafeSliceData_ #[59] 132 #[.slice (some ⟨g, 0, none⟩) 0 0]).run Tryz.prog w.drew = .ok (.pointer (some ⟨w.drew.heap.size, 0, none⟩)) (w.drew.alloc (.view ⟨g, 0, none⟩ 5)) :=
          Lib.run_unsafeSliceData_zero w.drew _ _ 5 Tryz.underlying132 ⟨g, 0, none⟩ 0 (5, cur.size) (by have hg' : w.drew.heap[g]? = some (.cells cur 5 (0, 0)) := hg; simp [World.shape?, hg'])
        have c2 : (w.drew.alloc (.view ⟨g, 0, none⟩ 5)).cell? ⟨b, 1, none⟩ = some (.slice (some ⟨g, 0, none⟩) 0 0) := by
          have : (w.drew.alloc (.view ⟨g, 0, none⟩ 5)).heap[b]? = _ := (Lib.alloc_old w.drew _ b hlt).trans hbk
          rw [blk_cell this]; rfl
        have c3 : (w.alloc (.view ⟨g, 0, none⟩ 5)).drew.cell? ⟨b, 1, none⟩ = some (.slice (some ⟨g, 0, none⟩) 0 0) := c2
        have c0 : w.cell? ⟨b, 1, none⟩ = some (.slice (some ⟨g, 0, none⟩) 0 0) := c1
        have Hhbk := Lib.hid hbk
        have Hhown := Lib.hid hown
        have Hhv := Lib.hid hv
        have Hhg := Lib.hid hg
        clear hbk hown hv hg
        clear hlt hcs htake hnc hcm
        go_enter Tryz.func41, Tryz.ntmps41
        go_wp2
        go_region
        all_goals (go_wp2; go_ret; exact ⟨rfl, (by repeat' (first | exact Step.refl _ _ | with_reducible assumption | refine Step.drew ?_ | refine Step.drewN ?_ _ | refine Step.alloc ?_ _))⟩)
      · have hSD : (Builtin.unsafeSliceData_ #[59] 132 #[.slice (some ⟨g, 0, none⟩) 0 cap]).run Tryz.prog w.drew = .ok (.pointer (some ⟨g, 0, none⟩)) w.drew :=
          Lib.run_unsafeSliceData_row _ _ _ _ _ _ hc0
        have Hhbk := Lib.hid hbk
        have Hhown := Lib.hid hown
        have Hhv := Lib.hid hv
        have Hhg := Lib.hid hg
        clear hbk hown hv hg
        clear hc0 hlt hcs htake hnc hcm
        go_enter Tryz.func41, Tryz.ntmps41
        go_wp2
        go_region
        all_goals (go_wp2; go_ret; exact ⟨rfl, (by repeat' (first | exact Step.refl _ _ | with_reducible assumption | refine Step.drew ?_ | refine Step.drewN ?_ _ | refine Step.alloc ?_ _))⟩)
    · have hn0 : l.length ≠ 0 := fun e => hl0 (List.eq_nil_of_length_eq_zero e)
      have c1 : w.drew.cell? ⟨b, 1, none⟩ = some (.slice (some ⟨g, 0, none⟩) l.length cap) := by
        have : w.drew.heap[b]? = some (.cells #[p, .slice (some ⟨g, 0, none⟩) l.length cap] TW (0, 0)) := hbk
        rw [blk_cell this]; rfl
      have hSD : (Builtin.unsafeSliceData_ #[59] 132 #[.slice (some ⟨g, 0, none⟩) l.length cap]).run Tryz.prog w.drew = .ok (.pointer (some ⟨g, 0, none⟩)) w.drew :=
        Lib.run_unsafeSliceData_row _ _ _ _ _ _ (by omega)
      have hUS : (Builtin.unsafeString_ #[132, 3] 9 #[.pointer (some ⟨g, 0, none⟩), .int .i64 l.length]).run Tryz.prog w.drew = .ok (.string ⟨l.toArray⟩) (w.drew.freeze ⟨g, 0, none⟩ l.length) := by
        refine Lib.run_unsafeString_row w.drew 132 3 9 5 Tryz.underlying132 cells_u8 g cur.size (by have hg' : w.drew.heap[g]? = some (.cells cur 5 (0, 0)) := hg; simp [World.shape?, hg']) l hl0 (by omega) (by unfold maxLen at hcm; omega) ?_
        intro j x hx
        have := hown.cells (g := g) rfl j (.int .u8 x.toNat) (by simp [Lib.byteCells, hx])
        exact this
      have hokg := hv g rfl
      have Hhbk := Lib.hid hbk
      have Hhown := Lib.hid hown
      have Hhv := Lib.hid hv
      have Hhg := Lib.hid hg
      clear hbk hown hv hg
      clear hn0 hlt hcs htake hnc hcm
      go_enter Tryz.func41, Tryz.ntmps41
      go_wp2
      go_region
      all_goals (go_wp2; go_ret; exact ⟨rfl, step_freeze (by repeat' (first | exact Step.refl _ _ | with_reducible assumption | refine Step.drew ?_ | refine Step.drewN ?_ _ | refine Step.alloc ?_ _)) hokg _⟩)
end Go.Proofs.YtjeamfoicpgkhaaGreatDoor.Build
