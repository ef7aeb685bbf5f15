/- May an entry be? The program's answer. -/
import Derived.Test.YtkamhpbfebdhjaaGreatDoorPatMay
namespace Go.Proofs.YtkamhpbfebdhjaaGreatDoor.EntMay
open Go.RowKit Go.Lib Go.Proofs.YtkamhpbfebdhjaaGreatDoor.Mem Go.Proofs.YtkamhpbfebdhjaaGreatDoor.Read Go.Proofs.YtkamhpbfebdhjaaGreatDoor.Tree Go.Proofs.YtkamhpbfebdhjaaGreatDoor.Data Go.Proofs.YtkamhpbfebdhjaaGreatDoor.May Go.Proofs.YtkamhpbfebdhjaaGreatDoor.CompMay Go.Proofs.YtkamhpbfebdhjaaGreatDoor.CompR Go.Proofs.YtkamhpbfebdhjaaGreatDoor.MsgR Go.Proofs.YtkamhpbfebdhjaaGreatDoor.PatMay
set_option linter.unusedVariables false
set_option linter.unusedSimpArgs false
theorem upTo_any (x m : Int) (w : World) : Calls Tryz.prog 21 #[.int .i64 x, .int .i64 m] w fun e w' => e = .returned (.bool (upB x m)) ∧ w = w' := by
  unfold upB
  by_cases h1 : 0 ≤ x
  · have HE : Hid (decide (0 ≤ x ∧ x ≤ m) = decide (x ≤ m)) := Lib.hid (by simp [h1])
    rw [HE.out]
    go_enter Tryz.func21, Tryz.ntmps21
    go_wp2
    go_ret
    exact ⟨rfl, rfl⟩
  · have HE : Hid (decide (0 ≤ x ∧ x ≤ m) = false) := Lib.hid (by simp [h1])
    rw [HE.out]
    go_enter Tryz.func21, Tryz.ntmps21
    go_wp2
    go_ret
    exact ⟨rfl, rfl⟩
def badS (s : StepD) : Bool := !stepB s
def badE (e : EntryD) : Bool := !entryB e
theorem badS_any (s : StepD) (kv : Value) (w : World) (hx : SlR 1 intR w s.kids kv) : Calls Tryz.prog 45 #[aggS s kv] w fun e w' => e = .returned (.bool (badS s)) ∧ Step No w w' := by
  have HX : Hid (∀ wx, Step No w wx → SlR 1 intR wx s.kids kv) := Lib.hid fun wx h => ints_to hx h
  clear hx
  unfold aggS badS
  go_enter Tryz.func45, Tryz.ntmps45
  go_wp2_with fail
  refine (step_any s kv _ (HX.out _ (by repeat' (first | exact Step.refl _ _ | with_reducible assumption | refine Step.drew ?_ | refine Step.drewN ?_ _ | refine Step.alloc ?_ _)))).mono ?_
  rintro e w1 ⟨rfl, hs⟩
  have Hhs := Lib.hid hs
  clear hs
  go_wp2
  go_ret
  exact ⟨rfl, Step.trans (F := No) (G := No) (by repeat' (first | exact Step.refl _ _ | with_reducible assumption | refine Step.drew ?_ | refine Step.drewN ?_ _ | refine Step.alloc ?_ _)) Hhs.out (fun _ f _ => f)⟩
set_option maxHeartbeats 2000000 in
theorem indexSteps_any (xs : List StepD) (v : Value) (w : World) (hx : StepsR w xs v) : Calls Tryz.prog 76 #[v, .func (.func 45) #[] #[]] w (IdxPost badS xs w) := by
  obtain ⟨A, c, rfl, h1, h2⟩ := sl_len hx
  unfold maxLen at h2
  have HX := Lib.hid hx
  clear hx
  go_enter Tryz.func76, Tryz.ntmps76
  go_wp2
  go_loopw [5, 8] (fun _ i wr => ∃ k : Nat, k ≤ xs.length ∧ i = .int .i64 k ∧ (∀ x ∈ xs.take k, badS x = false) ∧ Step No w wr) (fun _ i _ => xs.length - (RowKit.intOf i).toNat)
  case atStart => exact ⟨0, Nat.zero_le _, rfl, by simp, (by repeat' (first | exact Step.refl _ _ | with_reducible assumption | refine Step.drew ?_ | refine Step.drewN ?_ _ | refine Step.alloc ?_ _))⟩
  case round =>
    obtain ⟨k, hk, rfl, hF, hs⟩ := hrel
    by_cases hlt : k < xs.length
    · obtain ⟨ad, kv, rfl, hkv, c0, c1, c2, c3, c4, c5⟩ := steps_cells (HX.out.to hs) k hlt
      have hi1 : (k : Int) < xs.length := by omega
      have hi0 : (0 : Int) ≤ k := by omega
      have HN := Lib.hid (any_take badS xs k hlt hF)
      have HA := Lib.hid (any_some (p := badS) hlt)
      generalize xs[k] = x at *
      obtain ⟨q, i, n, f, u, ks⟩ := x
      simp only at c0 c1 c2 c3 c4 hkv
      have HhF := Lib.hid hF
      have Hhs := Lib.hid hs
      have Hhkv := Lib.hid hkv
      clear hF hs hkv
      go_wp2_with fail
      refine (badS_any ⟨q, i, n, f, u, ks⟩ kv _ Hhkv.out).mono ?_
      rintro e w1 ⟨rfl, hs1⟩
      have Hhs1 := Lib.hid hs1
      clear hs1
      cases hb : badS ⟨q, i, n, f, u, ks⟩ with
      | true =>
        have HA1 := Lib.hid (HA.out hb)
        clear hb
        go_wp2
        go_ret
        exact ⟨_, rfl, by rw [HA1.out]; exact decide_eq_true hi0, Hhs.out.trans Hhs1.out (fun _ f _ => f)⟩
      | false =>
        have HN1 := Lib.hid (HN.out hb)
        clear hb
        go_wp2
        go_roundw
        case rel => exact ⟨k + 1, hlt, rfl, HN1.out, Hhs.out.trans Hhs1.out (fun _ f _ => f)⟩
        case measure => simp [RowKit.intOf]; omega
    · obtain rfl : k = xs.length := by omega
      rw [List.take_length] at hF
      have HA := Lib.hid (any_none hF)
      have HhF := Lib.hid hF
      have Hhs := Lib.hid hs
      clear hF hs
      go_wp2
      go_ret
      exact ⟨_, rfl, by rw [HA.out]; rfl, Hhs.out⟩
theorem containsSteps_any (xs : List StepD) (v : Value) (w : World) (hx : StepsR w xs v) : Calls Tryz.prog 47 #[v, .func (.func 45) #[] #[]] w fun e w' => e = .returned (.bool (xs.any badS)) ∧ Step No w w' := by
  go_enter Tryz.func47, Tryz.ntmps47
  go_wp2_with fail
  refine (indexSteps_any xs v _ hx).mono ?_
  rintro e w1 ⟨i, rfl, hi, hs⟩
  have Hhi := Lib.hid hi
  have Hhs := Lib.hid hs
  clear hi hs
  go_wp2
  go_ret
  exact ⟨ret_bool Hhi.out, Hhs.out⟩
theorem any_steps {xs : List StepD} : (!xs.any badS) = xs.all stepB := by
  rw [List.any_eq_not_all_not]
  simp [badS]
abbrev TE : TypeId := 39
set_option maxHeartbeats 4000000 in
set_option maxRecDepth 100000 in
theorem entry_any (e : EntryD) (ev dv : Value) (w : World) (he : CompsR w e.edit ev) (hd : StepsR w e.delta dv) : Calls Tryz.prog 24 #[aggE e ev dv] w fun r w' => r = .returned (.bool (entryB e)) ∧ Step No w w' := by
  obtain ⟨cl, sq, ed, de⟩ := e
  unfold aggE
  simp only at *
  obtain ⟨A, c, rfl, h1, h2⟩ := comps_len he
  obtain ⟨A', c', rfl, g1, g2⟩ := sl_len hd
  clear h1 h2 g1 g2
  have HE : Hid (∀ wx, Step No w wx → CompsR wx ed (.slice A ed.length c)) := Lib.hid fun wx h => he.to h
  have HD : Hid (∀ wx, Step No w wx → StepsR wx de (.slice A' de.length c')) := Lib.hid fun wx h => hd.to h
  have HB : Hid (∀ wx, Step No (w.alloc (.cells #[.int .i64 cl, .int .i64 sq, .slice A ed.length c, .slice A' de.length c'] TE)) wx → wx.cell? ⟨w.heap.size, 3, none⟩ = some (.slice A' de.length c')) := Lib.hid fun wx h => h.cell (blk_cell (blk_new _ _) 3) (fun f => f)
  clear he hd
  go_enter Tryz.func24, Tryz.ntmps24
  go_wp2_with fail
  refine (upTo_any cl 2 _).mono ?_
  rintro e w' ⟨rfl, rfl⟩
  cases b1 : upB cl 2 with
  | false =>
    have HN : Hid (entryB ⟨cl, sq, ed, de⟩ = false) := Lib.hid (by simp [entryB, upB] at b1 ⊢; omega)
    go_wp2
    go_ret
    exact ⟨ret_bool HN.out.symm, (by repeat' (first | exact Step.refl _ _ | with_reducible assumption | refine Step.drew ?_ | refine Step.drewN ?_ _ | refine Step.alloc ?_ _))⟩
  | true =>
    have B1 := Lib.hid b1
    clear b1
    go_wp2_with fail
    refine (upTo_any sq 4096 _).mono ?_
    rintro e w' ⟨rfl, rfl⟩
    cases b2 : upB sq 4096 with
    | false =>
      have HN : Hid (entryB ⟨cl, sq, ed, de⟩ = false) := Lib.hid (by simp [entryB, upB] at b2 ⊢; omega)
      go_wp2
      go_ret
      exact ⟨ret_bool HN.out.symm, (by repeat' (first | exact Step.refl _ _ | with_reducible assumption | refine Step.drew ?_ | refine Step.drewN ?_ _ | refine Step.alloc ?_ _))⟩
    | true =>
      have B2 := Lib.hid b2
      clear b2
      by_cases h0 : 0 < sq
      · go_wp2_with fail
        refine (may_any ed _ _ (HE.out _ (by repeat' (first | exact Step.refl _ _ | with_reducible assumption | refine Step.drew ?_ | refine Step.drewN ?_ _ | refine Step.alloc ?_ _)))).mono ?_
        rintro e w1 ⟨rfl, hs⟩
        have d3 := HB.out _ hs
        cases b3 : editB ed with
        | false =>
          have Hhs := Lib.hid hs
          clear hs
          have HN : Hid (entryB ⟨cl, sq, ed, de⟩ = false) := Lib.hid (by simp [entryB, b3])
          go_wp2
          go_ret
          exact ⟨ret_bool HN.out.symm, (Step.trans (F := No) (G := No) (by repeat' (first | exact Step.refl _ _ | with_reducible assumption | refine Step.drew ?_ | refine Step.drewN ?_ _ | refine Step.alloc ?_ _)) Hhs.out (fun _ f _ => f))⟩
        | true =>
          have B3 := Lib.hid b3
          clear b3
          by_cases hl : de.length ≤ 8192
          · have hb : decide ((de.length : Int) ≤ 8192) = true := decide_eq_true (by omega)
            have Hhs := Lib.hid hs
            clear hs
            go_wp2_with fail
            refine (containsSteps_any de _ _ (HD.out _ (Step.trans (F := No) (G := No) (by repeat' (first | exact Step.refl _ _ | with_reducible assumption | refine Step.drew ?_ | refine Step.drewN ?_ _ | refine Step.alloc ?_ _)) Hhs.out (fun _ f _ => f)))).mono ?_
            rintro e w2 ⟨rfl, hs2⟩
            have HN : Hid (entryB ⟨cl, sq, ed, de⟩ = !de.any badS) := Lib.hid (by
              have c1 := of_decide_eq_true B1.out
              have c2 := of_decide_eq_true B2.out
              rw [any_steps]
              unfold entryB
              rw [B3.out, decide_eq_true hl, decide_eq_true ⟨c1.1, c1.2, c2.1, c2.2, h0⟩]
              rfl)
            have Hhs2 := Lib.hid hs2
            clear hs2
            go_wp2
            go_ret
            exact ⟨ret_bool HN.out.symm, (Step.trans (F := No) (G := No) (by repeat' (first | exact Step.refl _ _ | with_reducible assumption | refine Step.drew ?_ | refine Step.drewN ?_ _ | refine Step.alloc ?_ _)) (Hhs.out.trans Hhs2.out (fun _ f _ => f)) (fun _ f _ => f))⟩
          · have hb : decide ((de.length : Int) ≤ 8192) = false := decide_eq_false (by omega)
            have Hhs := Lib.hid hs
            clear hs
            have HN : Hid (entryB ⟨cl, sq, ed, de⟩ = false) := Lib.hid (by simp [entryB, hl])
            go_wp2
            go_ret
            exact ⟨ret_bool HN.out.symm, (Step.trans (F := No) (G := No) (by repeat' (first | exact Step.refl _ _ | with_reducible assumption | refine Step.drew ?_ | refine Step.drewN ?_ _ | refine Step.alloc ?_ _)) Hhs.out (fun _ f _ => f))⟩
      · have HN : Hid (entryB ⟨cl, sq, ed, de⟩ = false) := Lib.hid (by simp [entryB, h0])
        go_wp2
        go_ret
        exact ⟨ret_bool HN.out.symm, (by repeat' (first | exact Step.refl _ _ | with_reducible assumption | refine Step.drew ?_ | refine Step.drewN ?_ _ | refine Step.alloc ?_ _))⟩
end Go.Proofs.YtkamhpbfebdhjaaGreatDoor.EntMay
