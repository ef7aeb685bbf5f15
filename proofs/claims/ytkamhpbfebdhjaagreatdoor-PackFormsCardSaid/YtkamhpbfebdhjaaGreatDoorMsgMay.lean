/- May a message be? The program's answer. -/
import Derived.Test.YtkamhpbfebdhjaaGreatDoorEntMay2
import Derived.Test.YtkamhpbfebdhjaaGreatDoorParMay
namespace Go.Proofs.YtkamhpbfebdhjaaGreatDoor.MsgMay
open Go.RowKit Go.Lib Go.Proofs.YtkamhpbfebdhjaaGreatDoor.Mem Go.Proofs.YtkamhpbfebdhjaaGreatDoor.Read Go.Proofs.YtkamhpbfebdhjaaGreatDoor.Tree Go.Proofs.YtkamhpbfebdhjaaGreatDoor.Data Go.Proofs.YtkamhpbfebdhjaaGreatDoor.May Go.Proofs.YtkamhpbfebdhjaaGreatDoor.CompMay Go.Proofs.YtkamhpbfebdhjaaGreatDoor.CompR Go.Proofs.YtkamhpbfebdhjaaGreatDoor.MsgR Go.Proofs.YtkamhpbfebdhjaaGreatDoor.PatMay Go.Proofs.YtkamhpbfebdhjaaGreatDoor.EntMay
set_option linter.unusedVariables false
set_option linter.unusedSimpArgs false
abbrev TM : TypeId := 33
theorem msg_head {m : MsgD} (h : headB m = false) : msgB m = false := by unfold msgB; rw [h, Bool.false_and]
theorem head_of {m : MsgD} (h1 : upB m.client 2 = true) (h2 : upB m.rev 4096 = true) (h3 : upB m.seq 4096 = true) : headB m = true := by unfold headB; rw [h1, h2, h3]; rfl
theorem msg_poll {m : MsgD} (h : headB m = true) (hk : m.kind = 0) : msgB m = (noneB m && decide (m.entries.length = 0) && editB m.edit && decide (0 < m.seq ∨ m.edit.length = 0)) := by unfold msgB; rw [h, Bool.true_and, if_pos hk]; rfl
theorem msg_chg {m : MsgD} (h : headB m = true) (hk : m.kind = 1) : msgB m = (noneB m && decide (m.edit.length = 0 ∧ m.seq = 0 ∧ m.entries.length ≤ 3) && m.entries.all entryB) := by
  unfold msgB; rw [h, Bool.true_and, if_neg (by rw [hk]; decide), if_pos hk]; rfl
theorem msg_snap {m : MsgD} (h : headB m = true) (hk : m.kind = 2) : msgB m = (decide (m.edit.length = 0 ∧ m.entries.length = 0) && upB m.fr 4096 && upB m.last 4096 && decide (m.text.size ≤ 300) && treeB m.tree m.text.size) := by
  unfold msgB; rw [h, Bool.true_and, if_neg (by rw [hk]; decide), if_neg (by rw [hk]; decide), if_pos hk]; rfl
theorem msg_else {m : MsgD} (h0 : m.kind ≠ 0) (h1 : m.kind ≠ 1) (h2 : m.kind ≠ 2) : msgB m = false := by unfold msgB; rw [if_neg h0, if_neg h1, if_neg h2, Bool.and_false]
structure MC (w : World) (b : Nat) (m : MsgD) (ev env nv : Value) : Prop where
  c0 : w.cell? ⟨b, 0, none⟩ = some (.int .i64 m.kind)
  c1 : w.cell? ⟨b, 1, none⟩ = some (.int .i64 m.client)
  c2 : w.cell? ⟨b, 2, none⟩ = some (.int .i64 m.rev)
  c3 : w.cell? ⟨b, 3, none⟩ = some (.int .i64 m.seq)
  c4 : w.cell? ⟨b, 4, none⟩ = some (.int .i64 m.fr)
  c5 : w.cell? ⟨b, 5, none⟩ = some (.int .i64 m.last)
  c6 : w.cell? ⟨b, 6, none⟩ = some (.bool m.refused)
  c7 : w.cell? ⟨b, 7, none⟩ = some ev
  c8 : w.cell? ⟨b, 8, none⟩ = some env
  c9 : w.cell? ⟨b, 9, none⟩ = some (.string m.text)
  c10 : w.cell? ⟨b, 10, none⟩ = some (.int .i64 m.tree.root)
  c11 : w.cell? ⟨b, 11, none⟩ = some (.int .i64 m.tree.next)
  c12 : w.cell? ⟨b, 12, none⟩ = some nv
theorem MC.of {w : World} {b : Nat} {m : MsgD} {ev env nv : Value} (h : w.heap[b]? = some (.cells (msgCells m ev env nv) TM (0, 0))) : MC w b m ev env nv :=
  ⟨blk_cell h 0, blk_cell h 1, blk_cell h 2, blk_cell h 3, blk_cell h 4, blk_cell h 5, blk_cell h 6, blk_cell h 7, blk_cell h 8, blk_cell h 9, blk_cell h 10, blk_cell h 11, blk_cell h 12⟩
set_option maxHeartbeats 16000000 in
set_option maxRecDepth 100000 in
theorem may_any (m : MsgD) (ev env nv : Value) (w : World) (hm : MsgR w m ev env nv) (hr : ParMay.RngN m.tree.nodes) : Calls Tryz.prog 6 #[aggM m ev env nv] w fun e w' => e = .returned (.bool (msgB m)) ∧ Step No w w' := by
  obtain ⟨A, c, rfl, -, -⟩ := comps_len hm.edit
  obtain ⟨A', c', rfl, -, -⟩ := sl_len hm.entries
  obtain ⟨A'', c'', rfl, -, -⟩ := nodes_len hm.nodes
  have hte := empty_is m.text
  obtain ⟨k, cl, rv, sq, fm, ls, rf, es, en, tx, ⟨rt, nx, ns⟩⟩ := m
  unfold aggM msgCells
  simp only at *
  have HM : Hid (∀ wx, Step No w wx → MsgR wx ⟨k, cl, rv, sq, fm, ls, rf, es, en, tx, ⟨rt, nx, ns⟩⟩ (.slice A es.length c) (.slice A' en.length c') (.slice A'' ns.length c'')) := Lib.hid fun wx h => hm.to h
  have htz := hm.text
  simp only at htz
  have HRn := Lib.hid hr
  clear hm hr
  go_enter Tryz.func6, Tryz.ntmps6
  go_wp2_with fail
  have hs1 : Step No w (w.alloc (.cells (msgCells ⟨k, cl, rv, sq, fm, ls, rf, es, en, tx, ⟨rt, nx, ns⟩⟩ (.slice A es.length c) (.slice A' en.length c') (.slice A'' ns.length c'')) TM)) := Step.alloc (Step.refl _ _) _
  have hc1 : MC (w.alloc (.cells (msgCells ⟨k, cl, rv, sq, fm, ls, rf, es, en, tx, ⟨rt, nx, ns⟩⟩ (.slice A es.length c) (.slice A' en.length c') (.slice A'' ns.length c'')) TM)) w.heap.size ⟨k, cl, rv, sq, fm, ls, rf, es, en, tx, ⟨rt, nx, ns⟩⟩ (.slice A es.length c) (.slice A' en.length c') (.slice A'' ns.length c'') := MC.of (blk_new _ _)
  simp only [msgCells] at hs1 hc1
  generalize hW : World.alloc w _ = w1 at *
  clear hW
  generalize w.heap.size = b at *
  obtain ⟨m0, m1, m2, m3, m4, m5, m6, m7, m8, m9, m10, m11, m12⟩ := hc1
  simp only at m0 m1 m2 m3 m4 m5 m6 m7 m8 m9 m10 m11 m12
  have HS1 := Lib.hid hs1
  clear hs1
  refine (upTo_any cl 2 _).mono ?_
  rintro e w' ⟨rfl, rfl⟩
  cases b1 : upB cl 2 with
  | false =>
    have HN : Hid (msgB ⟨k, cl, rv, sq, fm, ls, rf, es, en, tx, ⟨rt, nx, ns⟩⟩ = false) := Lib.hid (msg_head (by simp [headB, b1]))
    go_wp2
    go_ret
    exact ⟨ret_bool HN.out.symm, HS1.out⟩
  | true =>
    have B1 := Lib.hid b1
    clear b1
    go_wp2_with fail
    refine (upTo_any rv 4096 _).mono ?_
    rintro e w' ⟨rfl, rfl⟩
    cases b2 : upB rv 4096 with
    | false =>
      have HN : Hid (msgB ⟨k, cl, rv, sq, fm, ls, rf, es, en, tx, ⟨rt, nx, ns⟩⟩ = false) := Lib.hid (msg_head (by simp [headB, b2]))
      go_wp2
      go_ret
      exact ⟨ret_bool HN.out.symm, HS1.out⟩
    | true =>
      have B2 := Lib.hid b2
      clear b2
      go_wp2_with fail
      refine (upTo_any sq 4096 _).mono ?_
      rintro e w' ⟨rfl, rfl⟩
      cases b3 : upB sq 4096 with
      | false =>
        have HN : Hid (msgB ⟨k, cl, rv, sq, fm, ls, rf, es, en, tx, ⟨rt, nx, ns⟩⟩ = false) := Lib.hid (msg_head (by simp [headB, b3]))
        go_wp2
        go_ret
        exact ⟨ret_bool HN.out.symm, HS1.out⟩
      | true =>
        have B3 := Lib.hid b3
        clear b3
        go_upto_region 3 with (fail)
        go_cut [3] (fun s3 wx => s3 = .bool (noneB ⟨k, cl, rv, sq, fm, ls, rf, es, en, tx, ⟨rt, nx, ns⟩⟩) ∧ wx = w1)
        case first =>
          by_cases n1 : fm = 0
          · have n1b : (fm == 0) = true := beq_iff_eq.2 n1
            by_cases n2 : ls = 0
            · have n2b : (ls == 0) = true := beq_iff_eq.2 n2
              cases rf with
              | true =>
                have HR : Hid (Value.bool false = .bool (noneB ⟨k, cl, rv, sq, fm, ls, true, es, en, tx, ⟨rt, nx, ns⟩⟩)) := Lib.hid (by congr 1; unfold noneB; symm; (simp))
                clear n1 n2
                go_wp2
                go_meet
                exact ⟨HR.out, rfl⟩
              | false =>
                by_cases n4 : tx.size = 0
                · rw [decide_eq_true n4] at hte
                  by_cases n5 : rt = 0
                  · have n5b : (rt == 0) = true := beq_iff_eq.2 n5
                    by_cases n6 : nx = 0
                    · have n6b : (nx == 0) = true := beq_iff_eq.2 n6
                      by_cases n7 : ns.length = 0
                      · have n7b := len_eq n7
                        have HR : Hid (Value.bool true = .bool (noneB ⟨k, cl, rv, sq, fm, ls, false, es, en, tx, ⟨rt, nx, ns⟩⟩)) := Lib.hid (by congr 1; unfold noneB; symm; (simp [n1, n2, n4, n5, n6, n7]))
                        clear n1 n2 n4 n5 n6 n7
                        go_wp2
                        go_meet
                        exact ⟨HR.out, rfl⟩
                      · have n7b := len_ne n7
                        have HR : Hid (Value.bool false = .bool (noneB ⟨k, cl, rv, sq, fm, ls, false, es, en, tx, ⟨rt, nx, ns⟩⟩)) := Lib.hid (by congr 1; unfold noneB; symm; (simp [n1, n2, n4, n5, n6, n7]))
                        clear n1 n2 n4 n5 n6 n7
                        go_wp2
                        go_meet
                        exact ⟨HR.out, rfl⟩
                    · have n6b : (nx == 0) = false := beq_eq_false_iff_ne.2 n6
                      have HR : Hid (Value.bool false = .bool (noneB ⟨k, cl, rv, sq, fm, ls, false, es, en, tx, ⟨rt, nx, ns⟩⟩)) := Lib.hid (by congr 1; unfold noneB; symm; (simp [n6]))
                      clear n1 n2 n4 n5 n6
                      go_wp2
                      go_meet
                      exact ⟨HR.out, rfl⟩
                  · have n5b : (rt == 0) = false := beq_eq_false_iff_ne.2 n5
                    have HR : Hid (Value.bool false = .bool (noneB ⟨k, cl, rv, sq, fm, ls, false, es, en, tx, ⟨rt, nx, ns⟩⟩)) := Lib.hid (by congr 1; unfold noneB; symm; (simp [n5]))
                    clear n1 n2 n4 n5
                    go_wp2
                    go_meet
                    exact ⟨HR.out, rfl⟩
                · rw [decide_eq_false n4] at hte
                  have HR : Hid (Value.bool false = .bool (noneB ⟨k, cl, rv, sq, fm, ls, false, es, en, tx, ⟨rt, nx, ns⟩⟩)) := Lib.hid (by congr 1; unfold noneB; symm; (simp [n4]))
                  clear n1 n2 n4
                  go_wp2
                  go_meet
                  exact ⟨HR.out, rfl⟩
            · have n2b : (ls == 0) = false := beq_eq_false_iff_ne.2 n2
              have HR : Hid (Value.bool false = .bool (noneB ⟨k, cl, rv, sq, fm, ls, rf, es, en, tx, ⟨rt, nx, ns⟩⟩)) := Lib.hid (by congr 1; unfold noneB; symm; (simp [n2]))
              clear n1 n2
              go_wp2
              go_meet
              exact ⟨HR.out, rfl⟩
          · have n1b : (fm == 0) = false := beq_eq_false_iff_ne.2 n1
            have HR : Hid (Value.bool false = .bool (noneB ⟨k, cl, rv, sq, fm, ls, rf, es, en, tx, ⟨rt, nx, ns⟩⟩)) := Lib.hid (by congr 1; unfold noneB; symm; (simp [n1]))
            clear n1
            go_wp2
            go_meet
            exact ⟨HR.out, rfl⟩
        case rest =>
          obtain ⟨rfl, rfl⟩ := hcut
          have HH : Hid (headB ⟨k, cl, rv, sq, fm, ls, rf, es, en, tx, ⟨rt, nx, ns⟩⟩ = true) := Lib.hid (head_of B1.out B2.out B3.out)
          clear B1 B2 B3
          by_cases k0 : k = 0
          · subst k0
            have HE := Lib.hid (msg_poll HH.out rfl)
            simp only at HE
            have hnb0 : noneB ⟨0, cl, rv, sq, fm, ls, rf, es, en, tx, ⟨rt, nx, ns⟩⟩ = false ∨ noneB ⟨0, cl, rv, sq, fm, ls, rf, es, en, tx, ⟨rt, nx, ns⟩⟩ = true := by cases noneB ⟨0, cl, rv, sq, fm, ls, rf, es, en, tx, ⟨rt, nx, ns⟩⟩ <;> simp
            rcases hnb0 with hnb | hnb
            · have HN : Hid (msgB ⟨0, cl, rv, sq, fm, ls, rf, es, en, tx, ⟨rt, nx, ns⟩⟩ = false) := Lib.hid (by rw [HE.out, hnb, Bool.false_and]; simp)
              rw [hnb]
              clear hnb
              go_wp2
              go_ret
              exact ⟨ret_bool HN.out.symm, HS1.out⟩
            rw [hnb]
            have HNB := Lib.hid hnb
            clear hnb
            by_cases l1 : en.length = 0
            · have l1b := len_eq l1
              go_wp2_with fail
              refine (CompMay.may_any es _ _ (HM.out _ HS1.out).edit).mono ?_
              rintro e w2 ⟨rfl, hs2⟩
              cases b4 : editB es with
              | false =>
                have HN : Hid (msgB ⟨0, cl, rv, sq, fm, ls, rf, es, en, tx, ⟨rt, nx, ns⟩⟩ = false) := Lib.hid (by rw [HE.out, b4]; simp)
                have Hhs2 := Lib.hid hs2
                clear hs2
                go_wp2
                go_ret
                exact ⟨ret_bool HN.out.symm, (HS1.out.trans Hhs2.out (fun _ f _ => f))⟩
              | true =>
                replace m3 := hs2.cell m3 (fun f => f)
                replace m7 := hs2.cell m7 (fun f => f)
                have B4 := Lib.hid b4
                clear b4
                have Hhs2 := Lib.hid hs2
                clear hs2
                by_cases q1 : 0 < sq
                · have q1b : decide (0 < sq) = true := decide_eq_true q1
                  have HN : Hid (msgB ⟨0, cl, rv, sq, fm, ls, rf, es, en, tx, ⟨rt, nx, ns⟩⟩ = true) := Lib.hid (by rw [HE.out, HNB.out, B4.out, decide_eq_true l1, decide_eq_true (.inl q1)]; rfl)
                  go_wp2
                  go_ret
                  exact ⟨ret_bool HN.out.symm, (HS1.out.trans Hhs2.out (fun _ f _ => f))⟩
                · have q1b : decide (0 < sq) = false := decide_eq_false q1
                  by_cases l2 : es.length = 0
                  · have l2b := len_eq l2
                    have HN : Hid (msgB ⟨0, cl, rv, sq, fm, ls, rf, es, en, tx, ⟨rt, nx, ns⟩⟩ = true) := Lib.hid (by rw [HE.out, HNB.out, B4.out, decide_eq_true l1, decide_eq_true (.inr l2)]; rfl)
                    go_wp2
                    go_ret
                    exact ⟨ret_bool HN.out.symm, (HS1.out.trans Hhs2.out (fun _ f _ => f))⟩
                  · have l2b := len_ne l2
                    have HN : Hid (msgB ⟨0, cl, rv, sq, fm, ls, rf, es, en, tx, ⟨rt, nx, ns⟩⟩ = false) := Lib.hid (by rw [HE.out, decide_eq_false (show ¬ (0 < sq ∨ es.length = 0) from fun e => e.elim q1 l2), Bool.and_false])
                    go_wp2
                    go_ret
                    exact ⟨ret_bool HN.out.symm, (HS1.out.trans Hhs2.out (fun _ f _ => f))⟩
            · have l1b := len_ne l1
              have HN : Hid (msgB ⟨0, cl, rv, sq, fm, ls, rf, es, en, tx, ⟨rt, nx, ns⟩⟩ = false) := Lib.hid (by rw [HE.out, decide_eq_false l1, Bool.and_false]; simp)
              go_wp2
              go_ret
              exact ⟨ret_bool HN.out.symm, HS1.out⟩
          · have k0b : (k == 0) = false := beq_eq_false_iff_ne.2 k0
            by_cases k1 : k = 1
            · subst k1
              have HE := Lib.hid (msg_chg HH.out rfl)
              simp only at HE
              have hnb0 : noneB ⟨1, cl, rv, sq, fm, ls, rf, es, en, tx, ⟨rt, nx, ns⟩⟩ = false ∨ noneB ⟨1, cl, rv, sq, fm, ls, rf, es, en, tx, ⟨rt, nx, ns⟩⟩ = true := by cases noneB ⟨1, cl, rv, sq, fm, ls, rf, es, en, tx, ⟨rt, nx, ns⟩⟩ <;> simp
              rcases hnb0 with hnb | hnb
              · have HN : Hid (msgB ⟨1, cl, rv, sq, fm, ls, rf, es, en, tx, ⟨rt, nx, ns⟩⟩ = false) := Lib.hid (by rw [HE.out, hnb, Bool.false_and]; simp)
                rw [hnb]
                clear hnb
                go_wp2
                go_ret
                exact ⟨ret_bool HN.out.symm, HS1.out⟩
              rw [hnb]
              have HNB := Lib.hid hnb
              clear hnb
              by_cases l1 : es.length = 0
              · have l1b := len_eq l1
                by_cases q1 : sq = 0
                · have q1b : (sq == 0) = true := beq_iff_eq.2 q1
                  by_cases l2 : en.length ≤ 3
                  · have l2b : decide ((en.length : Int) ≤ 3) = true := decide_eq_true (by omega)
                    have HD : Hid (decide (es.length = 0 ∧ sq = 0 ∧ en.length ≤ 3) = true) := Lib.hid (decide_eq_true ⟨l1, q1, l2⟩)
                    clear q1
                    go_wp2_with fail
                    refine (containsEntries_any en _ _ (HM.out _ HS1.out).entries).mono ?_
                    rintro e w2 ⟨rfl, hs2⟩
                    have HN : Hid (msgB ⟨1, cl, rv, sq, fm, ls, rf, es, en, tx, ⟨rt, nx, ns⟩⟩ = !en.any badE) := Lib.hid (by rw [HE.out, HNB.out, HD.out, any_entries]; rfl)
                    have Hhs2 := Lib.hid hs2
                    clear hs2
                    go_wp2
                    go_ret
                    exact ⟨ret_bool HN.out.symm, (HS1.out.trans Hhs2.out (fun _ f _ => f))⟩
                  · have l2b : decide ((en.length : Int) ≤ 3) = false := decide_eq_false (by omega)
                    have HN : Hid (msgB ⟨1, cl, rv, sq, fm, ls, rf, es, en, tx, ⟨rt, nx, ns⟩⟩ = false) := Lib.hid (by rw [HE.out, decide_eq_false (show ¬ (es.length = 0 ∧ sq = 0 ∧ en.length ≤ 3) from fun e => l2 e.2.2), Bool.and_false]; simp)
                    clear q1
                    go_wp2
                    go_ret
                    exact ⟨ret_bool HN.out.symm, HS1.out⟩
                · have q1b : (sq == 0) = false := beq_eq_false_iff_ne.2 q1
                  have HN : Hid (msgB ⟨1, cl, rv, sq, fm, ls, rf, es, en, tx, ⟨rt, nx, ns⟩⟩ = false) := Lib.hid (by rw [HE.out, decide_eq_false (show ¬ (es.length = 0 ∧ sq = 0 ∧ en.length ≤ 3) from fun e => q1 e.2.1), Bool.and_false]; simp)
                  clear q1
                  go_wp2
                  go_ret
                  exact ⟨ret_bool HN.out.symm, HS1.out⟩
              · have l1b := len_ne l1
                have HN : Hid (msgB ⟨1, cl, rv, sq, fm, ls, rf, es, en, tx, ⟨rt, nx, ns⟩⟩ = false) := Lib.hid (by rw [HE.out, decide_eq_false (show ¬ (es.length = 0 ∧ sq = 0 ∧ en.length ≤ 3) from fun e => l1 e.1), Bool.and_false]; simp)
                go_wp2
                go_ret
                exact ⟨ret_bool HN.out.symm, HS1.out⟩
            · have k1b : (k == 1) = false := beq_eq_false_iff_ne.2 k1
              by_cases k2 : k = 2
              · subst k2
                have HE := Lib.hid (msg_snap HH.out rfl)
                simp only at HE
                by_cases l1 : es.length = 0
                · have l1b := len_eq l1
                  by_cases l2 : en.length = 0
                  · have l2b := len_eq l2
                    have HD : Hid (decide (es.length = 0 ∧ en.length = 0) = true) := Lib.hid (decide_eq_true ⟨l1, l2⟩)
                    go_wp2_with fail
                    refine (upTo_any fm 4096 _).mono ?_
                    rintro e w' ⟨rfl, rfl⟩
                    cases b4 : upB fm 4096 with
                    | false =>
                      have HN : Hid (msgB ⟨2, cl, rv, sq, fm, ls, rf, es, en, tx, ⟨rt, nx, ns⟩⟩ = false) := Lib.hid (by rw [HE.out, b4]; simp)
                      clear b4
                      go_wp2
                      go_ret
                      exact ⟨ret_bool HN.out.symm, HS1.out⟩
                    | true =>
                      have B4 := Lib.hid b4
                      clear b4
                      go_wp2_with fail
                      refine (upTo_any ls 4096 _).mono ?_
                      rintro e w' ⟨rfl, rfl⟩
                      cases b5 : upB ls 4096 with
                      | false =>
                        have HN : Hid (msgB ⟨2, cl, rv, sq, fm, ls, rf, es, en, tx, ⟨rt, nx, ns⟩⟩ = false) := Lib.hid (by rw [HE.out, b5]; simp)
                        clear b5
                        go_wp2
                        go_ret
                        exact ⟨ret_bool HN.out.symm, HS1.out⟩
                      | true =>
                        have B5 := Lib.hid b5
                        clear b5
                        by_cases l3 : tx.size ≤ 300
                        · have l3b : decide ((tx.size : Int) ≤ 300) = true := decide_eq_true (by omega)
                          go_wp2_with fail
                          refine (ParMay.may_any ⟨rt, nx, ns⟩ _ _ _ (HM.out _ HS1.out).nodes HRn.out).mono ?_
                          rintro e w2 ⟨rfl, hs2⟩
                          have HN : Hid (msgB ⟨2, cl, rv, sq, fm, ls, rf, es, en, tx, ⟨rt, nx, ns⟩⟩ = treeB ⟨rt, nx, ns⟩ tx.size) := Lib.hid (by rw [HE.out, HD.out, B4.out, B5.out, decide_eq_true l3]; rfl)
                          have Hhs2 := Lib.hid hs2
                          clear hs2
                          go_wp2
                          go_ret
                          exact ⟨ret_bool HN.out.symm, (HS1.out.trans Hhs2.out (fun _ f _ => f))⟩
                        · have l3b : decide ((tx.size : Int) ≤ 300) = false := decide_eq_false (by omega)
                          have HN : Hid (msgB ⟨2, cl, rv, sq, fm, ls, rf, es, en, tx, ⟨rt, nx, ns⟩⟩ = false) := Lib.hid (by rw [HE.out, decide_eq_false l3]; simp)
                          go_wp2
                          go_ret
                          exact ⟨ret_bool HN.out.symm, HS1.out⟩
                  · have l2b := len_ne l2
                    have HN : Hid (msgB ⟨2, cl, rv, sq, fm, ls, rf, es, en, tx, ⟨rt, nx, ns⟩⟩ = false) := Lib.hid (by rw [HE.out, decide_eq_false (show ¬ (es.length = 0 ∧ en.length = 0) from fun e => l2 e.2)]; simp)
                    go_wp2
                    go_ret
                    exact ⟨ret_bool HN.out.symm, HS1.out⟩
                · have l1b := len_ne l1
                  have HN : Hid (msgB ⟨2, cl, rv, sq, fm, ls, rf, es, en, tx, ⟨rt, nx, ns⟩⟩ = false) := Lib.hid (by rw [HE.out, decide_eq_false (show ¬ (es.length = 0 ∧ en.length = 0) from fun e => l1 e.1)]; simp)
                  go_wp2
                  go_ret
                  exact ⟨ret_bool HN.out.symm, HS1.out⟩
              · have k2b : (k == 2) = false := beq_eq_false_iff_ne.2 k2
                have HN : Hid (msgB ⟨k, cl, rv, sq, fm, ls, rf, es, en, tx, ⟨rt, nx, ns⟩⟩ = false) := Lib.hid (msg_else k0 k1 k2)
                clear k0 k1 k2
                go_wp2
                go_ret
                exact ⟨ret_bool HN.out.symm, HS1.out⟩
end Go.Proofs.YtkamhpbfebdhjaaGreatDoor.MsgMay
