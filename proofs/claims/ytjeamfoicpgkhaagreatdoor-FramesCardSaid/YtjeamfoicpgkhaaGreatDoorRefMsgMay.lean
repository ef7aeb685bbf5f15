/- May a message be? The reference's answer. -/
import Derived.Test.YtjeamfoicpgkhaaGreatDoorRefEntMay
import Derived.Test.YtjeamfoicpgkhaaGreatDoorRefTree
import Derived.Test.YtjeamfoicpgkhaaGreatDoorRefPut
import Derived.Test.YtjeamfoicpgkhaaGreatDoorMsgMay
namespace Go.Proofs.YtjeamfoicpgkhaaGreatDoor.RefMsgMay
open Go.RowKit Go.Lib Go.Proofs.YtjeamfoicpgkhaaGreatDoor.Mem Go.Proofs.YtjeamfoicpgkhaaGreatDoor.Read Go.Proofs.YtjeamfoicpgkhaaGreatDoor.Tree Go.Proofs.YtjeamfoicpgkhaaGreatDoor.Data Go.Proofs.YtjeamfoicpgkhaaGreatDoor.CompR Go.Proofs.YtjeamfoicpgkhaaGreatDoor.MsgR Go.Proofs.YtjeamfoicpgkhaaGreatDoor.May Go.Proofs.YtjeamfoicpgkhaaGreatDoor.C13
open Go.Proofs.YtjeamfoicpgkhaaGreatDoor.CompMay (ret_bool empty_is)
open Go.Proofs.YtjeamfoicpgkhaaGreatDoor.RefNorm (CompsMay_ref)
open Go.Proofs.YtjeamfoicpgkhaaGreatDoor.RefEntMay (EntryMay_ref)
open Go.Proofs.YtjeamfoicpgkhaaGreatDoor.RefMay1 (noTree_ref)
open Go.Proofs.YtjeamfoicpgkhaaGreatDoor.RefTree (TreeMay_ref KidsN)
open Go.Proofs.YtjeamfoicpgkhaaGreatDoor.RefPut (MayAt)
open Go.Proofs.YtjeamfoicpgkhaaGreatDoor.MsgMay (msg_head msg_poll msg_chg msg_snap msg_else)
set_option linter.unusedVariables false
set_option linter.unusedSimpArgs false
theorem no_none {m : MsgD} (hk : m.kind ≠ 2) (h : noneB m = false) : msgB m = false := by
  unfold msgB
  by_cases h0 : m.kind = 0
  · rw [if_pos h0]; unfold pollB; rw [h]; simp
  · by_cases h1 : m.kind = 1
    · rw [if_neg h0, if_pos h1]; unfold chgB; rw [h]; simp
    · rw [if_neg h0, if_neg h1, if_neg hk]; simp
theorem no_ent {m : MsgD} (hk : m.kind ≠ 1) (h : m.entries.length ≠ 0) : msgB m = false := by
  unfold msgB
  by_cases h0 : m.kind = 0
  · rw [if_pos h0]; unfold pollB; rw [decide_eq_false h]; simp
  · by_cases h2 : m.kind = 2
    · rw [if_neg h0, if_neg hk, if_pos h2]; unfold snapB; rw [decide_eq_false (fun e => h e.2)]; simp
    · rw [if_neg h0, if_neg hk, if_neg h2]; simp
theorem no_edit {m : MsgD} (hk : m.kind ≠ 0) (h : m.edit.length ≠ 0) : msgB m = false := by
  unfold msgB
  by_cases h1 : m.kind = 1
  · rw [if_neg hk, if_pos h1]; unfold chgB; rw [decide_eq_false (fun e => h e.1)]; simp
  · by_cases h2 : m.kind = 2
    · rw [if_neg hk, if_neg h1, if_pos h2]; unfold snapB; rw [decide_eq_false (fun e => h e.1)]; simp
    · rw [if_neg hk, if_neg h1, if_neg h2]; simp
theorem no_head {m : MsgD} (h : ¬ ((0 ≤ m.client ∧ m.client ≤ 2) ∧ (0 ≤ m.rev ∧ m.rev ≤ 4096) ∧ (0 ≤ m.seq ∧ m.seq ≤ 4096))) : msgB m = false := by
  refine msg_head ?_
  unfold headB upB
  rw [← Bool.not_eq_true]
  intro hh
  simp only [Bool.and_eq_true, decide_eq_true_eq] at hh
  exact h ⟨hh.1.1, hh.1.2, hh.2⟩
theorem head_yes {m : MsgD} (h : (0 ≤ m.client ∧ m.client ≤ 2) ∧ (0 ≤ m.rev ∧ m.rev ≤ 4096) ∧ (0 ≤ m.seq ∧ m.seq ≤ 4096)) : headB m = true := by
  unfold headB upB
  simp only [Bool.and_eq_true, decide_eq_true_eq]
  exact ⟨⟨h.1, h.2.1⟩, h.2.2⟩
set_option maxHeartbeats 16000000 in
set_option maxRecDepth 100000 in
theorem may_ref (m : MsgD) (ev env nv : Value) (w : World) (hm : MsgR w m ev env nv) (hk : KidsN m.tree.nodes) : Calls Tryz.prog 19 #[aggM m ev env nv] w fun e w' => e = .returned (.bool (msgB m)) ∧ Step No w w' := by
  obtain ⟨A, c, rfl, -, -⟩ := comps_len hm.edit
  obtain ⟨A', c', rfl, hc1, hc2⟩ := sl_len hm.entries
  obtain ⟨A'', c'', rfl, -, -⟩ := sl_len hm.nodes
  have hte := empty_is m.text
  obtain ⟨k, cl, rv, sq, fm, ls, rf, es, en, tx, ⟨rt, nx, ns⟩⟩ := m
  unfold aggM msgCells
  simp only at *
  unfold maxLen at hc2
  have HM : Hid (∀ wx, Step No w wx → MsgR wx ⟨k, cl, rv, sq, fm, ls, rf, es, en, tx, ⟨rt, nx, ns⟩⟩ (.slice A es.length c) (.slice A' en.length c') (.slice A'' ns.length c'')) := Lib.hid fun wx h => hm.to h
  have HK := Lib.hid hk
  have htz := hm.text
  simp only at htz
  clear hm hk
  go_enter Tryz.func19, Tryz.ntmps19
  go_upto_region 1 with (fail)
  generalize hW : World.alloc w _ = w1 at *
  have HB1 := Lib.hid (show w1.heap[w.heap.size]? = some _ by rw [← hW]; exact blk_new w _)
  have HS1 : Hid (Step No w w1) := Lib.hid (by rw [← hW]; exact (Step.refl No w).alloc _)
  clear hW
  obtain ⟨a0, a1, a2, a3, a4, a5, a6, a7, a8, a9, a10, a11, a12⟩ := cells13 HB1.out
  by_cases h1 : cl < 0
  · have HN : Hid (msgB ⟨k, cl, rv, sq, fm, ls, rf, es, en, tx, ⟨rt, nx, ns⟩⟩ = false) := Lib.hid (no_head fun e => by have := e.1; simp only at this; omega)
    clear hte
    go_wp2
    go_ret
    exact ⟨ret_bool HN.out.symm, HS1.out⟩
  by_cases h2 : 3 ≤ cl
  · have HN : Hid (msgB ⟨k, cl, rv, sq, fm, ls, rf, es, en, tx, ⟨rt, nx, ns⟩⟩ = false) := Lib.hid (no_head fun e => by have := e.1; simp only at this; omega)
    clear hte
    go_wp2
    go_ret
    exact ⟨ret_bool HN.out.symm, HS1.out⟩
  by_cases h3 : rv < 0
  · have HN : Hid (msgB ⟨k, cl, rv, sq, fm, ls, rf, es, en, tx, ⟨rt, nx, ns⟩⟩ = false) := Lib.hid (no_head fun e => by have := e.2.1; simp only at this; omega)
    clear hte
    go_wp2
    go_ret
    exact ⟨ret_bool HN.out.symm, HS1.out⟩
  by_cases h4 : 4096 < rv
  · have HN : Hid (msgB ⟨k, cl, rv, sq, fm, ls, rf, es, en, tx, ⟨rt, nx, ns⟩⟩ = false) := Lib.hid (no_head fun e => by have := e.2.1; simp only at this; omega)
    clear hte
    go_wp2
    go_ret
    exact ⟨ret_bool HN.out.symm, HS1.out⟩
  by_cases h5 : sq < 0
  · have HN : Hid (msgB ⟨k, cl, rv, sq, fm, ls, rf, es, en, tx, ⟨rt, nx, ns⟩⟩ = false) := Lib.hid (no_head fun e => by have := e.2.2; simp only at this; omega)
    clear hte
    go_wp2
    go_ret
    exact ⟨ret_bool HN.out.symm, HS1.out⟩
  by_cases h6 : 4096 < sq
  · have HN : Hid (msgB ⟨k, cl, rv, sq, fm, ls, rf, es, en, tx, ⟨rt, nx, ns⟩⟩ = false) := Lib.hid (no_head fun e => by have := e.2.2; simp only at this; omega)
    clear hte
    go_wp2
    go_ret
    exact ⟨ret_bool HN.out.symm, HS1.out⟩
  have HH : Hid (headB ⟨k, cl, rv, sq, fm, ls, rf, es, en, tx, ⟨rt, nx, ns⟩⟩ = true) := Lib.hid (head_yes ⟨⟨by simp only; omega, by simp only; omega⟩, ⟨by simp only; omega, by simp only; omega⟩, ⟨by simp only; omega, by simp only; omega⟩⟩)
  by_cases k2 : k = 2
  · subst k2
    have HE := Lib.hid (msg_snap HH.out rfl)
    simp only at HE
    by_cases l2 : en.length = 0
    rotate_left
    · have g : (0 : Int) < en.length := by omega
      have gb : decide ((0 : Int) < en.length) = true := decide_eq_true (by omega)
      have gn : decide (0 < en.length) = true := decide_eq_true (by omega)
      have HN : Hid (msgB ⟨2, cl, rv, sq, fm, ls, rf, es, en, tx, ⟨rt, nx, ns⟩⟩ = false) := Lib.hid (no_ent (show (2 : Int) ≠ 1 by decide) l2)
      go_wp2
      go_ret
      exact ⟨ret_bool HN.out.symm, HS1.out⟩
    have g2 : ¬ (0 : Int) < en.length := by omega
    have g2b : decide ((0 : Int) < en.length) = false := decide_eq_false (by omega)
    have g2n : decide (0 < en.length) = false := decide_eq_false (by omega)
    by_cases l1 : es.length = 0
    rotate_left
    · have g : (0 : Int) < es.length := by omega
      have gb : decide ((0 : Int) < es.length) = true := decide_eq_true (by omega)
      have gn : decide (0 < es.length) = true := decide_eq_true (by omega)
      have HN : Hid (msgB ⟨2, cl, rv, sq, fm, ls, rf, es, en, tx, ⟨rt, nx, ns⟩⟩ = false) := Lib.hid (no_edit (show (2 : Int) ≠ 0 by decide) l1)
      go_wp2
      go_ret
      exact ⟨ret_bool HN.out.symm, HS1.out⟩
    have g1 : ¬ (0 : Int) < es.length := by omega
    have g1b : decide ((0 : Int) < es.length) = false := decide_eq_false (by omega)
    have g1n : decide (0 < es.length) = false := decide_eq_false (by omega)
    by_cases f1 : 0 ≤ fm
    rotate_left
    · have HN : Hid (msgB ⟨2, cl, rv, sq, fm, ls, rf, es, en, tx, ⟨rt, nx, ns⟩⟩ = false) := Lib.hid (by rw [HE.out]; unfold upB; rw [decide_eq_false (show ¬ (0 ≤ fm ∧ fm ≤ 4096) from fun e => f1 e.1)]; simp)
      go_wp2
      go_ret
      exact ⟨ret_bool HN.out.symm, HS1.out⟩
    by_cases f2 : fm ≤ 4096
    rotate_left
    · have HN : Hid (msgB ⟨2, cl, rv, sq, fm, ls, rf, es, en, tx, ⟨rt, nx, ns⟩⟩ = false) := Lib.hid (by rw [HE.out]; unfold upB; rw [decide_eq_false (show ¬ (0 ≤ fm ∧ fm ≤ 4096) from fun e => f2 e.2)]; simp)
      go_wp2
      go_ret
      exact ⟨ret_bool HN.out.symm, HS1.out⟩
    by_cases f3 : 0 ≤ ls
    rotate_left
    · have HN : Hid (msgB ⟨2, cl, rv, sq, fm, ls, rf, es, en, tx, ⟨rt, nx, ns⟩⟩ = false) := Lib.hid (by rw [HE.out]; unfold upB; rw [decide_eq_false (show ¬ (0 ≤ ls ∧ ls ≤ 4096) from fun e => f3 e.1)]; simp)
      go_wp2
      go_ret
      exact ⟨ret_bool HN.out.symm, HS1.out⟩
    by_cases f4 : ls ≤ 4096
    rotate_left
    · have HN : Hid (msgB ⟨2, cl, rv, sq, fm, ls, rf, es, en, tx, ⟨rt, nx, ns⟩⟩ = false) := Lib.hid (by rw [HE.out]; unfold upB; rw [decide_eq_false (show ¬ (0 ≤ ls ∧ ls ≤ 4096) from fun e => f4 e.2)]; simp)
      go_wp2
      go_ret
      exact ⟨ret_bool HN.out.symm, HS1.out⟩
    by_cases l3 : tx.size ≤ 300
    rotate_left
    · have g : ¬ (tx.size : Int) ≤ 300 := by omega
      have HN : Hid (msgB ⟨2, cl, rv, sq, fm, ls, rf, es, en, tx, ⟨rt, nx, ns⟩⟩ = false) := Lib.hid (by rw [HE.out, decide_eq_false l3]; simp)
      go_wp2
      go_ret
      exact ⟨ret_bool HN.out.symm, HS1.out⟩
    have g3 : (tx.size : Int) ≤ 300 := by omega
    have HN : Hid (msgB ⟨2, cl, rv, sq, fm, ls, rf, es, en, tx, ⟨rt, nx, ns⟩⟩ = treeB ⟨rt, nx, ns⟩ tx.size) := Lib.hid (by rw [HE.out]; unfold upB; rw [decide_eq_true (show es.length = 0 ∧ en.length = 0 from ⟨l1, l2⟩), decide_eq_true (show 0 ≤ fm ∧ fm ≤ 4096 from ⟨f1, f2⟩), decide_eq_true (show 0 ≤ ls ∧ ls ≤ 4096 from ⟨f3, f4⟩), decide_eq_true l3]; rfl)
    go_wp2_with fail
    refine (TreeMay_ref ⟨rt, nx, ns⟩ _ _ _ (HM.out _ HS1.out).nodes HK.out).mono ?_
    rintro e w2 ⟨rfl, hs2⟩
    have HS2 : Hid (Step No w w2) := Lib.hid (HS1.out.trans hs2 (fun _ f _ => f))
    clear hs2
    go_wp2
    go_ret
    exact ⟨ret_bool HN.out.symm, HS2.out⟩
  have b2 : (k == 2) = false := beq_eq_false_iff_ne.2 k2
  by_cases n1 : fm = 0
  rotate_left
  · have nb : (fm == 0) = false := beq_eq_false_iff_ne.2 n1
    have nb2 : (fm != 0) = true := by simp only [bne, nb]; rfl
    have HN : Hid (msgB ⟨k, cl, rv, sq, fm, ls, rf, es, en, tx, ⟨rt, nx, ns⟩⟩ = false) := Lib.hid (no_none k2 (by simp [noneB, n1]))
    clear hte n1 k2
    go_wp2
    go_ret
    exact ⟨ret_bool HN.out.symm, HS1.out⟩
  subst n1
  by_cases n2 : ls = 0
  rotate_left
  · have nb : (ls == 0) = false := beq_eq_false_iff_ne.2 n2
    have nb2 : (ls != 0) = true := by simp only [bne, nb]; rfl
    have HN : Hid (msgB ⟨k, cl, rv, sq, 0, ls, rf, es, en, tx, ⟨rt, nx, ns⟩⟩ = false) := Lib.hid (no_none k2 (by simp [noneB, n2]))
    clear hte n2 k2
    go_wp2
    go_ret
    exact ⟨ret_bool HN.out.symm, HS1.out⟩
  subst n2
  cases rf with
  | true =>
    have HN : Hid (msgB ⟨k, cl, rv, sq, 0, 0, true, es, en, tx, ⟨rt, nx, ns⟩⟩ = false) := Lib.hid (no_none k2 (by simp [noneB]))
    clear hte k2
    go_wp2
    go_ret
    exact ⟨ret_bool HN.out.symm, HS1.out⟩
  | false =>
    by_cases n4 : tx.size = 0
    rotate_left
    · rw [decide_eq_false n4] at hte
      have HN : Hid (msgB ⟨k, cl, rv, sq, 0, 0, false, es, en, tx, ⟨rt, nx, ns⟩⟩ = false) := Lib.hid (no_none k2 (by simp [noneB, n4]))
      clear n4 k2
      go_wp2
      go_ret
      exact ⟨ret_bool HN.out.symm, HS1.out⟩
    rw [decide_eq_true n4] at hte
    go_wp2_with fail
    refine (noTree_ref ⟨rt, nx, ns⟩ A'' c'' _).mono ?_
    rintro e w2 ⟨rfl, hs2⟩
    have HB2 := Lib.hid (hs2.blk HB1.out (fun f => f))
    have HS2 : Hid (Step No w w2) := Lib.hid (HS1.out.trans hs2 (fun _ f _ => f))
    clear a0 a1 a2 a3 a4 a5 a6 a7 a8 a9 a10 a11 a12 hs2
    obtain ⟨a0, a1, a2, a3, a4, a5, a6, a7, a8, a9, a10, a11, a12⟩ := cells13 HB2.out
    simp only
    by_cases nt : rt = 0 ∧ nx = 0 ∧ ns.length = 0
    rotate_left
    · rw [decide_eq_false nt]
      have HN : Hid (msgB ⟨k, cl, rv, sq, 0, 0, false, es, en, tx, ⟨rt, nx, ns⟩⟩ = false) := Lib.hid (no_none k2 (by unfold noneB; exact decide_eq_false fun e => nt e.2.2.2.2))
      clear n4 nt k2
      go_wp2
      go_ret
      exact ⟨ret_bool HN.out.symm, HS2.out⟩
    rw [decide_eq_true nt]
    have HNn : Hid (noneB ⟨k, cl, rv, sq, 0, 0, false, es, en, tx, ⟨rt, nx, ns⟩⟩ = true) := Lib.hid (by unfold noneB; exact decide_eq_true ⟨rfl, rfl, rfl, n4, nt⟩)
    clear n4 nt
    by_cases k0 : k = 0
    · subst k0
      have HE := Lib.hid (msg_poll HH.out rfl)
      simp only at HE
      by_cases l1 : en.length = 0
      rotate_left
      · have g : (0 : Int) < en.length := by omega
        have gb : decide ((0 : Int) < en.length) = true := decide_eq_true (by omega)
        have gn : decide (0 < en.length) = true := decide_eq_true (by omega)
        have HN : Hid (msgB ⟨0, cl, rv, sq, 0, 0, false, es, en, tx, ⟨rt, nx, ns⟩⟩ = false) := Lib.hid (no_ent (show (0 : Int) ≠ 1 by decide) l1)
        go_wp2
        go_ret
        exact ⟨ret_bool HN.out.symm, HS2.out⟩
      have g2 : ¬ (0 : Int) < en.length := by omega
      have g2b : decide ((0 : Int) < en.length) = false := decide_eq_false (by omega)
      have g2n : decide (0 < en.length) = false := decide_eq_false (by omega)
      go_wp2_with fail
      refine (CompsMay_ref _ es _ (HM.out _ HS2.out).edit).mono ?_
      rintro e w3 ⟨rfl, hs3⟩
      have HB3 := Lib.hid (hs3.blk HB2.out (fun f => f))
      have HS3 : Hid (Step No w w3) := Lib.hid (HS2.out.trans hs3 (fun _ f _ => f))
      clear a0 a1 a2 a3 a4 a5 a6 a7 a8 a9 a10 a11 a12 hs3
      obtain ⟨a0, a1, a2, a3, a4, a5, a6, a7, a8, a9, a10, a11, a12⟩ := cells13 HB3.out
      cases b4 : editB es with
      | false =>
        have HN : Hid (msgB ⟨0, cl, rv, sq, 0, 0, false, es, en, tx, ⟨rt, nx, ns⟩⟩ = false) := Lib.hid (by rw [HE.out, b4]; simp)
        clear b4
        go_wp2
        go_ret
        exact ⟨ret_bool HN.out.symm, HS3.out⟩
      | true =>
        by_cases q1 : 0 < sq
        · have q1b : decide (0 < sq) = true := decide_eq_true q1
          have HN : Hid (msgB ⟨0, cl, rv, sq, 0, 0, false, es, en, tx, ⟨rt, nx, ns⟩⟩ = true) := Lib.hid (by rw [HE.out, HNn.out, b4, decide_eq_true l1, decide_eq_true (.inl q1)]; rfl)
          clear b4
          go_wp2
          go_ret
          exact ⟨ret_bool HN.out.symm, HS3.out⟩
        · have q1b : decide (0 < sq) = false := decide_eq_false q1
          by_cases l2 : es.length = 0
          · have g : ((es.length : Int) == 0) = true := by rw [beq_iff_eq]; omega
            have HN : Hid (msgB ⟨0, cl, rv, sq, 0, 0, false, es, en, tx, ⟨rt, nx, ns⟩⟩ = true) := Lib.hid (by rw [HE.out, HNn.out, b4, decide_eq_true l1, decide_eq_true (.inr l2)]; rfl)
            clear b4
            go_wp2
            go_ret
            exact ⟨ret_bool HN.out.symm, HS3.out⟩
          · have g : ((es.length : Int) == 0) = false := by rw [beq_eq_false_iff_ne]; omega
            have HN : Hid (msgB ⟨0, cl, rv, sq, 0, 0, false, es, en, tx, ⟨rt, nx, ns⟩⟩ = false) := Lib.hid (by rw [HE.out, decide_eq_false (show ¬ (0 < sq ∨ es.length = 0) from fun e => e.elim q1 l2), Bool.and_false])
            clear b4
            go_wp2
            go_ret
            exact ⟨ret_bool HN.out.symm, HS3.out⟩
    have b0 : (k == 0) = false := beq_eq_false_iff_ne.2 k0
    have b0n : (k != 0) = true := by simp only [bne, b0]; rfl
    by_cases k1 : k = 1
    · subst k1
      have HE := Lib.hid (msg_chg HH.out rfl)
      simp only at HE
      by_cases l1 : es.length = 0
      rotate_left
      · have g : (0 : Int) < es.length := by omega
        have gb : decide ((0 : Int) < es.length) = true := decide_eq_true (by omega)
        have gn : decide (0 < es.length) = true := decide_eq_true (by omega)
        have HN : Hid (msgB ⟨1, cl, rv, sq, 0, 0, false, es, en, tx, ⟨rt, nx, ns⟩⟩ = false) := Lib.hid (no_edit (show (1 : Int) ≠ 0 by decide) l1)
        go_wp2
        go_ret
        exact ⟨ret_bool HN.out.symm, HS2.out⟩
      have g2 : ¬ (0 : Int) < es.length := by omega
      have g2b : decide ((0 : Int) < es.length) = false := decide_eq_false (by omega)
      have g2n : decide (0 < es.length) = false := decide_eq_false (by omega)
      have HL1 := Lib.hid l1
      clear l1 k0 k2 b0 b2 hte
      go_wp2
      go_loopw [4] (fun i wr => ∃ j : Nat, j ≤ en.length ∧ i = .int .i64 j ∧ (∀ x ∈ en.take j, entryB x = true) ∧ Step No w2 wr) (fun i _ => en.length - (RowKit.intOf i).toNat)
      case atStart => exact ⟨0, Nat.zero_le _, rfl, fun x hx => by simp at hx, Step.refl _ _⟩
      case round =>
        obtain ⟨j, hj, rfl, hall, hs⟩ := hrel
        clear a0 a1 a2 a3 a4 a5 a6 a7 a8 a9 a10 a11 a12
        obtain ⟨a0, a1, a2, a3, a4, a5, a6, a7, a8, a9, a10, a11, a12⟩ := cells13 (hs.blk HB2.out (fun f => f))
        by_cases hlt : j < en.length
        · obtain ⟨ad, ev', dv', rfl, hev, hdv, c0, c1, c2, c3⟩ := entries_cells (HM.out _ (HS2.out.trans hs (fun _ f _ => f))).entries j hlt
          have hi0 : (0 : Int) ≤ j := by omega
          have hi1 : (j : Int) < en.length := by omega
          have HAll := Lib.hid hall
          have HIn := Lib.hid (List.getElem_mem hlt)
          have HTk := Lib.hid (List.take_succ_eq_append_getElem hlt)
          generalize en[j] = x at *
          obtain ⟨Ae, ce, rfl, -, -⟩ := comps_len hev
          obtain ⟨Ad, cd, rfl, -, -⟩ := sl_len hdv
          obtain ⟨xc, xs, xe, xd⟩ := x
          simp only at c0 c1 c2 c3 hev hdv
          have HEv := Lib.hid hev
          have HDv := Lib.hid hdv
          clear hev hdv hall
          have Hhs := Lib.hid hs
          clear hs
          go_wp2_with fail
          refine (EntryMay_ref ⟨xc, xs, xe, xd⟩ _ _ _ HEv.out HDv.out).mono ?_
          rintro e w3 ⟨rfl, hs3⟩
          have HS3 : Hid (Step No w2 w3) := Lib.hid (Hhs.out.trans hs3 (fun _ f _ => f))
          clear hs3
          cases hb : entryB ⟨xc, xs, xe, xd⟩ with
          | false =>
            have HN : Hid (msgB ⟨1, cl, rv, sq, 0, 0, false, es, en, tx, ⟨rt, nx, ns⟩⟩ = false) := Lib.hid (by
              rw [HE.out]
              have : en.all entryB = false := by
                rw [← Bool.not_eq_true, List.all_eq_true]
                intro h
                have := h _ HIn.out
                rw [hb] at this
                cases this
              rw [this, Bool.and_false])
            clear hb
            go_wp2
            go_ret
            exact ⟨ret_bool HN.out.symm, HS2.out.trans HS3.out (fun _ f _ => f)⟩
          | true =>
            have HBt := Lib.hid hb
            clear hb
            go_wp2
            go_roundw
            case rel => exact ⟨j + 1, hlt, by go_num, fun y hy => by
                rw [HTk.out] at hy
                rcases List.mem_append.1 hy with hy | hy
                · exact HAll.out y hy
                · simp at hy
                  subst hy
                  exact HBt.out, HS3.out⟩
            case measure => simp [RowKit.intOf]; omega
        · obtain rfl : j = en.length := by omega
          rw [List.take_length] at hall
          have HA : Hid (en.all entryB = true) := Lib.hid (List.all_eq_true.2 hall)
          have HS3 : Hid (Step No w wr) := Lib.hid (HS2.out.trans hs (fun _ f _ => f))
          clear hall hs
          by_cases q1 : sq = 0
          · subst q1
            by_cases l2 : en.length ≤ 3
            · have g : decide ((en.length : Int) ≤ 3) = true := decide_eq_true (by omega)
              have HN : Hid (msgB ⟨1, cl, rv, 0, 0, 0, false, es, en, tx, ⟨rt, nx, ns⟩⟩ = true) := Lib.hid (by rw [HE.out, HNn.out, HA.out, decide_eq_true ⟨HL1.out, rfl, l2⟩]; rfl)
              go_wp2
              go_ret
              exact ⟨ret_bool HN.out.symm, HS3.out⟩
            · have g : decide ((en.length : Int) ≤ 3) = false := decide_eq_false (by omega)
              have HN : Hid (msgB ⟨1, cl, rv, 0, 0, 0, false, es, en, tx, ⟨rt, nx, ns⟩⟩ = false) := Lib.hid (by rw [HE.out, decide_eq_false (fun e => l2 e.2.2)]; simp)
              go_wp2
              go_ret
              exact ⟨ret_bool HN.out.symm, HS3.out⟩
          · have g : (sq == 0) = false := beq_eq_false_iff_ne.2 q1
            have HN : Hid (msgB ⟨1, cl, rv, sq, 0, 0, false, es, en, tx, ⟨rt, nx, ns⟩⟩ = false) := Lib.hid (by rw [HE.out, decide_eq_false (fun e => q1 e.2.1)]; simp)
            clear q1
            go_wp2
            go_ret
            exact ⟨ret_bool HN.out.symm, HS3.out⟩
    have b1 : (k == 1) = false := beq_eq_false_iff_ne.2 k1
    have b1n : (k != 1) = true := by simp only [bne, b1]; rfl
    by_cases l1 : en.length = 0
    rotate_left
    · have g : (0 : Int) < en.length := by omega
      have gb : decide ((0 : Int) < en.length) = true := decide_eq_true (by omega)
      have gn : decide (0 < en.length) = true := decide_eq_true (by omega)
      have HN : Hid (msgB ⟨k, cl, rv, sq, 0, 0, false, es, en, tx, ⟨rt, nx, ns⟩⟩ = false) := Lib.hid (no_ent k1 l1)
      clear k0 k1 k2
      go_wp2
      go_ret
      exact ⟨ret_bool HN.out.symm, HS2.out⟩
    have g1 : ¬ (0 : Int) < en.length := by omega
    have g1b : decide ((0 : Int) < en.length) = false := decide_eq_false (by omega)
    have g1n : decide (0 < en.length) = false := decide_eq_false (by omega)
    have HN : Hid (msgB ⟨k, cl, rv, sq, 0, 0, false, es, en, tx, ⟨rt, nx, ns⟩⟩ = false) := Lib.hid (msg_else k0 k1 k2)
    clear k0 k1 k2
    by_cases l2 : es.length = 0
    · have g2 : ¬ (0 : Int) < es.length := by omega
      have g2b : decide ((0 : Int) < es.length) = false := decide_eq_false (by omega)
      have g2n : decide (0 < es.length) = false := decide_eq_false (by omega)
      go_wp2
      go_ret
      exact ⟨ret_bool HN.out.symm, HS2.out⟩
    · have g : (0 : Int) < es.length := by omega
      have gb : decide ((0 : Int) < es.length) = true := decide_eq_true (by omega)
      have gn : decide (0 < es.length) = true := decide_eq_true (by omega)
      go_wp2
      go_ret
      exact ⟨ret_bool HN.out.symm, HS2.out⟩
theorem may_at (m : MsgD) (ev env nv : Value) (w : World) (hm : MsgR w m ev env nv) (hk : KidsN m.tree.nodes) : MayAt m ev env nv w := fun w' hs => may_ref m ev env nv w' (hm.to hs) hk
end Go.Proofs.YtjeamfoicpgkhaaGreatDoor.RefMsgMay
