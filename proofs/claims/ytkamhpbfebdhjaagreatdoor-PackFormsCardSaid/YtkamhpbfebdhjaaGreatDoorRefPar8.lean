/- The document's parser: a value. -/
import Derived.Test.YtkamhpbfebdhjaaGreatDoorRefPar7
namespace Go.Proofs.YtkamhpbfebdhjaaGreatDoor.RefPar8
open Go.RowKit Go.Lib Go.Proofs.YtkamhpbfebdhjaaGreatDoor.Mem Go.Proofs.YtkamhpbfebdhjaaGreatDoor.Read Go.Proofs.YtkamhpbfebdhjaaGreatDoor.Tree Go.Proofs.YtkamhpbfebdhjaaGreatDoor.Data Go.Proofs.YtkamhpbfebdhjaaGreatDoor.OwnR Go.Proofs.YtkamhpbfebdhjaaGreatDoor.Tr Go.Proofs.YtkamhpbfebdhjaaGreatDoor.Tr2 Go.Proofs.YtkamhpbfebdhjaaGreatDoor.ParS Go.Proofs.YtkamhpbfebdhjaaGreatDoor.ParG Go.Proofs.YtkamhpbfebdhjaaGreatDoor.LexS Go.Proofs.YtkamhpbfebdhjaaGreatDoor.RefLex4 Go.Proofs.YtkamhpbfebdhjaaGreatDoor.RefPar1 Go.Proofs.YtkamhpbfebdhjaaGreatDoor.RefPar2 Go.Proofs.YtkamhpbfebdhjaaGreatDoor.RefPar3 Go.Proofs.YtkamhpbfebdhjaaGreatDoor.RefPar4 Go.Proofs.YtkamhpbfebdhjaaGreatDoor.RefPar5 Go.Proofs.YtkamhpbfebdhjaaGreatDoor.RefPar6 Go.Proofs.YtkamhpbfebdhjaaGreatDoor.RefPar7
set_option linter.unusedVariables false
set_option linter.unusedSimpArgs false
set_option maxHeartbeats 8000000 in
set_option maxRecDepth 100000 in
theorem value_next {ts : List TokD} {en : Int} {n : Nat} (hT : ts.length ≤ 300) (ih : ValC ts en n) : ValC ts en (n + 1) := by
  intro w b base tv s d h hi hn hd hG
  have hlen := hG.len (by omega)
  have hon := hG.on
  have hwf := hG.wf
  obtain ⟨Q, hQ⟩ : ∃ Q, valueS ts en (n + 1) d s = Q := ⟨_, rfl⟩
  rw [hQ]
  simp only [valueS] at hQ
  obtain ⟨t, ht⟩ : ∃ t, tokS ts en s.1 = t := ⟨_, rfl⟩
  rw [ht] at hQ
  have HTk := Lib.hid ht
  have HQ0 := Lib.hid hQ
  clear ht hQ
  obtain ⟨tk, tf, tu⟩ := t
  go_enter Tryz.func19, Tryz.ntmps19
  go_wp2_with fail
  refine (next_s w b base ts en tv s h (by omega) (by omega)).mono ?_
  unfold NOut
  rw [HTk.out]
  rintro e w1 ⟨rfl, hn1, hns1⟩
  simp only at HQ0 ⊢
  go_upto_region 2 with (fail)
  have hb := blk_new w1 (.cells #[.int .i64 tk, .int .i64 tf, .int .i64 tu] TTk)
  have h2 := ps_box hn1 #[.int .i64 tk, .int .i64 tf, .int .i64 tu]
  have hs2 : Step No w (w1.alloc (.cells #[.int .i64 tk, .int .i64 tf, .int .i64 tu] TTk)) := hns1.alloc _
  generalize hW : World.alloc w1 _ = w2 at *
  generalize w1.heap.size = r at *
  clear hW hn1 hns1
  obtain ⟨nv, hblk⟩ := ps_blk h2
  have c1 := blk_cell hblk 1
  have f1 := blk_free hblk 1
  simp at c1
  have hinc := ps_inc h2
  go_upto_region 3 with (fail)
  generalize hW : World.setCell w2 ⟨b, 1, none⟩ _ = w3 at *
  clear hW c1 f1 hblk
  obtain ⟨h3, hs3⟩ := hinc
  have hb3 := box_stays h2 hb hs3
  have hsw3 : Step (PF b base w) w w3 := pf_trans hs2.none hs3
  clear h2 hs3 hs2 hb h
  have t0 := blk_cell hb3 0
  have t1 := blk_cell hb3 1
  have t2 := blk_cell hb3 2
  simp at t0 t1 t2
  have hQ := HQ0.out.symm
  by_cases h6 : tk = 6
  · subst h6
    have HQ := Lib.hid (hQ.trans (if_pos rfl))
    clear hQ HQ0
    go_wp2_with fail
    refine (node_s w3 b base ts en tv _ 4 tf tu h3 hlen).mono ?_
    rintro e w4 ⟨rfl, h4, hs4⟩
    go_wp2
    go_ret
    exact ⟨by rw [HQ.out]; rfl, by rw [HQ.out]; exact h4, pf_trans hsw3 hs4⟩
  · have e6 : (tk == 6) = false := beq_eq_false_iff_ne.2 h6
    rw [if_neg h6] at hQ
    by_cases h7 : tk = 7
    · subst h7
      have HQ := Lib.hid (hQ.trans (if_pos rfl))
      clear hQ HQ0
      go_wp2_with fail
      refine (node_s w3 b base ts en tv _ 5 tf tu h3 hlen).mono ?_
      rintro e w4 ⟨rfl, h4, hs4⟩
      go_wp2
      go_ret
      exact ⟨by rw [HQ.out]; rfl, by rw [HQ.out]; exact h4, pf_trans hsw3 hs4⟩
    · have e7 : (tk == 7) = false := beq_eq_false_iff_ne.2 h7
      rw [if_neg h7] at hQ
      by_cases h8 : tk = 8
      · subst h8
        have HQ := Lib.hid (hQ.trans (if_pos rfl))
        clear hQ HQ0
        go_wp2_with fail
        refine (node_s w3 b base ts en tv _ 6 tf tu h3 hlen).mono ?_
        rintro e w4 ⟨rfl, h4, hs4⟩
        go_wp2
        go_ret
        exact ⟨by rw [HQ.out]; rfl, by rw [HQ.out]; exact h4, pf_trans hsw3 hs4⟩
      · have e8 : (tk == 8) = false := beq_eq_false_iff_ne.2 h8
        rw [if_neg h8] at hQ
        by_cases h0 : tk = 0
        · subst h0
          have HQ := Lib.hid (hQ.trans (if_pos rfl))
          clear hQ HQ0
          have gl := hG.fit (leaf_fit (T := ts.length) hwf hi 1 tf tu)
          go_wp2_with fail
          refine (node_s w3 b base ts en tv _ 1 tf tu h3 hlen).mono ?_
          rintro e w4 ⟨rfl, h4, hs4⟩
          go_wp2_with fail
          refine (list_s hT ih w4 b base tv _ s.2.length 1 d (by decide) h4 (by simp only [len_node]; omega) (by simp only; omega) (by simp only; omega) (gl.le (by omega))).mono ?_
          rintro e w5 ⟨rfl, h5, hs5⟩
          go_wp2
          go_ret
          exact ⟨by rw [HQ.out]; rfl, by rw [HQ.out]; exact h5, pf_trans (pf_trans hsw3 hs4) hs5⟩
        · have e0 : (tk == 0) = false := beq_eq_false_iff_ne.2 h0
          have HQ := Lib.hid (hQ.trans (if_neg h0))
          clear hQ HQ0
          have gl := hG.fit (leaf_fit (T := ts.length) hwf hi 2 tf tu)
          go_wp2_with fail
          refine (node_s w3 b base ts en tv _ 2 tf tu h3 hlen).mono ?_
          rintro e w4 ⟨rfl, h4, hs4⟩
          go_wp2_with fail
          refine (list_s hT ih w4 b base tv _ s.2.length 3 d (by decide) h4 (by simp only [len_node]; omega) (by simp only; omega) (by simp only; omega) (gl.le (by omega))).mono ?_
          rintro e w5 ⟨rfl, h5, hs5⟩
          go_wp2
          go_ret
          exact ⟨by rw [HQ.out]; rfl, by rw [HQ.out]; exact h5, pf_trans (pf_trans hsw3 hs4) hs5⟩
theorem value_s {ts : List TokD} {en : Int} (hT : ts.length ≤ 300) : ∀ n, ValC ts en n
  | 0 => fun w b base tv s d h hi hn hd hG => by omega
  | n + 1 => value_next hT (value_s hT n)
end Go.Proofs.YtkamhpbfebdhjaaGreatDoor.RefPar8
