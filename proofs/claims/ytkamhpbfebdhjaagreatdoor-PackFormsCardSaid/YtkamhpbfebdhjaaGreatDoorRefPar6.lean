/- The document's parser: an element, a list, a value. -/
import Derived.Test.YtkamhpbfebdhjaaGreatDoorRefPar5
namespace Go.Proofs.YtkamhpbfebdhjaaGreatDoor.RefPar6
open Go.RowKit Go.Lib Go.Proofs.YtkamhpbfebdhjaaGreatDoor.Mem Go.Proofs.YtkamhpbfebdhjaaGreatDoor.Read Go.Proofs.YtkamhpbfebdhjaaGreatDoor.Tree Go.Proofs.YtkamhpbfebdhjaaGreatDoor.Data Go.Proofs.YtkamhpbfebdhjaaGreatDoor.OwnR Go.Proofs.YtkamhpbfebdhjaaGreatDoor.Tr Go.Proofs.YtkamhpbfebdhjaaGreatDoor.Tr2 Go.Proofs.YtkamhpbfebdhjaaGreatDoor.ParS Go.Proofs.YtkamhpbfebdhjaaGreatDoor.ParG Go.Proofs.YtkamhpbfebdhjaaGreatDoor.LexS Go.Proofs.YtkamhpbfebdhjaaGreatDoor.RefLex4 Go.Proofs.YtkamhpbfebdhjaaGreatDoor.RefPar1 Go.Proofs.YtkamhpbfebdhjaaGreatDoor.RefPar2 Go.Proofs.YtkamhpbfebdhjaaGreatDoor.RefPar3 Go.Proofs.YtkamhpbfebdhjaaGreatDoor.RefPar4 Go.Proofs.YtkamhpbfebdhjaaGreatDoor.RefPar5
set_option linter.unusedVariables false
set_option linter.unusedSimpArgs false
set_option maxHeartbeats 4000000 in
set_option maxRecDepth 100000 in
theorem elem_s {ts : List TokD} {en : Int} {n : Nat} (hT : ts.length ≤ 300) (hV : ValC ts en n) (w : World) (b base : Nat) (tv : Value) (s : PS) (id closer d : Nat) (hcl : closer = 1 ∨ closer = 3) (h : PS' w b base ts en tv s) (hx : id < s.2.length) (hi : s.1 < ts.length) (hn : ts.length ≤ s.1 + n) (hd : d + 1 + ts.length ≤ s.1 + 700) (hG : Fine ts.length (4995 - 10 * n) s) :
    Calls Tryz.prog 72 #[.pointer (some ⟨b, 0, none⟩), .int .i64 (id : Nat), .int .i64 (closer : Nat), .int .i64 (d : Nat)] w (Out (.tuple #[]) w b base ts en tv (elemS ts en (valueS ts en n) id closer d s)) := by
  have hf := valC_fits (ts := ts) (en := en) n
  obtain ⟨R, hR⟩ : ∃ R, elemS ts en (valueS ts en n) id closer d s = R := ⟨_, rfl⟩
  rw [hR]
  unfold elemS at hR
  have hlen := hG.len (by omega)
  have htot := hG.tots (by omega)
  rcases hcl with rfl | rfl
  · rw [if_neg (by decide)] at hR
    by_cases hk6 : (tokS ts en s.1).kind = 6
    · rw [if_pos hk6] at hR
      have HK6 := Lib.hid hk6
      have HR := Lib.hid hR
      have g1 := hG.fit (node_fit hG.wf hG.on 3 (tokS ts en s.1).fr (tokS ts en s.1).up)
      have g2 := hG.fit (kid_fit (node_fit hG.wf hG.on 3 (tokS ts en s.1).fr (tokS ts en s.1).up) id (c := s.2.length) (by simp [len_node]))
      simp only at g1 g2
      clear hk6 hR
      go_enter Tryz.func72, Tryz.ntmps72
      go_wp2_with fail
      refine (next_s w b base ts en tv s h (by have := hG.on; omega) (by omega)).mono ?_
      unfold NOut
      obtain ⟨t, ht⟩ : ∃ t, tokS ts en s.1 = t := ⟨_, rfl⟩
      have HT := Lib.hid ht
      rw [ht] at HK6 HR g1 g2 ⊢
      clear ht
      obtain ⟨tk, tf, tu⟩ := t
      rintro e w1 ⟨rfl, hn1, hns1⟩
      simp only at HK6 HR g1 g2 ⊢
      have e6 : (tk == 6) = true := beq_iff_eq.2 HK6.out
      go_upto_region 4 with (fail)
      have hb := blk_new w1 (.cells #[.int .i64 tk, .int .i64 tf, .int .i64 tu] TTk)
      have h2 := ps_box hn1 #[.int .i64 tk, .int .i64 tf, .int .i64 tu]
      have hs2 : Step No w (w1.alloc (.cells #[.int .i64 tk, .int .i64 tf, .int .i64 tu] TTk)) := hns1.alloc _
      generalize hW : World.alloc w1 _ = w2 at *
      generalize w1.heap.size = r at *
      clear hW hn1 hns1
      have t0 := blk_cell hb 0
      have t1 := blk_cell hb 1
      have t2 := blk_cell hb 2
      simp at t0 t1 t2
      go_wp2_with fail
      refine (node_s w2 b base ts en tv _ 3 tf tu h2 hlen).mono ?_
      rintro e w3 ⟨rfl, h3, hs3⟩
      go_wp2_with fail
      refine (kid_s w3 b base ts en tv _ id _ h3 (by simp only [len_node]; omega) (g1.tots (by omega))).mono ?_
      rintro e w4 ⟨rfl, h4, hs4⟩
      go_wp2_with fail
      refine (pair_s hT hV w4 b base tv _ s.2.length d h4 (by simp only [len_kid, len_node]; omega) hi (by simp only; rw [HT.out]; exact HK6.out) hn (by simp only; omega) (g2.le (by omega))).mono ?_
      rintro e w5 ⟨rfl, h5, hs5⟩
      go_wp2
      go_end0
      exact ⟨rfl, by rw [← HR.out]; exact h5, pf_trans (pf_trans (pf_trans hs2.none hs3) hs4) hs5⟩
    · rw [if_neg hk6] at hR
      have HR := Lib.hid hR
      have e6 : ((tokS ts en s.1).kind == 6) = false := beq_eq_false_iff_ne.2 hk6
      clear hk6 hR
      go_enter Tryz.func72, Tryz.ntmps72
      go_wp2_with fail
      refine (next_s w b base ts en tv s h (by have := hG.on; omega) (by omega)).mono ?_
      unfold NOut
      generalize tokS ts en s.1 = t at *
      obtain ⟨tk, tf, tu⟩ := t
      rintro e w1 ⟨rfl, hn1, hns1⟩
      simp only at e6 ⊢
      go_upto_region 4 with (fail)
      have hb := blk_new w1 (.cells #[.int .i64 tk, .int .i64 tf, .int .i64 tu] TTk)
      have h2 := ps_box hn1 #[.int .i64 tk, .int .i64 tf, .int .i64 tu]
      have hs2 : Step No w (w1.alloc (.cells #[.int .i64 tk, .int .i64 tf, .int .i64 tu] TTk)) := hns1.alloc _
      generalize hW : World.alloc w1 _ = w2 at *
      generalize w1.heap.size = r at *
      clear hW hn1 hns1
      have t0 := blk_cell hb 0
      have t1 := blk_cell hb 1
      have t2 := blk_cell hb 2
      simp at t0 t1 t2
      go_wp2_with fail
      refine (wrapped_s hT hV w2 b base tv s id (d + 1) h2 hx hi hn (by omega) hG).mono ?_
      rintro e w3 ⟨rfl, h3, hs3⟩
      go_wp2
      go_end0
      exact ⟨rfl, by rw [← HR.out]; exact h3, pf_trans hs2.none hs3⟩
  · rw [if_pos rfl] at hR
    obtain ⟨fv, hv1, hv2, hv3⟩ := hf (d + 1) s hi hn hG.wf
    have gv := hG.fit fv
    have htv := gv.tots (by omega)
    have HR := Lib.hid hR
    clear hR
    go_enter Tryz.func72, Tryz.ntmps72
    go_wp2_with fail
    refine (next_s w b base ts en tv s h (by have := hG.on; omega) (by omega)).mono ?_
    unfold NOut
    generalize tokS ts en s.1 = t at *
    obtain ⟨tk, tf, tu⟩ := t
    rintro e w1 ⟨rfl, hn1, hns1⟩
    simp only
    go_upto_region 3 with (fail)
    have h2 := ps_box hn1 #[.int .i64 tk, .int .i64 tf, .int .i64 tu]
    have hs2 : Step No w (w1.alloc (.cells #[.int .i64 tk, .int .i64 tf, .int .i64 tu] TTk)) := hns1.alloc _
    generalize hW : World.alloc w1 _ = w2 at *
    generalize w1.heap.size = r at *
    clear hW hn1 hns1
    go_wp2_with fail
    refine (hV w2 b base tv s (d + 1) h2 hi hn (by omega) (hG.le (by omega))).mono ?_
    rintro e w3 ⟨rfl, h3, hs3⟩
    go_wp2_with fail
    refine (kid_s w3 b base ts en tv _ id _ h3 (Nat.lt_of_lt_of_le hx fv.grow) htv).mono ?_
    rintro e w4 ⟨rfl, h4, hs4⟩
    go_wp2
    go_end0
    exact ⟨rfl, by rw [← HR.out]; exact h4, pf_trans (pf_trans hs2.none hs3) hs4⟩
/-- One round of the list's loop. -/
theorem loop_go {ts : List TokD} {e : Int} {val : VF} {id closer d f st : Nat} {s R : PS} (hf : ts.length < s.1 + f) (hs : s.1 ≤ ts.length) (h : loopS ts e val id closer d f st s = R) : ∃ g, f = g + 1 ∧ ts.length < s.1 + 1 + g ∧
    R = (if s.1 < ts.length then (if (tokS ts e s.1).kind = closer then (s.1 + 1, closeS (if st = 2 then lackS s.2 id (tokS ts e s.1).fr else s.2) id (tokS ts e s.1).up)
      else if (tokS ts e s.1).kind = 5 ∧ st = 1 then loopS ts e val id closer d g 2 (s.1 + 1, s.2)
      else if startsS (tokS ts e s.1) (d + 1) = true then loopS ts e val id closer d g 1 (elemS ts e val id closer d (s.1, if st = 1 then lackS s.2 id (tokS ts e s.1).fr else s.2))
      else loopS ts e val id closer d g st (strayS ts e id s)) else (s.1, closeS (lackS s.2 id e) id e)) := by
  obtain ⟨g, rfl⟩ : ∃ g, f = g + 1 := ⟨f - 1, by omega⟩
  exact ⟨g, rfl, by omega, h.symm⟩
end Go.Proofs.YtkamhpbfebdhjaaGreatDoor.RefPar6
