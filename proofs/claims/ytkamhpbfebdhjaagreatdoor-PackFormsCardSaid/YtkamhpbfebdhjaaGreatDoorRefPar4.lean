/- The document's parser: a wrapped value, a pair, an element, given what a value is. -/
import Derived.Test.YtkamhpbfebdhjaaGreatDoorRefPar3
import Derived.Test.YtkamhpbfebdhjaaGreatDoorParG
namespace Go.Proofs.YtkamhpbfebdhjaaGreatDoor.RefPar4
open Go.RowKit Go.Lib Go.Proofs.YtkamhpbfebdhjaaGreatDoor.Mem Go.Proofs.YtkamhpbfebdhjaaGreatDoor.Read Go.Proofs.YtkamhpbfebdhjaaGreatDoor.Tree Go.Proofs.YtkamhpbfebdhjaaGreatDoor.Data Go.Proofs.YtkamhpbfebdhjaaGreatDoor.OwnR Go.Proofs.YtkamhpbfebdhjaaGreatDoor.Tr Go.Proofs.YtkamhpbfebdhjaaGreatDoor.Tr2 Go.Proofs.YtkamhpbfebdhjaaGreatDoor.ParS Go.Proofs.YtkamhpbfebdhjaaGreatDoor.ParG Go.Proofs.YtkamhpbfebdhjaaGreatDoor.LexS Go.Proofs.YtkamhpbfebdhjaaGreatDoor.RefLex4 Go.Proofs.YtkamhpbfebdhjaaGreatDoor.RefPar1 Go.Proofs.YtkamhpbfebdhjaaGreatDoor.RefPar2 Go.Proofs.YtkamhpbfebdhjaaGreatDoor.RefPar3
set_option linter.unusedVariables false
set_option linter.unusedSimpArgs false
/-- What a value's call comes to, of so many tokens at most. -/
def ValC (ts : List TokD) (en : Int) (n : Nat) : Prop := ∀ (w : World) (b base : Nat) (tv : Value) (s : PS) (d : Nat), PS' w b base ts en tv s → s.1 < ts.length → ts.length ≤ s.1 + n → d + ts.length ≤ s.1 + 700 → Fine ts.length (5000 - 10 * n) s →
  Calls Tryz.prog 19 #[.pointer (some ⟨b, 0, none⟩), .int .i64 (d : Nat)] w (Out (.int .i64 ((valueS ts en n d s).1 : Nat)) w b base ts en tv (valueS ts en n d s).2)
theorem valC_fits {ts : List TokD} {en : Int} (n : Nat) : ValFit ts (valueS ts en n) n := value_fit n
set_option maxHeartbeats 2000000 in
theorem wrapped_s {ts : List TokD} {en : Int} {n : Nat} (hT : ts.length ≤ 300) (hV : ValC ts en n) (w : World) (b base : Nat) (tv : Value) (s : PS) (k d : Nat) (h : PS' w b base ts en tv s) (hk : k < s.2.length) (hi : s.1 < ts.length) (hn : ts.length ≤ s.1 + n) (hd : d + ts.length ≤ s.1 + 700) (hG : Fine ts.length (4995 - 10 * n) s) :
    Calls Tryz.prog 17 #[.pointer (some ⟨b, 0, none⟩), .int .i64 (k : Nat), .int .i64 (d : Nat)] w (Out (.tuple #[]) w b base ts en tv (wrapS ts en (valueS ts en n) k d s)) := by
  have hf := valC_fits (ts := ts) (en := en) n
  unfold wrapS
  simp only
  go_enter Tryz.func17, Tryz.ntmps17
  go_wp2_with fail
  refine (next_s w b base ts en tv _ h (by have := hG.on; omega) (by omega)).mono ?_
  unfold NOut
  generalize tokS ts en s.1 = t at *
  obtain ⟨tk, tf, tu⟩ := t
  rintro e w1 ⟨rfl, h1, hs1⟩
  simp only
  go_upto_region 1 with (fail)
  have hb := blk_new w1 (.cells #[.int .i64 tk, .int .i64 tf, .int .i64 tu] TTk)
  have h2 := ps_box h1 #[.int .i64 tk, .int .i64 tf, .int .i64 tu]
  have hs2 : Step No w (w1.alloc (.cells #[.int .i64 tk, .int .i64 tf, .int .i64 tu] TTk)) := hs1.alloc _
  generalize hW : World.alloc w1 _ = w2 at *
  generalize w1.heap.size = r at *
  clear hW h1 hs1
  have t0 := blk_cell hb 0
  have t1 := blk_cell hb 1
  have t2 := blk_cell hb 2
  simp at t0 t1 t2
  have g1 := hG.fit (kid_fit (node_fit hG.wf hG.on 7 tf tu) k (c := s.2.length) (by simp [len_node]))
  simp only at g1
  obtain ⟨f2, hlt2, hc2, hx2⟩ := hf d (s.1, kidS (nodeS s.2 7 tf tu) k (s.2.length : Nat)) hi hn g1.wf
  have g2 := g1.fit f2
  have g3 := g1.fit (kid_fit f2 s.2.length hc2)
  simp only [len_kid, len_node] at hx2
  have hl3 : s.2.length < (valueS ts en n d (s.1, kidS (nodeS s.2 7 tf tu) k (s.2.length : Nat))).2.2.length := by omega
  have hlen := hG.len (by omega)
  go_wp2_with fail
  refine (node_s _ b base ts en tv _ 7 tf tu h2 (hG.len (by omega))).mono ?_
  rintro e w3 ⟨rfl, h3, hs3⟩
  have hb3 := box_stays h2 hb hs3
  go_wp2_with fail
  refine (kid_s w3 b base ts en tv _ k _ h3 (by simp only [len_node]; omega) (by simp only [tot_node]; exact hG.tots (by omega))).mono ?_
  rintro e w4 ⟨rfl, h4, hs4⟩
  have hb4 := box_stays h3 hb3 hs4
  go_wp2_with fail
  refine (hV w4 b base tv _ d h4 hi hn hd (g1.le (by omega))).mono ?_
  rintro e w5 ⟨rfl, h5, hs5⟩
  have hb5 := box_stays h4 hb4 hs5
  simp only at h5 hs5 ⊢
  generalize valueS ts en n d (s.1, kidS (nodeS s.2 7 tf tu) k (s.2.length : Nat)) = q at *
  obtain ⟨c, q⟩ := q
  simp only at *
  go_wp2_with fail
  refine (kid_s w5 b base ts en tv _ s.2.length _ h5 hl3 (g2.tots (by omega))).mono ?_
  rintro e w6 ⟨rfl, h6, hs6⟩
  have hb6 := box_stays h5 hb5 hs6
  clear t0 t1 t2
  have t0 := blk_cell hb6 0
  have t1 := blk_cell hb6 1
  have t2 := blk_cell hb6 2
  simp at t0 t1 t2
  go_wp2_with fail
  refine (close_s w6 b base ts en tv _ s.2.length tu h6 (by simp only [len_kid]; exact hl3) (g3.tots (by omega)) (g3.len (by omega)) g3.wf).mono ?_
  rintro e w7 ⟨rfl, h7, hs7⟩
  go_wp2
  go_end0
  exact ⟨rfl, h7, pf_trans (pf_trans (pf_trans (pf_trans (pf_trans hs2.none hs3) hs4) hs5) hs6) hs7⟩
end Go.Proofs.YtkamhpbfebdhjaaGreatDoor.RefPar4
