/- The document's parser: what stands on its first steps: a lack, a stray token, does a value begin. -/
import Derived.Test.YtkamhpbfebdhjaaGreatDoorRefPar2
namespace Go.Proofs.YtkamhpbfebdhjaaGreatDoor.RefPar3
open Go.RowKit Go.Lib Go.Proofs.YtkamhpbfebdhjaaGreatDoor.Mem Go.Proofs.YtkamhpbfebdhjaaGreatDoor.Read Go.Proofs.YtkamhpbfebdhjaaGreatDoor.Tree Go.Proofs.YtkamhpbfebdhjaaGreatDoor.Data Go.Proofs.YtkamhpbfebdhjaaGreatDoor.OwnR Go.Proofs.YtkamhpbfebdhjaaGreatDoor.Tr Go.Proofs.YtkamhpbfebdhjaaGreatDoor.Tr2 Go.Proofs.YtkamhpbfebdhjaaGreatDoor.ParS Go.Proofs.YtkamhpbfebdhjaaGreatDoor.LexS Go.Proofs.YtkamhpbfebdhjaaGreatDoor.RefLex4 Go.Proofs.YtkamhpbfebdhjaaGreatDoor.RefPar1 Go.Proofs.YtkamhpbfebdhjaaGreatDoor.RefPar2
set_option linter.unusedVariables false
set_option linter.unusedSimpArgs false
section
variable {w w' W : World} {b base : Nat} {ts : List TokD} {en : Int} {tv : Value} {s : PS}
/-- A token's box stays. -/
theorem box_stays (h : PS' w b base ts en tv s) {r : Nat} {cs : Array Value} (hr : w.heap[r]? = some (.cells cs TTk (0, 0))) (hs : Step (PF b base w) w w') : w'.heap[r]? = some (.cells cs TTk (0, 0)) := by
  obtain ⟨nv, ys, h⟩ := h
  refine hs.blk hr ?_
  rintro (rfl | ⟨_, cs', t, hc, ht⟩)
  · exact blk_ne hr h.blk (by decide) rfl
  · rw [hr] at hc
    injection hc with hc
    injection hc with _ hc _
    rcases ht with rfl | rfl
    · exact absurd hc (by decide)
    · exact absurd hc (by decide)
theorem ps_blk (h : PS' w b base ts en tv s) : ∃ nv, w.heap[b]? = some (.cells #[tv, .int .i64 (s.1 : Nat), .int .i64 en, .int .i64 0, .int .i64 0, nv] TP (0, 0)) := by
  obtain ⟨nv, ys, h⟩ := h
  exact ⟨nv, h.blk⟩
theorem ps_inc (h : PS' w b base ts en tv s) : PS' (w.setCell ⟨b, 1, none⟩ (.int .i64 ((s.1 : Int) + 1))) b base ts en tv (s.1 + 1, s.2) ∧ Step (PF b base w) w (w.setCell ⟨b, 1, none⟩ (.int .i64 ((s.1 : Int) + 1))) := by
  obtain ⟨nv, ys, h⟩ := h
  have hS : Step (fun k => k = b) w (w.setCell ⟨b, 1, none⟩ (.int .i64 ((s.1 : Int) + 1))) := by refine set_at (Step.refl _ _) ?_ _ <;> rfl
  refine ⟨⟨nv, ys, ⟨?_, tks_row h.tks hS (Types.at h.blk ⟨by decide, trivial⟩), nodes_go h.nodes hS (Types.at h.blk ⟨by decide, by decide⟩), h.eq, h.apart, by simpa [World.setCell] using h.le⟩⟩, hS.mono (fun j _ e => .inl e)⟩
  have := blk_set h.blk 1 (.int .i64 ((s.1 : Int) + 1))
  simpa [PB] using this
/-- A box of a token is made beside. -/
theorem ps_box (h : PS' w b base ts en tv s) (cs : Array Value) : PS' (w.alloc (.cells cs TTk)) b base ts en tv s := h.no (Step.alloc (Step.refl No w) _)
/-- A cell of such a box is set. -/
theorem ps_setbox (h : PS' w b base ts en tv s) {r : Nat} {cs : Array Value} (hr : w.heap[r]? = some (.cells cs TTk (0, 0))) (hne : tv.ownBlock ≠ some r) (j : Nat) (v : Value) : PS' (w.setCell ⟨r, j, none⟩ v) b base ts en tv s := by
  obtain ⟨nv, ys, h⟩ := h
  have hS : Step (fun k => k = r) w (w.setCell ⟨r, j, none⟩ v) := by refine set_at (Step.refl _ _) ?_ _ <;> rfl
  exact ⟨nv, ys, ⟨hS.blk h.blk (fun e => blk_ne h.blk hr (by decide) e), ⟨row_step h.tks.1 hS (fun k hk e => hne (by rw [hk, e])), h.tks.2.1, h.tks.2.2⟩, nodes_go h.nodes hS (Types.at hr ⟨by decide, by decide⟩), h.eq, h.apart, by simpa [World.setCell] using h.le⟩⟩
end
theorem starts_any (t : TokD) (d : Nat) (w : World) (hd : d ≤ 1000) : Calls Tryz.prog 15 #[.agg #[.int .i64 t.kind, .int .i64 t.fr, .int .i64 t.up], .int .i64 (d : Nat)] w fun e w' => e = .returned (.bool (startsS t d)) ∧ Step No w w' := by
  obtain ⟨k, f, u⟩ := t
  have H : Hid (startsS ⟨k, f, u⟩ d = if k = 6 ∨ k = 7 ∨ k = 8 then true else if k = 0 ∨ k = 2 then decide (d ≤ 12) else false) := Lib.hid rfl
  simp only
  rw [H.out]
  clear H
  have c0 : (w.alloc (.cells #[.int .i64 k, .int .i64 f, .int .i64 u] TTk)).cell? ⟨w.heap.size, 0, none⟩ = some (.int .i64 k) := blk_cell (blk_new w _) 0
  have hs : Step No w (w.alloc (.cells #[.int .i64 k, .int .i64 f, .int .i64 u] TTk)) := (Step.refl No w).alloc _
  have HS := Lib.hid hs
  clear hs
  by_cases h6 : k = 6
  · subst h6
    go_enter Tryz.func15, Tryz.ntmps15
    go_wp2
    go_ret
    exact ⟨by simp, HS.out⟩
  · by_cases h7 : k = 7
    · subst h7
      go_enter Tryz.func15, Tryz.ntmps15
      go_wp2
      go_ret
      exact ⟨by simp, HS.out⟩
    · by_cases h8 : k = 8
      · subst h8
        go_enter Tryz.func15, Tryz.ntmps15
        go_wp2
        go_ret
        exact ⟨by simp, HS.out⟩
      · rw [if_neg (by omega)]
        have e6 : (k == 6) = false := beq_eq_false_iff_ne.2 h6
        have e7 : (k == 7) = false := beq_eq_false_iff_ne.2 h7
        have e8 : (k == 8) = false := beq_eq_false_iff_ne.2 h8
        by_cases h0 : k = 0
        · subst h0
          clear h6 h7 h8
          by_cases hd2 : d ≤ 12
          · go_enter Tryz.func15, Tryz.ntmps15
            go_wp2
            go_ret
            exact ⟨by simp [hd2] <;> omega, HS.out⟩
          · go_enter Tryz.func15, Tryz.ntmps15
            go_wp2
            go_ret
            exact ⟨by simp [hd2] <;> omega, HS.out⟩
        · by_cases h2 : k = 2
          · subst h2
            clear h6 h7 h8 h0
            by_cases hd2 : d ≤ 12
            · go_enter Tryz.func15, Tryz.ntmps15
              go_wp2
              go_ret
              exact ⟨by simp [hd2] <;> omega, HS.out⟩
            · go_enter Tryz.func15, Tryz.ntmps15
              go_wp2
              go_ret
              exact ⟨by simp [hd2] <;> omega, HS.out⟩
          · rw [if_neg (by omega)]
            have e0 : (k == 0) = false := beq_eq_false_iff_ne.2 h0
            have e2 : (k == 2) = false := beq_eq_false_iff_ne.2 h2
            clear h6 h7 h8 h0 h2
            go_enter Tryz.func15, Tryz.ntmps15
            go_wp2
            go_ret
            exact ⟨rfl, HS.out⟩
theorem lack_s (w : World) (b base : Nat) (ts : List TokD) (en : Int) (tv : Value) (s : PS) (k : Nat) (z : Int) (h : PS' w b base ts en tv s) (hk : k < s.2.length) (hl : s.2.length ≤ 5000) (ht : tot s.2 ≤ 5000) :
    Calls Tryz.prog 20 #[.pointer (some ⟨b, 0, none⟩), .int .i64 (k : Nat), .int .i64 z] w (Out (.tuple #[]) w b base ts en tv (s.1, lackS s.2 k z)) := by
  go_enter Tryz.func20, Tryz.ntmps20
  go_wp2_with fail
  refine (node_s w b base ts en tv s 7 z z h hl).mono ?_
  rintro e w1 ⟨rfl, h1, hs1⟩
  go_wp2_with fail
  refine (kid_s w1 b base ts en tv _ k _ h1 (by simp only [len_node]; omega) (by simp only [tot_node]; exact ht)).mono ?_
  rintro e w2 ⟨rfl, h2, hs2⟩
  go_wp2
  go_end0
  exact ⟨rfl, h2, pf_trans hs1 hs2⟩
/-- The parser goes on by one: its place is raised. -/
theorem stray_s (w : World) (b base : Nat) (ts : List TokD) (en : Int) (tv : Value) (s : PS) (k : Nat) (h : PS' w b base ts en tv s) (hk : k < s.2.length) (hl : s.2.length ≤ 5000) (ht : tot s.2 ≤ 5000) (hi : s.1 ≤ 5000) (hT : ts.length ≤ 5000) :
    Calls Tryz.prog 16 #[.pointer (some ⟨b, 0, none⟩), .int .i64 (k : Nat)] w (Out (.tuple #[]) w b base ts en tv (strayS ts en k s)) := by
  unfold strayS
  go_enter Tryz.func16, Tryz.ntmps16
  go_wp2_with fail
  refine (next_s w b base ts en tv s h hi hT).mono ?_
  unfold NOut
  generalize tokS ts en s.1 = t at *
  obtain ⟨tk, tf, tu⟩ := t
  rintro e w1 ⟨rfl, h1, hs1⟩
  simp only
  go_upto_region 1 with (fail)
  have hb := blk_new w1 (.cells #[.int .i64 tk, .int .i64 tf, .int .i64 tu] TTk)
  have h2 := ps_box h1 #[.int .i64 tk, .int .i64 tf, .int .i64 tu]
  have hs2 : Step No w (w1.alloc (.cells #[.int .i64 tk, .int .i64 tf, .int .i64 tu] TTk)) := hs1.alloc _
  generalize hW : World.alloc w1 _ = w2 at *
  generalize w1.heap.size = r at *
  clear hW h h1 hs1
  obtain ⟨nv, hblk⟩ := ps_blk h2
  have c1 := blk_cell hblk 1
  have f1 := blk_free hblk 1
  simp at c1
  have hinc := ps_inc h2
  go_upto_region 2 with (fail)
  generalize hW : World.setCell w2 ⟨b, 1, none⟩ _ = w3 at *
  clear hW c1 f1 hblk
  have hb3 := box_stays h2 hb hinc.2
  have t0 := blk_cell hb3 0
  have t1 := blk_cell hb3 1
  have t2 := blk_cell hb3 2
  simp at t0 t1 t2
  go_wp2_with fail
  refine (node_s _ b base ts en tv _ 7 tf tu hinc.1 hl).mono ?_
  rintro e w4 ⟨rfl, h4, hs4⟩
  go_wp2_with fail
  refine (kid_s w4 b base ts en tv _ k _ h4 (by simp only [len_node]; omega) (by simp only [tot_node]; exact ht)).mono ?_
  rintro e w5 ⟨rfl, h5, hs5⟩
  go_wp2
  go_end0
  exact ⟨rfl, h5, pf_trans (pf_trans (pf_trans hs2.none hinc.2) hs4) hs5⟩
end Go.Proofs.YtkamhpbfebdhjaaGreatDoor.RefPar3
