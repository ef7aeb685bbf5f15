/- May a step be? The reference's answer: children, spans, all. -/
import Derived.Test.YtjeamfoicpgkhaaGreatDoorRefStep1
namespace Go.Proofs.YtjeamfoicpgkhaaGreatDoor.RefStep
open Go.RowKit Go.Lib Go.Proofs.YtjeamfoicpgkhaaGreatDoor.Mem Go.Proofs.YtjeamfoicpgkhaaGreatDoor.Read Go.Proofs.YtjeamfoicpgkhaaGreatDoor.Tree Go.Proofs.YtjeamfoicpgkhaaGreatDoor.Data Go.Proofs.YtjeamfoicpgkhaaGreatDoor.CompR Go.Proofs.YtjeamfoicpgkhaaGreatDoor.MsgR Go.Proofs.YtjeamfoicpgkhaaGreatDoor.May
open Go.Proofs.YtjeamfoicpgkhaaGreatDoor.Same (ints_cell)
set_option linter.unusedVariables false
set_option linter.unusedSimpArgs false
set_option maxHeartbeats 16000000 in
set_option maxRecDepth 100000 in
theorem step3 (w : World) (id no fr up : Int) (ks : List Int) (A : Option Addr) (n c : Nat) (hn : ks.length = n) : Calls Tryz.prog 111 #[.agg #[.int .i64 3, .int .i64 id, .int .i64 no, .int .i64 fr, .int .i64 up, .slice A n c]] w (StepMayPost ⟨3, id, no, fr, up, ks⟩ w) := by
  by_cases h1 : 0 ≤ id
  · by_cases h2 : id < 16777216
    · by_cases h3 : 0 ≤ fr
      · by_cases h4 : fr ≤ up
        · by_cases h5 : up ≤ 4096
          · by_cases h7 : no = 0
            · have q7 : (no == 0) = true := by rw [h7]; rfl
              by_cases h6 : n = 0
              · have q6 : ((n : Int) == 0) = true := by rw [h6]; rfl
                have HR : Hid (stepB ⟨3, id, no, fr, up, ks⟩ = true) := Lib.hid (by (simp [stepB, stepP, idP, h1, h2, h3, h4, h5, h7, hn, h6]))
                clear h7 h6 hn
                go_enter Tryz.func111, Tryz.ntmps111
                go_upto_region 2 with (fail)
                generalize hW : World.alloc (World.alloc w _) _ = W at *
                have HS : Hid (Step No w W) := Lib.hid (by rw [← hW]; exact ((Step.refl No w).alloc _).alloc _)
                have HBs : Hid (W.heap[w.heap.size]? = some (.cells #[.int .i64 3, .int .i64 id, .int .i64 no, .int .i64 fr, .int .i64 up, .slice A n c] TS (0, 0))) := Lib.hid (by rw [← hW]; exact blk_alloc (blk_new _ _) _)
                have HBy : Hid (W.heap[w.heap.size + 1]? = some (.cells #[.int .i64 3, .int .i64 id, .int .i64 0, .int .i64 0, .int .i64 0, .slice none 0 0] TS (0, 0))) := Lib.hid (by rw [← hW]; simpa using blk_new (w.alloc _) _)
                clear hW
                obtain ⟨b1, hb1⟩ : ∃ b, w.heap.size + 1 = b := ⟨_, rfl⟩
                have hne : w.heap.size ≠ b1 := by omega
                have hge : w.heap.size ≤ b1 := by omega
                rw [hb1] at HBy ⊢
                clear hb1
                obtain ⟨s0, s1, s2, s3, s4, s5⟩ := cells6 HBs.out
                obtain ⟨y0, y1, y2, y3, y4, y5⟩ := cells6 HBy.out
                have y3f := blk_free HBy.out 3
                go_upto_region 17 with (fail)
                generalize hW : World.setCell W _ _ = W2 at *
                have HS2 : Hid (Step No w W2) := Lib.hid (by rw [← hW]; exact HS.out.setCell (fun h => absurd (show b1 < w.heap.size from h) (by omega)) _)
                have HBs2 : Hid (W2.heap[w.heap.size]? = some (.cells #[.int .i64 3, .int .i64 id, .int .i64 no, .int .i64 fr, .int .i64 up, .slice A n c] TS (0, 0))) := Lib.hid (by rw [← hW]; exact blk_set_other HBs.out hne.symm _)
                have HBy2 : Hid (W2.heap[b1]? = some (.cells #[.int .i64 3, .int .i64 id, .int .i64 0, .int .i64 fr, .int .i64 0, .slice none 0 0] TS (0, 0))) := Lib.hid (by rw [← hW]; have := blk_set HBy.out 3 (.int .i64 fr); simpa using this)
                clear hW s0 s1 s2 s3 s4 s5 y0 y1 y2 y3 y4 y5 y3f HS HBs HBy
                obtain ⟨s0, s1, s2, s3, s4, s5⟩ := cells6 HBs2.out
                obtain ⟨y0, y1, y2, y3, y4, y5⟩ := cells6 HBy2.out
                have y4f := blk_free HBy2.out 4
                go_upto_region 18 with (fail)
                generalize hW : World.setCell W2 _ _ = W3 at *
                have HS3 : Hid (Step No w W3) := Lib.hid (by rw [← hW]; exact HS2.out.setCell (fun h => absurd (show b1 < w.heap.size from h) (by omega)) _)
                have HBs3 : Hid (W3.heap[w.heap.size]? = some (.cells #[.int .i64 3, .int .i64 id, .int .i64 no, .int .i64 fr, .int .i64 up, .slice A n c] TS (0, 0))) := Lib.hid (by rw [← hW]; exact blk_set_other HBs2.out hne.symm _)
                have HBy3 : Hid (W3.heap[b1]? = some (.cells #[.int .i64 3, .int .i64 id, .int .i64 0, .int .i64 fr, .int .i64 up, .slice none 0 0] TS (0, 0))) := Lib.hid (by rw [← hW]; have := blk_set HBy2.out 4 (.int .i64 up); simpa using this)
                clear hW s0 s1 s2 s3 s4 s5 y0 y1 y2 y3 y4 y5 y4f HS2 HBs2 HBy2
                obtain ⟨s0, s1, s2, s3, s4, s5⟩ := cells6 HBs3.out
                obtain ⟨y0, y1, y2, y3, y4, y5⟩ := cells6 HBy3.out
                go_wp2
                go_ret
                exact ⟨by rw [HR.out]; rfl, HS3.out⟩
              · have q6 : ((n : Int) == 0) = false := by rw [beq_eq_false_iff_ne]; omega
                have HR : Hid (stepB ⟨3, id, no, fr, up, ks⟩ = false) := Lib.hid (by (simp [stepB, stepP, idP, h1, h2, h3, h4, h5, h7, hn, h6]))
                clear h7 h6 hn
                go_enter Tryz.func111, Tryz.ntmps111
                go_upto_region 2 with (fail)
                generalize hW : World.alloc (World.alloc w _) _ = W at *
                have HS : Hid (Step No w W) := Lib.hid (by rw [← hW]; exact ((Step.refl No w).alloc _).alloc _)
                have HBs : Hid (W.heap[w.heap.size]? = some (.cells #[.int .i64 3, .int .i64 id, .int .i64 no, .int .i64 fr, .int .i64 up, .slice A n c] TS (0, 0))) := Lib.hid (by rw [← hW]; exact blk_alloc (blk_new _ _) _)
                have HBy : Hid (W.heap[w.heap.size + 1]? = some (.cells #[.int .i64 3, .int .i64 id, .int .i64 0, .int .i64 0, .int .i64 0, .slice none 0 0] TS (0, 0))) := Lib.hid (by rw [← hW]; simpa using blk_new (w.alloc _) _)
                clear hW
                obtain ⟨b1, hb1⟩ : ∃ b, w.heap.size + 1 = b := ⟨_, rfl⟩
                have hne : w.heap.size ≠ b1 := by omega
                have hge : w.heap.size ≤ b1 := by omega
                rw [hb1] at HBy ⊢
                clear hb1
                obtain ⟨s0, s1, s2, s3, s4, s5⟩ := cells6 HBs.out
                obtain ⟨y0, y1, y2, y3, y4, y5⟩ := cells6 HBy.out
                have y3f := blk_free HBy.out 3
                go_upto_region 17 with (fail)
                generalize hW : World.setCell W _ _ = W2 at *
                have HS2 : Hid (Step No w W2) := Lib.hid (by rw [← hW]; exact HS.out.setCell (fun h => absurd (show b1 < w.heap.size from h) (by omega)) _)
                have HBs2 : Hid (W2.heap[w.heap.size]? = some (.cells #[.int .i64 3, .int .i64 id, .int .i64 no, .int .i64 fr, .int .i64 up, .slice A n c] TS (0, 0))) := Lib.hid (by rw [← hW]; exact blk_set_other HBs.out hne.symm _)
                have HBy2 : Hid (W2.heap[b1]? = some (.cells #[.int .i64 3, .int .i64 id, .int .i64 0, .int .i64 fr, .int .i64 0, .slice none 0 0] TS (0, 0))) := Lib.hid (by rw [← hW]; have := blk_set HBy.out 3 (.int .i64 fr); simpa using this)
                clear hW s0 s1 s2 s3 s4 s5 y0 y1 y2 y3 y4 y5 y3f HS HBs HBy
                obtain ⟨s0, s1, s2, s3, s4, s5⟩ := cells6 HBs2.out
                obtain ⟨y0, y1, y2, y3, y4, y5⟩ := cells6 HBy2.out
                have y4f := blk_free HBy2.out 4
                go_upto_region 18 with (fail)
                generalize hW : World.setCell W2 _ _ = W3 at *
                have HS3 : Hid (Step No w W3) := Lib.hid (by rw [← hW]; exact HS2.out.setCell (fun h => absurd (show b1 < w.heap.size from h) (by omega)) _)
                have HBs3 : Hid (W3.heap[w.heap.size]? = some (.cells #[.int .i64 3, .int .i64 id, .int .i64 no, .int .i64 fr, .int .i64 up, .slice A n c] TS (0, 0))) := Lib.hid (by rw [← hW]; exact blk_set_other HBs2.out hne.symm _)
                have HBy3 : Hid (W3.heap[b1]? = some (.cells #[.int .i64 3, .int .i64 id, .int .i64 0, .int .i64 fr, .int .i64 up, .slice none 0 0] TS (0, 0))) := Lib.hid (by rw [← hW]; have := blk_set HBy2.out 4 (.int .i64 up); simpa using this)
                clear hW s0 s1 s2 s3 s4 s5 y0 y1 y2 y3 y4 y5 y4f HS2 HBs2 HBy2
                obtain ⟨s0, s1, s2, s3, s4, s5⟩ := cells6 HBs3.out
                obtain ⟨y0, y1, y2, y3, y4, y5⟩ := cells6 HBy3.out
                go_wp2
                go_ret
                exact ⟨by rw [HR.out]; rfl, HS3.out⟩
            · have q7 : (no == 0) = false := beq_eq_false_iff_ne.2 h7
              have HR : Hid (stepB ⟨3, id, no, fr, up, ks⟩ = false) := Lib.hid (by (simp [stepB, stepP, idP, h7]))
              clear h7 hn
              go_enter Tryz.func111, Tryz.ntmps111
              go_upto_region 2 with (fail)
              generalize hW : World.alloc (World.alloc w _) _ = W at *
              have HS : Hid (Step No w W) := Lib.hid (by rw [← hW]; exact ((Step.refl No w).alloc _).alloc _)
              have HBs : Hid (W.heap[w.heap.size]? = some (.cells #[.int .i64 3, .int .i64 id, .int .i64 no, .int .i64 fr, .int .i64 up, .slice A n c] TS (0, 0))) := Lib.hid (by rw [← hW]; exact blk_alloc (blk_new _ _) _)
              have HBy : Hid (W.heap[w.heap.size + 1]? = some (.cells #[.int .i64 3, .int .i64 id, .int .i64 0, .int .i64 0, .int .i64 0, .slice none 0 0] TS (0, 0))) := Lib.hid (by rw [← hW]; simpa using blk_new (w.alloc _) _)
              clear hW
              obtain ⟨b1, hb1⟩ : ∃ b, w.heap.size + 1 = b := ⟨_, rfl⟩
              have hne : w.heap.size ≠ b1 := by omega
              have hge : w.heap.size ≤ b1 := by omega
              rw [hb1] at HBy ⊢
              clear hb1
              obtain ⟨s0, s1, s2, s3, s4, s5⟩ := cells6 HBs.out
              obtain ⟨y0, y1, y2, y3, y4, y5⟩ := cells6 HBy.out
              have y3f := blk_free HBy.out 3
              go_upto_region 17 with (fail)
              generalize hW : World.setCell W _ _ = W2 at *
              have HS2 : Hid (Step No w W2) := Lib.hid (by rw [← hW]; exact HS.out.setCell (fun h => absurd (show b1 < w.heap.size from h) (by omega)) _)
              have HBs2 : Hid (W2.heap[w.heap.size]? = some (.cells #[.int .i64 3, .int .i64 id, .int .i64 no, .int .i64 fr, .int .i64 up, .slice A n c] TS (0, 0))) := Lib.hid (by rw [← hW]; exact blk_set_other HBs.out hne.symm _)
              have HBy2 : Hid (W2.heap[b1]? = some (.cells #[.int .i64 3, .int .i64 id, .int .i64 0, .int .i64 fr, .int .i64 0, .slice none 0 0] TS (0, 0))) := Lib.hid (by rw [← hW]; have := blk_set HBy.out 3 (.int .i64 fr); simpa using this)
              clear hW s0 s1 s2 s3 s4 s5 y0 y1 y2 y3 y4 y5 y3f HS HBs HBy
              obtain ⟨s0, s1, s2, s3, s4, s5⟩ := cells6 HBs2.out
              obtain ⟨y0, y1, y2, y3, y4, y5⟩ := cells6 HBy2.out
              have y4f := blk_free HBy2.out 4
              go_upto_region 18 with (fail)
              generalize hW : World.setCell W2 _ _ = W3 at *
              have HS3 : Hid (Step No w W3) := Lib.hid (by rw [← hW]; exact HS2.out.setCell (fun h => absurd (show b1 < w.heap.size from h) (by omega)) _)
              have HBs3 : Hid (W3.heap[w.heap.size]? = some (.cells #[.int .i64 3, .int .i64 id, .int .i64 no, .int .i64 fr, .int .i64 up, .slice A n c] TS (0, 0))) := Lib.hid (by rw [← hW]; exact blk_set_other HBs2.out hne.symm _)
              have HBy3 : Hid (W3.heap[b1]? = some (.cells #[.int .i64 3, .int .i64 id, .int .i64 0, .int .i64 fr, .int .i64 up, .slice none 0 0] TS (0, 0))) := Lib.hid (by rw [← hW]; have := blk_set HBy2.out 4 (.int .i64 up); simpa using this)
              clear hW s0 s1 s2 s3 s4 s5 y0 y1 y2 y3 y4 y5 y4f HS2 HBs2 HBy2
              obtain ⟨s0, s1, s2, s3, s4, s5⟩ := cells6 HBs3.out
              obtain ⟨y0, y1, y2, y3, y4, y5⟩ := cells6 HBy3.out
              go_wp2
              go_ret
              exact ⟨by rw [HR.out]; rfl, HS3.out⟩
          · have HR : Hid (stepB ⟨3, id, no, fr, up, ks⟩ = false) := Lib.hid (by (simp [stepB, stepP, idP, h5]))
            clear hn
            go_enter Tryz.func111, Tryz.ntmps111
            go_upto_region 2 with (fail)
            generalize hW : World.alloc (World.alloc w _) _ = W at *
            have HS : Hid (Step No w W) := Lib.hid (by rw [← hW]; exact ((Step.refl No w).alloc _).alloc _)
            have HBs : Hid (W.heap[w.heap.size]? = some (.cells #[.int .i64 3, .int .i64 id, .int .i64 no, .int .i64 fr, .int .i64 up, .slice A n c] TS (0, 0))) := Lib.hid (by rw [← hW]; exact blk_alloc (blk_new _ _) _)
            have HBy : Hid (W.heap[w.heap.size + 1]? = some (.cells #[.int .i64 3, .int .i64 id, .int .i64 0, .int .i64 0, .int .i64 0, .slice none 0 0] TS (0, 0))) := Lib.hid (by rw [← hW]; simpa using blk_new (w.alloc _) _)
            clear hW
            obtain ⟨b1, hb1⟩ : ∃ b, w.heap.size + 1 = b := ⟨_, rfl⟩
            have hne : w.heap.size ≠ b1 := by omega
            have hge : w.heap.size ≤ b1 := by omega
            rw [hb1] at HBy ⊢
            clear hb1
            obtain ⟨s0, s1, s2, s3, s4, s5⟩ := cells6 HBs.out
            obtain ⟨y0, y1, y2, y3, y4, y5⟩ := cells6 HBy.out
            have y3f := blk_free HBy.out 3
            go_upto_region 17 with (fail)
            generalize hW : World.setCell W _ _ = W2 at *
            have HS2 : Hid (Step No w W2) := Lib.hid (by rw [← hW]; exact HS.out.setCell (fun h => absurd (show b1 < w.heap.size from h) (by omega)) _)
            have HBs2 : Hid (W2.heap[w.heap.size]? = some (.cells #[.int .i64 3, .int .i64 id, .int .i64 no, .int .i64 fr, .int .i64 up, .slice A n c] TS (0, 0))) := Lib.hid (by rw [← hW]; exact blk_set_other HBs.out hne.symm _)
            have HBy2 : Hid (W2.heap[b1]? = some (.cells #[.int .i64 3, .int .i64 id, .int .i64 0, .int .i64 fr, .int .i64 0, .slice none 0 0] TS (0, 0))) := Lib.hid (by rw [← hW]; have := blk_set HBy.out 3 (.int .i64 fr); simpa using this)
            clear hW s0 s1 s2 s3 s4 s5 y0 y1 y2 y3 y4 y5 y3f HS HBs HBy
            obtain ⟨s0, s1, s2, s3, s4, s5⟩ := cells6 HBs2.out
            obtain ⟨y0, y1, y2, y3, y4, y5⟩ := cells6 HBy2.out
            have y4f := blk_free HBy2.out 4
            go_upto_region 18 with (fail)
            generalize hW : World.setCell W2 _ _ = W3 at *
            have HS3 : Hid (Step No w W3) := Lib.hid (by rw [← hW]; exact HS2.out.setCell (fun h => absurd (show b1 < w.heap.size from h) (by omega)) _)
            have HBs3 : Hid (W3.heap[w.heap.size]? = some (.cells #[.int .i64 3, .int .i64 id, .int .i64 no, .int .i64 fr, .int .i64 up, .slice A n c] TS (0, 0))) := Lib.hid (by rw [← hW]; exact blk_set_other HBs2.out hne.symm _)
            have HBy3 : Hid (W3.heap[b1]? = some (.cells #[.int .i64 3, .int .i64 id, .int .i64 0, .int .i64 fr, .int .i64 up, .slice none 0 0] TS (0, 0))) := Lib.hid (by rw [← hW]; have := blk_set HBy2.out 4 (.int .i64 up); simpa using this)
            clear hW s0 s1 s2 s3 s4 s5 y0 y1 y2 y3 y4 y5 y4f HS2 HBs2 HBy2
            obtain ⟨s0, s1, s2, s3, s4, s5⟩ := cells6 HBs3.out
            obtain ⟨y0, y1, y2, y3, y4, y5⟩ := cells6 HBy3.out
            go_wp2
            go_ret
            exact ⟨by rw [HR.out]; rfl, HS3.out⟩
        · have HR : Hid (stepB ⟨3, id, no, fr, up, ks⟩ = false) := Lib.hid (by (simp [stepB, stepP, idP, h4]))
          clear hn
          go_enter Tryz.func111, Tryz.ntmps111
          go_upto_region 2 with (fail)
          generalize hW : World.alloc (World.alloc w _) _ = W at *
          have HS : Hid (Step No w W) := Lib.hid (by rw [← hW]; exact ((Step.refl No w).alloc _).alloc _)
          have HBs : Hid (W.heap[w.heap.size]? = some (.cells #[.int .i64 3, .int .i64 id, .int .i64 no, .int .i64 fr, .int .i64 up, .slice A n c] TS (0, 0))) := Lib.hid (by rw [← hW]; exact blk_alloc (blk_new _ _) _)
          have HBy : Hid (W.heap[w.heap.size + 1]? = some (.cells #[.int .i64 3, .int .i64 id, .int .i64 0, .int .i64 0, .int .i64 0, .slice none 0 0] TS (0, 0))) := Lib.hid (by rw [← hW]; simpa using blk_new (w.alloc _) _)
          clear hW
          obtain ⟨b1, hb1⟩ : ∃ b, w.heap.size + 1 = b := ⟨_, rfl⟩
          have hne : w.heap.size ≠ b1 := by omega
          have hge : w.heap.size ≤ b1 := by omega
          rw [hb1] at HBy ⊢
          clear hb1
          obtain ⟨s0, s1, s2, s3, s4, s5⟩ := cells6 HBs.out
          obtain ⟨y0, y1, y2, y3, y4, y5⟩ := cells6 HBy.out
          have y3f := blk_free HBy.out 3
          go_upto_region 17 with (fail)
          generalize hW : World.setCell W _ _ = W2 at *
          have HS2 : Hid (Step No w W2) := Lib.hid (by rw [← hW]; exact HS.out.setCell (fun h => absurd (show b1 < w.heap.size from h) (by omega)) _)
          have HBs2 : Hid (W2.heap[w.heap.size]? = some (.cells #[.int .i64 3, .int .i64 id, .int .i64 no, .int .i64 fr, .int .i64 up, .slice A n c] TS (0, 0))) := Lib.hid (by rw [← hW]; exact blk_set_other HBs.out hne.symm _)
          have HBy2 : Hid (W2.heap[b1]? = some (.cells #[.int .i64 3, .int .i64 id, .int .i64 0, .int .i64 fr, .int .i64 0, .slice none 0 0] TS (0, 0))) := Lib.hid (by rw [← hW]; have := blk_set HBy.out 3 (.int .i64 fr); simpa using this)
          clear hW s0 s1 s2 s3 s4 s5 y0 y1 y2 y3 y4 y5 y3f HS HBs HBy
          obtain ⟨s0, s1, s2, s3, s4, s5⟩ := cells6 HBs2.out
          obtain ⟨y0, y1, y2, y3, y4, y5⟩ := cells6 HBy2.out
          have y4f := blk_free HBy2.out 4
          go_upto_region 18 with (fail)
          generalize hW : World.setCell W2 _ _ = W3 at *
          have HS3 : Hid (Step No w W3) := Lib.hid (by rw [← hW]; exact HS2.out.setCell (fun h => absurd (show b1 < w.heap.size from h) (by omega)) _)
          have HBs3 : Hid (W3.heap[w.heap.size]? = some (.cells #[.int .i64 3, .int .i64 id, .int .i64 no, .int .i64 fr, .int .i64 up, .slice A n c] TS (0, 0))) := Lib.hid (by rw [← hW]; exact blk_set_other HBs2.out hne.symm _)
          have HBy3 : Hid (W3.heap[b1]? = some (.cells #[.int .i64 3, .int .i64 id, .int .i64 0, .int .i64 fr, .int .i64 up, .slice none 0 0] TS (0, 0))) := Lib.hid (by rw [← hW]; have := blk_set HBy2.out 4 (.int .i64 up); simpa using this)
          clear hW s0 s1 s2 s3 s4 s5 y0 y1 y2 y3 y4 y5 y4f HS2 HBs2 HBy2
          obtain ⟨s0, s1, s2, s3, s4, s5⟩ := cells6 HBs3.out
          obtain ⟨y0, y1, y2, y3, y4, y5⟩ := cells6 HBy3.out
          go_wp2
          go_ret
          exact ⟨by rw [HR.out]; rfl, HS3.out⟩
      · have HR : Hid (stepB ⟨3, id, no, fr, up, ks⟩ = false) := Lib.hid (by (simp [stepB, stepP, idP, h3]))
        clear hn
        go_enter Tryz.func111, Tryz.ntmps111
        go_upto_region 2 with (fail)
        generalize hW : World.alloc (World.alloc w _) _ = W at *
        have HS : Hid (Step No w W) := Lib.hid (by rw [← hW]; exact ((Step.refl No w).alloc _).alloc _)
        have HBs : Hid (W.heap[w.heap.size]? = some (.cells #[.int .i64 3, .int .i64 id, .int .i64 no, .int .i64 fr, .int .i64 up, .slice A n c] TS (0, 0))) := Lib.hid (by rw [← hW]; exact blk_alloc (blk_new _ _) _)
        have HBy : Hid (W.heap[w.heap.size + 1]? = some (.cells #[.int .i64 3, .int .i64 id, .int .i64 0, .int .i64 0, .int .i64 0, .slice none 0 0] TS (0, 0))) := Lib.hid (by rw [← hW]; simpa using blk_new (w.alloc _) _)
        clear hW
        obtain ⟨b1, hb1⟩ : ∃ b, w.heap.size + 1 = b := ⟨_, rfl⟩
        have hne : w.heap.size ≠ b1 := by omega
        have hge : w.heap.size ≤ b1 := by omega
        rw [hb1] at HBy ⊢
        clear hb1
        obtain ⟨s0, s1, s2, s3, s4, s5⟩ := cells6 HBs.out
        obtain ⟨y0, y1, y2, y3, y4, y5⟩ := cells6 HBy.out
        have y3f := blk_free HBy.out 3
        go_upto_region 17 with (fail)
        generalize hW : World.setCell W _ _ = W2 at *
        have HS2 : Hid (Step No w W2) := Lib.hid (by rw [← hW]; exact HS.out.setCell (fun h => absurd (show b1 < w.heap.size from h) (by omega)) _)
        have HBs2 : Hid (W2.heap[w.heap.size]? = some (.cells #[.int .i64 3, .int .i64 id, .int .i64 no, .int .i64 fr, .int .i64 up, .slice A n c] TS (0, 0))) := Lib.hid (by rw [← hW]; exact blk_set_other HBs.out hne.symm _)
        have HBy2 : Hid (W2.heap[b1]? = some (.cells #[.int .i64 3, .int .i64 id, .int .i64 0, .int .i64 fr, .int .i64 0, .slice none 0 0] TS (0, 0))) := Lib.hid (by rw [← hW]; have := blk_set HBy.out 3 (.int .i64 fr); simpa using this)
        clear hW s0 s1 s2 s3 s4 s5 y0 y1 y2 y3 y4 y5 y3f HS HBs HBy
        obtain ⟨s0, s1, s2, s3, s4, s5⟩ := cells6 HBs2.out
        obtain ⟨y0, y1, y2, y3, y4, y5⟩ := cells6 HBy2.out
        have y4f := blk_free HBy2.out 4
        go_upto_region 18 with (fail)
        generalize hW : World.setCell W2 _ _ = W3 at *
        have HS3 : Hid (Step No w W3) := Lib.hid (by rw [← hW]; exact HS2.out.setCell (fun h => absurd (show b1 < w.heap.size from h) (by omega)) _)
        have HBs3 : Hid (W3.heap[w.heap.size]? = some (.cells #[.int .i64 3, .int .i64 id, .int .i64 no, .int .i64 fr, .int .i64 up, .slice A n c] TS (0, 0))) := Lib.hid (by rw [← hW]; exact blk_set_other HBs2.out hne.symm _)
        have HBy3 : Hid (W3.heap[b1]? = some (.cells #[.int .i64 3, .int .i64 id, .int .i64 0, .int .i64 fr, .int .i64 up, .slice none 0 0] TS (0, 0))) := Lib.hid (by rw [← hW]; have := blk_set HBy2.out 4 (.int .i64 up); simpa using this)
        clear hW s0 s1 s2 s3 s4 s5 y0 y1 y2 y3 y4 y5 y4f HS2 HBs2 HBy2
        obtain ⟨s0, s1, s2, s3, s4, s5⟩ := cells6 HBs3.out
        obtain ⟨y0, y1, y2, y3, y4, y5⟩ := cells6 HBy3.out
        go_wp2
        go_ret
        exact ⟨by rw [HR.out]; rfl, HS3.out⟩
    · have HR : Hid (stepB ⟨3, id, no, fr, up, ks⟩ = false) := Lib.hid (by (simp [stepB, stepP, idP, h2]))
      clear hn
      go_enter Tryz.func111, Tryz.ntmps111
      go_upto_region 2 with (fail)
      generalize hW : World.alloc (World.alloc w _) _ = W at *
      have HS : Hid (Step No w W) := Lib.hid (by rw [← hW]; exact ((Step.refl No w).alloc _).alloc _)
      have HBs : Hid (W.heap[w.heap.size]? = some (.cells #[.int .i64 3, .int .i64 id, .int .i64 no, .int .i64 fr, .int .i64 up, .slice A n c] TS (0, 0))) := Lib.hid (by rw [← hW]; exact blk_alloc (blk_new _ _) _)
      have HBy : Hid (W.heap[w.heap.size + 1]? = some (.cells #[.int .i64 3, .int .i64 id, .int .i64 0, .int .i64 0, .int .i64 0, .slice none 0 0] TS (0, 0))) := Lib.hid (by rw [← hW]; simpa using blk_new (w.alloc _) _)
      clear hW
      obtain ⟨b1, hb1⟩ : ∃ b, w.heap.size + 1 = b := ⟨_, rfl⟩
      have hne : w.heap.size ≠ b1 := by omega
      have hge : w.heap.size ≤ b1 := by omega
      rw [hb1] at HBy ⊢
      clear hb1
      obtain ⟨s0, s1, s2, s3, s4, s5⟩ := cells6 HBs.out
      obtain ⟨y0, y1, y2, y3, y4, y5⟩ := cells6 HBy.out
      have y3f := blk_free HBy.out 3
      go_upto_region 17 with (fail)
      generalize hW : World.setCell W _ _ = W2 at *
      have HS2 : Hid (Step No w W2) := Lib.hid (by rw [← hW]; exact HS.out.setCell (fun h => absurd (show b1 < w.heap.size from h) (by omega)) _)
      have HBs2 : Hid (W2.heap[w.heap.size]? = some (.cells #[.int .i64 3, .int .i64 id, .int .i64 no, .int .i64 fr, .int .i64 up, .slice A n c] TS (0, 0))) := Lib.hid (by rw [← hW]; exact blk_set_other HBs.out hne.symm _)
      have HBy2 : Hid (W2.heap[b1]? = some (.cells #[.int .i64 3, .int .i64 id, .int .i64 0, .int .i64 fr, .int .i64 0, .slice none 0 0] TS (0, 0))) := Lib.hid (by rw [← hW]; have := blk_set HBy.out 3 (.int .i64 fr); simpa using this)
      clear hW s0 s1 s2 s3 s4 s5 y0 y1 y2 y3 y4 y5 y3f HS HBs HBy
      obtain ⟨s0, s1, s2, s3, s4, s5⟩ := cells6 HBs2.out
      obtain ⟨y0, y1, y2, y3, y4, y5⟩ := cells6 HBy2.out
      have y4f := blk_free HBy2.out 4
      go_upto_region 18 with (fail)
      generalize hW : World.setCell W2 _ _ = W3 at *
      have HS3 : Hid (Step No w W3) := Lib.hid (by rw [← hW]; exact HS2.out.setCell (fun h => absurd (show b1 < w.heap.size from h) (by omega)) _)
      have HBs3 : Hid (W3.heap[w.heap.size]? = some (.cells #[.int .i64 3, .int .i64 id, .int .i64 no, .int .i64 fr, .int .i64 up, .slice A n c] TS (0, 0))) := Lib.hid (by rw [← hW]; exact blk_set_other HBs2.out hne.symm _)
      have HBy3 : Hid (W3.heap[b1]? = some (.cells #[.int .i64 3, .int .i64 id, .int .i64 0, .int .i64 fr, .int .i64 up, .slice none 0 0] TS (0, 0))) := Lib.hid (by rw [← hW]; have := blk_set HBy2.out 4 (.int .i64 up); simpa using this)
      clear hW s0 s1 s2 s3 s4 s5 y0 y1 y2 y3 y4 y5 y4f HS2 HBs2 HBy2
      obtain ⟨s0, s1, s2, s3, s4, s5⟩ := cells6 HBs3.out
      obtain ⟨y0, y1, y2, y3, y4, y5⟩ := cells6 HBy3.out
      go_wp2
      go_ret
      exact ⟨by rw [HR.out]; rfl, HS3.out⟩
  · have HR : Hid (stepB ⟨3, id, no, fr, up, ks⟩ = false) := Lib.hid (by (simp [stepB, stepP, idP, h1]))
    clear hn
    go_enter Tryz.func111, Tryz.ntmps111
    go_upto_region 2 with (fail)
    generalize hW : World.alloc (World.alloc w _) _ = W at *
    have HS : Hid (Step No w W) := Lib.hid (by rw [← hW]; exact ((Step.refl No w).alloc _).alloc _)
    have HBs : Hid (W.heap[w.heap.size]? = some (.cells #[.int .i64 3, .int .i64 id, .int .i64 no, .int .i64 fr, .int .i64 up, .slice A n c] TS (0, 0))) := Lib.hid (by rw [← hW]; exact blk_alloc (blk_new _ _) _)
    have HBy : Hid (W.heap[w.heap.size + 1]? = some (.cells #[.int .i64 3, .int .i64 id, .int .i64 0, .int .i64 0, .int .i64 0, .slice none 0 0] TS (0, 0))) := Lib.hid (by rw [← hW]; simpa using blk_new (w.alloc _) _)
    clear hW
    obtain ⟨b1, hb1⟩ : ∃ b, w.heap.size + 1 = b := ⟨_, rfl⟩
    have hne : w.heap.size ≠ b1 := by omega
    have hge : w.heap.size ≤ b1 := by omega
    rw [hb1] at HBy ⊢
    clear hb1
    obtain ⟨s0, s1, s2, s3, s4, s5⟩ := cells6 HBs.out
    obtain ⟨y0, y1, y2, y3, y4, y5⟩ := cells6 HBy.out
    have y3f := blk_free HBy.out 3
    go_upto_region 17 with (fail)
    generalize hW : World.setCell W _ _ = W2 at *
    have HS2 : Hid (Step No w W2) := Lib.hid (by rw [← hW]; exact HS.out.setCell (fun h => absurd (show b1 < w.heap.size from h) (by omega)) _)
    have HBs2 : Hid (W2.heap[w.heap.size]? = some (.cells #[.int .i64 3, .int .i64 id, .int .i64 no, .int .i64 fr, .int .i64 up, .slice A n c] TS (0, 0))) := Lib.hid (by rw [← hW]; exact blk_set_other HBs.out hne.symm _)
    have HBy2 : Hid (W2.heap[b1]? = some (.cells #[.int .i64 3, .int .i64 id, .int .i64 0, .int .i64 fr, .int .i64 0, .slice none 0 0] TS (0, 0))) := Lib.hid (by rw [← hW]; have := blk_set HBy.out 3 (.int .i64 fr); simpa using this)
    clear hW s0 s1 s2 s3 s4 s5 y0 y1 y2 y3 y4 y5 y3f HS HBs HBy
    obtain ⟨s0, s1, s2, s3, s4, s5⟩ := cells6 HBs2.out
    obtain ⟨y0, y1, y2, y3, y4, y5⟩ := cells6 HBy2.out
    have y4f := blk_free HBy2.out 4
    go_upto_region 18 with (fail)
    generalize hW : World.setCell W2 _ _ = W3 at *
    have HS3 : Hid (Step No w W3) := Lib.hid (by rw [← hW]; exact HS2.out.setCell (fun h => absurd (show b1 < w.heap.size from h) (by omega)) _)
    have HBs3 : Hid (W3.heap[w.heap.size]? = some (.cells #[.int .i64 3, .int .i64 id, .int .i64 no, .int .i64 fr, .int .i64 up, .slice A n c] TS (0, 0))) := Lib.hid (by rw [← hW]; exact blk_set_other HBs2.out hne.symm _)
    have HBy3 : Hid (W3.heap[b1]? = some (.cells #[.int .i64 3, .int .i64 id, .int .i64 0, .int .i64 fr, .int .i64 up, .slice none 0 0] TS (0, 0))) := Lib.hid (by rw [← hW]; have := blk_set HBy2.out 4 (.int .i64 up); simpa using this)
    clear hW s0 s1 s2 s3 s4 s5 y0 y1 y2 y3 y4 y5 y4f HS2 HBs2 HBy2
    obtain ⟨s0, s1, s2, s3, s4, s5⟩ := cells6 HBs3.out
    obtain ⟨y0, y1, y2, y3, y4, y5⟩ := cells6 HBy3.out
    go_wp2
    go_ret
    exact ⟨by rw [HR.out]; rfl, HS3.out⟩
end Go.Proofs.YtjeamfoicpgkhaaGreatDoor.RefStep
