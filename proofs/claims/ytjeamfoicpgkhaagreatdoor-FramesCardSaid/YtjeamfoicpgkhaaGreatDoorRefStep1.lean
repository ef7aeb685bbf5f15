/- May a step be? The reference's answer: a node that is made; and no step at all. -/
import Derived.Test.YtjeamfoicpgkhaaGreatDoorRefStep
namespace Go.Proofs.YtjeamfoicpgkhaaGreatDoor.RefStep
open Go.RowKit Go.Lib Go.Proofs.YtjeamfoicpgkhaaGreatDoor.Mem Go.Proofs.YtjeamfoicpgkhaaGreatDoor.Read Go.Proofs.YtjeamfoicpgkhaaGreatDoor.Tree Go.Proofs.YtjeamfoicpgkhaaGreatDoor.Data Go.Proofs.YtjeamfoicpgkhaaGreatDoor.CompR Go.Proofs.YtjeamfoicpgkhaaGreatDoor.MsgR Go.Proofs.YtjeamfoicpgkhaaGreatDoor.May
open Go.Proofs.YtjeamfoicpgkhaaGreatDoor.Same (ints_cell)
set_option linter.unusedVariables false
set_option linter.unusedSimpArgs false
set_option maxHeartbeats 8000000 in
set_option maxRecDepth 100000 in
theorem step1 (w : World) (id no fr up : Int) (ks : List Int) (A : Option Addr) (n c : Nat) (hn : ks.length = n) : Calls Tryz.prog 111 #[.agg #[.int .i64 1, .int .i64 id, .int .i64 no, .int .i64 fr, .int .i64 up, .slice A n c]] w (StepMayPost ⟨1, id, no, fr, up, ks⟩ w) := by
  by_cases h1 : 0 ≤ id
  · by_cases h2 : id < 16777216
    · by_cases h3 : 0 ≤ no
      · by_cases h7 : no ≤ 7
        · by_cases h4 : fr = 0
          · have q4 : (fr == 0) = true := by rw [h4]; rfl
            by_cases h5 : up = 0
            · have q5 : (up == 0) = true := by rw [h5]; rfl
              by_cases h6 : n = 0
              · have q6 : ((n : Int) == 0) = true := by rw [h6]; rfl
                have HR : Hid (stepB ⟨1, id, no, fr, up, ks⟩ = true) := Lib.hid (by (simp [stepB, stepP, idP, h1, h2, h3, h4, h5, h7, hn, h6]))
                clear h4 h5 h6 hn
                go_enter Tryz.func111, Tryz.ntmps111
                go_upto_region 2 with (fail)
                generalize hW : World.alloc (World.alloc w _) _ = W at *
                have HS : Hid (Step No w W) := Lib.hid (by rw [← hW]; exact ((Step.refl No w).alloc _).alloc _)
                have HBs : Hid (W.heap[w.heap.size]? = some (.cells #[.int .i64 1, .int .i64 id, .int .i64 no, .int .i64 fr, .int .i64 up, .slice A n c] TS (0, 0))) := Lib.hid (by rw [← hW]; exact blk_alloc (blk_new _ _) _)
                have HBy : Hid (W.heap[w.heap.size + 1]? = some (.cells #[.int .i64 1, .int .i64 id, .int .i64 0, .int .i64 0, .int .i64 0, .slice none 0 0] TS (0, 0))) := Lib.hid (by rw [← hW]; simpa using blk_new (w.alloc _) _)
                clear hW
                obtain ⟨b1, hb1⟩ : ∃ b, w.heap.size + 1 = b := ⟨_, rfl⟩
                have hne : w.heap.size ≠ b1 := by omega
                have hge : w.heap.size ≤ b1 := by omega
                rw [hb1] at HBy ⊢
                clear hb1
                obtain ⟨s0, s1, s2, s3, s4, s5⟩ := cells6 HBs.out
                obtain ⟨y0, y1, y2, y3, y4, y5⟩ := cells6 HBy.out
                have y2f := blk_free HBy.out 2
                go_upto_region 8 with (fail)
                generalize hW : World.setCell W _ _ = W2 at *
                have HS2 : Hid (Step No w W2) := Lib.hid (by rw [← hW]; exact HS.out.setCell (fun h => absurd (show b1 < w.heap.size from h) (by omega)) _)
                have HBs2 : Hid (W2.heap[w.heap.size]? = some (.cells #[.int .i64 1, .int .i64 id, .int .i64 no, .int .i64 fr, .int .i64 up, .slice A n c] TS (0, 0))) := Lib.hid (by rw [← hW]; exact blk_set_other HBs.out hne.symm _)
                have HBy2 : Hid (W2.heap[b1]? = some (.cells #[.int .i64 1, .int .i64 id, .int .i64 no, .int .i64 0, .int .i64 0, .slice none 0 0] TS (0, 0))) := Lib.hid (by rw [← hW]; have := blk_set HBy.out 2 (.int .i64 no); simpa using this)
                clear hW s0 s1 s2 s3 s4 s5 y0 y1 y2 y3 y4 y5 y2f
                obtain ⟨s0, s1, s2, s3, s4, s5⟩ := cells6 HBs2.out
                obtain ⟨y0, y1, y2, y3, y4, y5⟩ := cells6 HBy2.out
                go_wp2
                go_ret
                exact ⟨by rw [HR.out]; rfl, HS2.out⟩
              · have q6 : ((n : Int) == 0) = false := by rw [beq_eq_false_iff_ne]; omega
                have HR : Hid (stepB ⟨1, id, no, fr, up, ks⟩ = false) := Lib.hid (by (simp [stepB, stepP, idP, h1, h2, h3, h4, h5, h7, hn, h6]))
                clear h4 h5 h6 hn
                go_enter Tryz.func111, Tryz.ntmps111
                go_upto_region 2 with (fail)
                generalize hW : World.alloc (World.alloc w _) _ = W at *
                have HS : Hid (Step No w W) := Lib.hid (by rw [← hW]; exact ((Step.refl No w).alloc _).alloc _)
                have HBs : Hid (W.heap[w.heap.size]? = some (.cells #[.int .i64 1, .int .i64 id, .int .i64 no, .int .i64 fr, .int .i64 up, .slice A n c] TS (0, 0))) := Lib.hid (by rw [← hW]; exact blk_alloc (blk_new _ _) _)
                have HBy : Hid (W.heap[w.heap.size + 1]? = some (.cells #[.int .i64 1, .int .i64 id, .int .i64 0, .int .i64 0, .int .i64 0, .slice none 0 0] TS (0, 0))) := Lib.hid (by rw [← hW]; simpa using blk_new (w.alloc _) _)
                clear hW
                obtain ⟨b1, hb1⟩ : ∃ b, w.heap.size + 1 = b := ⟨_, rfl⟩
                have hne : w.heap.size ≠ b1 := by omega
                have hge : w.heap.size ≤ b1 := by omega
                rw [hb1] at HBy ⊢
                clear hb1
                obtain ⟨s0, s1, s2, s3, s4, s5⟩ := cells6 HBs.out
                obtain ⟨y0, y1, y2, y3, y4, y5⟩ := cells6 HBy.out
                have y2f := blk_free HBy.out 2
                go_upto_region 8 with (fail)
                generalize hW : World.setCell W _ _ = W2 at *
                have HS2 : Hid (Step No w W2) := Lib.hid (by rw [← hW]; exact HS.out.setCell (fun h => absurd (show b1 < w.heap.size from h) (by omega)) _)
                have HBs2 : Hid (W2.heap[w.heap.size]? = some (.cells #[.int .i64 1, .int .i64 id, .int .i64 no, .int .i64 fr, .int .i64 up, .slice A n c] TS (0, 0))) := Lib.hid (by rw [← hW]; exact blk_set_other HBs.out hne.symm _)
                have HBy2 : Hid (W2.heap[b1]? = some (.cells #[.int .i64 1, .int .i64 id, .int .i64 no, .int .i64 0, .int .i64 0, .slice none 0 0] TS (0, 0))) := Lib.hid (by rw [← hW]; have := blk_set HBy.out 2 (.int .i64 no); simpa using this)
                clear hW s0 s1 s2 s3 s4 s5 y0 y1 y2 y3 y4 y5 y2f
                obtain ⟨s0, s1, s2, s3, s4, s5⟩ := cells6 HBs2.out
                obtain ⟨y0, y1, y2, y3, y4, y5⟩ := cells6 HBy2.out
                go_wp2
                go_ret
                exact ⟨by rw [HR.out]; rfl, HS2.out⟩
            · have q5 : (up == 0) = false := beq_eq_false_iff_ne.2 h5
              have HR : Hid (stepB ⟨1, id, no, fr, up, ks⟩ = false) := Lib.hid (by (simp [stepB, stepP, idP, h5]))
              clear h4 h5 hn
              go_enter Tryz.func111, Tryz.ntmps111
              go_upto_region 2 with (fail)
              generalize hW : World.alloc (World.alloc w _) _ = W at *
              have HS : Hid (Step No w W) := Lib.hid (by rw [← hW]; exact ((Step.refl No w).alloc _).alloc _)
              have HBs : Hid (W.heap[w.heap.size]? = some (.cells #[.int .i64 1, .int .i64 id, .int .i64 no, .int .i64 fr, .int .i64 up, .slice A n c] TS (0, 0))) := Lib.hid (by rw [← hW]; exact blk_alloc (blk_new _ _) _)
              have HBy : Hid (W.heap[w.heap.size + 1]? = some (.cells #[.int .i64 1, .int .i64 id, .int .i64 0, .int .i64 0, .int .i64 0, .slice none 0 0] TS (0, 0))) := Lib.hid (by rw [← hW]; simpa using blk_new (w.alloc _) _)
              clear hW
              obtain ⟨b1, hb1⟩ : ∃ b, w.heap.size + 1 = b := ⟨_, rfl⟩
              have hne : w.heap.size ≠ b1 := by omega
              have hge : w.heap.size ≤ b1 := by omega
              rw [hb1] at HBy ⊢
              clear hb1
              obtain ⟨s0, s1, s2, s3, s4, s5⟩ := cells6 HBs.out
              obtain ⟨y0, y1, y2, y3, y4, y5⟩ := cells6 HBy.out
              have y2f := blk_free HBy.out 2
              go_upto_region 8 with (fail)
              generalize hW : World.setCell W _ _ = W2 at *
              have HS2 : Hid (Step No w W2) := Lib.hid (by rw [← hW]; exact HS.out.setCell (fun h => absurd (show b1 < w.heap.size from h) (by omega)) _)
              have HBs2 : Hid (W2.heap[w.heap.size]? = some (.cells #[.int .i64 1, .int .i64 id, .int .i64 no, .int .i64 fr, .int .i64 up, .slice A n c] TS (0, 0))) := Lib.hid (by rw [← hW]; exact blk_set_other HBs.out hne.symm _)
              have HBy2 : Hid (W2.heap[b1]? = some (.cells #[.int .i64 1, .int .i64 id, .int .i64 no, .int .i64 0, .int .i64 0, .slice none 0 0] TS (0, 0))) := Lib.hid (by rw [← hW]; have := blk_set HBy.out 2 (.int .i64 no); simpa using this)
              clear hW s0 s1 s2 s3 s4 s5 y0 y1 y2 y3 y4 y5 y2f
              obtain ⟨s0, s1, s2, s3, s4, s5⟩ := cells6 HBs2.out
              obtain ⟨y0, y1, y2, y3, y4, y5⟩ := cells6 HBy2.out
              go_wp2
              go_ret
              exact ⟨by rw [HR.out]; rfl, HS2.out⟩
          · have q4 : (fr == 0) = false := beq_eq_false_iff_ne.2 h4
            have HR : Hid (stepB ⟨1, id, no, fr, up, ks⟩ = false) := Lib.hid (by (simp [stepB, stepP, idP, h4]))
            clear h4 hn
            go_enter Tryz.func111, Tryz.ntmps111
            go_upto_region 2 with (fail)
            generalize hW : World.alloc (World.alloc w _) _ = W at *
            have HS : Hid (Step No w W) := Lib.hid (by rw [← hW]; exact ((Step.refl No w).alloc _).alloc _)
            have HBs : Hid (W.heap[w.heap.size]? = some (.cells #[.int .i64 1, .int .i64 id, .int .i64 no, .int .i64 fr, .int .i64 up, .slice A n c] TS (0, 0))) := Lib.hid (by rw [← hW]; exact blk_alloc (blk_new _ _) _)
            have HBy : Hid (W.heap[w.heap.size + 1]? = some (.cells #[.int .i64 1, .int .i64 id, .int .i64 0, .int .i64 0, .int .i64 0, .slice none 0 0] TS (0, 0))) := Lib.hid (by rw [← hW]; simpa using blk_new (w.alloc _) _)
            clear hW
            obtain ⟨b1, hb1⟩ : ∃ b, w.heap.size + 1 = b := ⟨_, rfl⟩
            have hne : w.heap.size ≠ b1 := by omega
            have hge : w.heap.size ≤ b1 := by omega
            rw [hb1] at HBy ⊢
            clear hb1
            obtain ⟨s0, s1, s2, s3, s4, s5⟩ := cells6 HBs.out
            obtain ⟨y0, y1, y2, y3, y4, y5⟩ := cells6 HBy.out
            have y2f := blk_free HBy.out 2
            go_upto_region 8 with (fail)
            generalize hW : World.setCell W _ _ = W2 at *
            have HS2 : Hid (Step No w W2) := Lib.hid (by rw [← hW]; exact HS.out.setCell (fun h => absurd (show b1 < w.heap.size from h) (by omega)) _)
            have HBs2 : Hid (W2.heap[w.heap.size]? = some (.cells #[.int .i64 1, .int .i64 id, .int .i64 no, .int .i64 fr, .int .i64 up, .slice A n c] TS (0, 0))) := Lib.hid (by rw [← hW]; exact blk_set_other HBs.out hne.symm _)
            have HBy2 : Hid (W2.heap[b1]? = some (.cells #[.int .i64 1, .int .i64 id, .int .i64 no, .int .i64 0, .int .i64 0, .slice none 0 0] TS (0, 0))) := Lib.hid (by rw [← hW]; have := blk_set HBy.out 2 (.int .i64 no); simpa using this)
            clear hW s0 s1 s2 s3 s4 s5 y0 y1 y2 y3 y4 y5 y2f
            obtain ⟨s0, s1, s2, s3, s4, s5⟩ := cells6 HBs2.out
            obtain ⟨y0, y1, y2, y3, y4, y5⟩ := cells6 HBy2.out
            go_wp2
            go_ret
            exact ⟨by rw [HR.out]; rfl, HS2.out⟩
        · have HR : Hid (stepB ⟨1, id, no, fr, up, ks⟩ = false) := Lib.hid (by (simp [stepB, stepP, idP, h7]))
          clear hn
          go_enter Tryz.func111, Tryz.ntmps111
          go_upto_region 2 with (fail)
          generalize hW : World.alloc (World.alloc w _) _ = W at *
          have HS : Hid (Step No w W) := Lib.hid (by rw [← hW]; exact ((Step.refl No w).alloc _).alloc _)
          have HBs : Hid (W.heap[w.heap.size]? = some (.cells #[.int .i64 1, .int .i64 id, .int .i64 no, .int .i64 fr, .int .i64 up, .slice A n c] TS (0, 0))) := Lib.hid (by rw [← hW]; exact blk_alloc (blk_new _ _) _)
          have HBy : Hid (W.heap[w.heap.size + 1]? = some (.cells #[.int .i64 1, .int .i64 id, .int .i64 0, .int .i64 0, .int .i64 0, .slice none 0 0] TS (0, 0))) := Lib.hid (by rw [← hW]; simpa using blk_new (w.alloc _) _)
          clear hW
          obtain ⟨b1, hb1⟩ : ∃ b, w.heap.size + 1 = b := ⟨_, rfl⟩
          have hne : w.heap.size ≠ b1 := by omega
          have hge : w.heap.size ≤ b1 := by omega
          rw [hb1] at HBy ⊢
          clear hb1
          obtain ⟨s0, s1, s2, s3, s4, s5⟩ := cells6 HBs.out
          obtain ⟨y0, y1, y2, y3, y4, y5⟩ := cells6 HBy.out
          have y2f := blk_free HBy.out 2
          go_upto_region 8 with (fail)
          generalize hW : World.setCell W _ _ = W2 at *
          have HS2 : Hid (Step No w W2) := Lib.hid (by rw [← hW]; exact HS.out.setCell (fun h => absurd (show b1 < w.heap.size from h) (by omega)) _)
          have HBs2 : Hid (W2.heap[w.heap.size]? = some (.cells #[.int .i64 1, .int .i64 id, .int .i64 no, .int .i64 fr, .int .i64 up, .slice A n c] TS (0, 0))) := Lib.hid (by rw [← hW]; exact blk_set_other HBs.out hne.symm _)
          have HBy2 : Hid (W2.heap[b1]? = some (.cells #[.int .i64 1, .int .i64 id, .int .i64 no, .int .i64 0, .int .i64 0, .slice none 0 0] TS (0, 0))) := Lib.hid (by rw [← hW]; have := blk_set HBy.out 2 (.int .i64 no); simpa using this)
          clear hW s0 s1 s2 s3 s4 s5 y0 y1 y2 y3 y4 y5 y2f
          obtain ⟨s0, s1, s2, s3, s4, s5⟩ := cells6 HBs2.out
          obtain ⟨y0, y1, y2, y3, y4, y5⟩ := cells6 HBy2.out
          go_wp2
          go_ret
          exact ⟨by rw [HR.out]; rfl, HS2.out⟩
      · have HR : Hid (stepB ⟨1, id, no, fr, up, ks⟩ = false) := Lib.hid (by (simp [stepB, stepP, idP, h3]))
        clear hn
        go_enter Tryz.func111, Tryz.ntmps111
        go_upto_region 2 with (fail)
        generalize hW : World.alloc (World.alloc w _) _ = W at *
        have HS : Hid (Step No w W) := Lib.hid (by rw [← hW]; exact ((Step.refl No w).alloc _).alloc _)
        have HBs : Hid (W.heap[w.heap.size]? = some (.cells #[.int .i64 1, .int .i64 id, .int .i64 no, .int .i64 fr, .int .i64 up, .slice A n c] TS (0, 0))) := Lib.hid (by rw [← hW]; exact blk_alloc (blk_new _ _) _)
        have HBy : Hid (W.heap[w.heap.size + 1]? = some (.cells #[.int .i64 1, .int .i64 id, .int .i64 0, .int .i64 0, .int .i64 0, .slice none 0 0] TS (0, 0))) := Lib.hid (by rw [← hW]; simpa using blk_new (w.alloc _) _)
        clear hW
        obtain ⟨b1, hb1⟩ : ∃ b, w.heap.size + 1 = b := ⟨_, rfl⟩
        have hne : w.heap.size ≠ b1 := by omega
        have hge : w.heap.size ≤ b1 := by omega
        rw [hb1] at HBy ⊢
        clear hb1
        obtain ⟨s0, s1, s2, s3, s4, s5⟩ := cells6 HBs.out
        obtain ⟨y0, y1, y2, y3, y4, y5⟩ := cells6 HBy.out
        have y2f := blk_free HBy.out 2
        go_upto_region 8 with (fail)
        generalize hW : World.setCell W _ _ = W2 at *
        have HS2 : Hid (Step No w W2) := Lib.hid (by rw [← hW]; exact HS.out.setCell (fun h => absurd (show b1 < w.heap.size from h) (by omega)) _)
        have HBs2 : Hid (W2.heap[w.heap.size]? = some (.cells #[.int .i64 1, .int .i64 id, .int .i64 no, .int .i64 fr, .int .i64 up, .slice A n c] TS (0, 0))) := Lib.hid (by rw [← hW]; exact blk_set_other HBs.out hne.symm _)
        have HBy2 : Hid (W2.heap[b1]? = some (.cells #[.int .i64 1, .int .i64 id, .int .i64 no, .int .i64 0, .int .i64 0, .slice none 0 0] TS (0, 0))) := Lib.hid (by rw [← hW]; have := blk_set HBy.out 2 (.int .i64 no); simpa using this)
        clear hW s0 s1 s2 s3 s4 s5 y0 y1 y2 y3 y4 y5 y2f
        obtain ⟨s0, s1, s2, s3, s4, s5⟩ := cells6 HBs2.out
        obtain ⟨y0, y1, y2, y3, y4, y5⟩ := cells6 HBy2.out
        go_wp2
        go_ret
        exact ⟨by rw [HR.out]; rfl, HS2.out⟩
    · have HR : Hid (stepB ⟨1, id, no, fr, up, ks⟩ = false) := Lib.hid (by (simp [stepB, stepP, idP, h2]))
      clear hn
      go_enter Tryz.func111, Tryz.ntmps111
      go_upto_region 2 with (fail)
      generalize hW : World.alloc (World.alloc w _) _ = W at *
      have HS : Hid (Step No w W) := Lib.hid (by rw [← hW]; exact ((Step.refl No w).alloc _).alloc _)
      have HBs : Hid (W.heap[w.heap.size]? = some (.cells #[.int .i64 1, .int .i64 id, .int .i64 no, .int .i64 fr, .int .i64 up, .slice A n c] TS (0, 0))) := Lib.hid (by rw [← hW]; exact blk_alloc (blk_new _ _) _)
      have HBy : Hid (W.heap[w.heap.size + 1]? = some (.cells #[.int .i64 1, .int .i64 id, .int .i64 0, .int .i64 0, .int .i64 0, .slice none 0 0] TS (0, 0))) := Lib.hid (by rw [← hW]; simpa using blk_new (w.alloc _) _)
      clear hW
      obtain ⟨b1, hb1⟩ : ∃ b, w.heap.size + 1 = b := ⟨_, rfl⟩
      have hne : w.heap.size ≠ b1 := by omega
      have hge : w.heap.size ≤ b1 := by omega
      rw [hb1] at HBy ⊢
      clear hb1
      obtain ⟨s0, s1, s2, s3, s4, s5⟩ := cells6 HBs.out
      obtain ⟨y0, y1, y2, y3, y4, y5⟩ := cells6 HBy.out
      have y2f := blk_free HBy.out 2
      go_upto_region 8 with (fail)
      generalize hW : World.setCell W _ _ = W2 at *
      have HS2 : Hid (Step No w W2) := Lib.hid (by rw [← hW]; exact HS.out.setCell (fun h => absurd (show b1 < w.heap.size from h) (by omega)) _)
      have HBs2 : Hid (W2.heap[w.heap.size]? = some (.cells #[.int .i64 1, .int .i64 id, .int .i64 no, .int .i64 fr, .int .i64 up, .slice A n c] TS (0, 0))) := Lib.hid (by rw [← hW]; exact blk_set_other HBs.out hne.symm _)
      have HBy2 : Hid (W2.heap[b1]? = some (.cells #[.int .i64 1, .int .i64 id, .int .i64 no, .int .i64 0, .int .i64 0, .slice none 0 0] TS (0, 0))) := Lib.hid (by rw [← hW]; have := blk_set HBy.out 2 (.int .i64 no); simpa using this)
      clear hW s0 s1 s2 s3 s4 s5 y0 y1 y2 y3 y4 y5 y2f
      obtain ⟨s0, s1, s2, s3, s4, s5⟩ := cells6 HBs2.out
      obtain ⟨y0, y1, y2, y3, y4, y5⟩ := cells6 HBy2.out
      go_wp2
      go_ret
      exact ⟨by rw [HR.out]; rfl, HS2.out⟩
  · have HR : Hid (stepB ⟨1, id, no, fr, up, ks⟩ = false) := Lib.hid (by (simp [stepB, stepP, idP, h1]))
    clear hn
    go_enter Tryz.func111, Tryz.ntmps111
    go_upto_region 2 with (fail)
    generalize hW : World.alloc (World.alloc w _) _ = W at *
    have HS : Hid (Step No w W) := Lib.hid (by rw [← hW]; exact ((Step.refl No w).alloc _).alloc _)
    have HBs : Hid (W.heap[w.heap.size]? = some (.cells #[.int .i64 1, .int .i64 id, .int .i64 no, .int .i64 fr, .int .i64 up, .slice A n c] TS (0, 0))) := Lib.hid (by rw [← hW]; exact blk_alloc (blk_new _ _) _)
    have HBy : Hid (W.heap[w.heap.size + 1]? = some (.cells #[.int .i64 1, .int .i64 id, .int .i64 0, .int .i64 0, .int .i64 0, .slice none 0 0] TS (0, 0))) := Lib.hid (by rw [← hW]; simpa using blk_new (w.alloc _) _)
    clear hW
    obtain ⟨b1, hb1⟩ : ∃ b, w.heap.size + 1 = b := ⟨_, rfl⟩
    have hne : w.heap.size ≠ b1 := by omega
    have hge : w.heap.size ≤ b1 := by omega
    rw [hb1] at HBy ⊢
    clear hb1
    obtain ⟨s0, s1, s2, s3, s4, s5⟩ := cells6 HBs.out
    obtain ⟨y0, y1, y2, y3, y4, y5⟩ := cells6 HBy.out
    have y2f := blk_free HBy.out 2
    go_upto_region 8 with (fail)
    generalize hW : World.setCell W _ _ = W2 at *
    have HS2 : Hid (Step No w W2) := Lib.hid (by rw [← hW]; exact HS.out.setCell (fun h => absurd (show b1 < w.heap.size from h) (by omega)) _)
    have HBs2 : Hid (W2.heap[w.heap.size]? = some (.cells #[.int .i64 1, .int .i64 id, .int .i64 no, .int .i64 fr, .int .i64 up, .slice A n c] TS (0, 0))) := Lib.hid (by rw [← hW]; exact blk_set_other HBs.out hne.symm _)
    have HBy2 : Hid (W2.heap[b1]? = some (.cells #[.int .i64 1, .int .i64 id, .int .i64 no, .int .i64 0, .int .i64 0, .slice none 0 0] TS (0, 0))) := Lib.hid (by rw [← hW]; have := blk_set HBy.out 2 (.int .i64 no); simpa using this)
    clear hW s0 s1 s2 s3 s4 s5 y0 y1 y2 y3 y4 y5 y2f
    obtain ⟨s0, s1, s2, s3, s4, s5⟩ := cells6 HBs2.out
    obtain ⟨y0, y1, y2, y3, y4, y5⟩ := cells6 HBy2.out
    go_wp2
    go_ret
    exact ⟨by rw [HR.out]; rfl, HS2.out⟩
set_option maxHeartbeats 4000000 in
set_option maxRecDepth 100000 in
theorem step_no (w : World) (kd id no fr up : Int) (ks : List Int) (A : Option Addr) (n c : Nat) (h0 : kd ≠ 0) (h1 : kd ≠ 1) (h2 : kd ≠ 2) (h3 : kd ≠ 3) : Calls Tryz.prog 111 #[.agg #[.int .i64 kd, .int .i64 id, .int .i64 no, .int .i64 fr, .int .i64 up, .slice A n c]] w (StepMayPost ⟨kd, id, no, fr, up, ks⟩ w) := by
  have HR : Hid (stepB ⟨kd, id, no, fr, up, ks⟩ = false) := Lib.hid (by simp [stepB, stepP, h0, h1, h2, h3])
  have b0 : (kd == 0) = false := beq_eq_false_iff_ne.2 h0
  have b1' : (kd == 1) = false := beq_eq_false_iff_ne.2 h1
  have b2 : (kd == 2) = false := beq_eq_false_iff_ne.2 h2
  have b3 : (kd == 3) = false := beq_eq_false_iff_ne.2 h3
  clear h0 h1 h2 h3
  go_enter Tryz.func111, Tryz.ntmps111
  go_upto_region 2 with (fail)
  generalize hW : World.alloc (World.alloc w _) _ = W at *
  have HS : Hid (Step No w W) := Lib.hid (by rw [← hW]; exact ((Step.refl No w).alloc _).alloc _)
  have HBs : Hid (W.heap[w.heap.size]? = some (.cells #[.int .i64 kd, .int .i64 id, .int .i64 no, .int .i64 fr, .int .i64 up, .slice A n c] TS (0, 0))) := Lib.hid (by rw [← hW]; exact blk_alloc (blk_new _ _) _)
  have HBy : Hid (W.heap[w.heap.size + 1]? = some (.cells #[.int .i64 kd, .int .i64 id, .int .i64 0, .int .i64 0, .int .i64 0, .slice none 0 0] TS (0, 0))) := Lib.hid (by rw [← hW]; simpa using blk_new (w.alloc _) _)
  clear hW
  obtain ⟨b1, hb1⟩ : ∃ b, w.heap.size + 1 = b := ⟨_, rfl⟩
  have hne : w.heap.size ≠ b1 := by omega
  have hge : w.heap.size ≤ b1 := by omega
  rw [hb1] at HBy ⊢
  clear hb1
  obtain ⟨s0, s1, s2, s3, s4, s5⟩ := cells6 HBs.out
  obtain ⟨y0, y1, y2, y3, y4, y5⟩ := cells6 HBy.out
  by_cases g1 : 0 ≤ id
  · go_wp2
    go_ret
    exact ⟨by rw [HR.out]; rfl, HS.out⟩
  · go_wp2
    go_ret
    exact ⟨by rw [HR.out]; rfl, HS.out⟩
end Go.Proofs.YtjeamfoicpgkhaaGreatDoor.RefStep
