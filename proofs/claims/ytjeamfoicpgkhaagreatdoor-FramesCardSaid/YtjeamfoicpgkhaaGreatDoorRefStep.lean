/- May a step be? The reference's answer. -/
import Derived.Test.YtjeamfoicpgkhaaGreatDoorRefMay1
namespace Go.Proofs.YtjeamfoicpgkhaaGreatDoor.RefStep
open Go.RowKit Go.Lib Go.Proofs.YtjeamfoicpgkhaaGreatDoor.Mem Go.Proofs.YtjeamfoicpgkhaaGreatDoor.Read Go.Proofs.YtjeamfoicpgkhaaGreatDoor.Tree Go.Proofs.YtjeamfoicpgkhaaGreatDoor.Data Go.Proofs.YtjeamfoicpgkhaaGreatDoor.CompR Go.Proofs.YtjeamfoicpgkhaaGreatDoor.MsgR Go.Proofs.YtjeamfoicpgkhaaGreatDoor.May
open Go.Proofs.YtjeamfoicpgkhaaGreatDoor.Same (ints_cell)
set_option linter.unusedVariables false
set_option linter.unusedSimpArgs false
abbrev TS : TypeId := 51
theorem cells6 {w : World} {b : Nat} {v0 v1 v2 v3 v4 v5 : Value} {t : TypeId} (h : w.heap[b]? = some (.cells #[v0, v1, v2, v3, v4, v5] t (0, 0))) :
    w.cell? ⟨b, 0, none⟩ = some v0 ∧ w.cell? ⟨b, 1, none⟩ = some v1 ∧ w.cell? ⟨b, 2, none⟩ = some v2 ∧ w.cell? ⟨b, 3, none⟩ = some v3 ∧ w.cell? ⟨b, 4, none⟩ = some v4 ∧ w.cell? ⟨b, 5, none⟩ = some v5 :=
  ⟨blk_cell h 0, blk_cell h 1, blk_cell h 2, blk_cell h 3, blk_cell h 4, blk_cell h 5⟩
def StepMayPost (s : StepD) (w : World) (e : Ending) (w' : World) : Prop := e = .returned (.bool (stepB s)) ∧ Step No w w'
set_option maxHeartbeats 8000000 in
set_option maxRecDepth 100000 in
theorem step0 (w : World) (id no fr up : Int) (ks : List Int) (A : Option Addr) (n c : Nat) (hn : ks.length = n) : Calls Tryz.prog 111 #[.agg #[.int .i64 0, .int .i64 id, .int .i64 no, .int .i64 fr, .int .i64 up, .slice A n c]] w (StepMayPost ⟨0, id, no, fr, up, ks⟩ w) := by
  by_cases h1 : 0 ≤ id
  · by_cases h2 : id < 16777216
    · by_cases h3 : no = 0
      · have q3 : (no == 0) = true := by rw [h3]; rfl
        by_cases h4 : fr = 0
        · have q4 : (fr == 0) = true := by rw [h4]; rfl
          by_cases h5 : up = 0
          · have q5 : (up == 0) = true := by rw [h5]; rfl
            by_cases h6 : n = 0
            · have q6 : ((n : Int) == 0) = true := by rw [h6]; rfl
              have HR : Hid (stepB ⟨0, id, no, fr, up, ks⟩ = true) := Lib.hid (by (simp [stepB, stepP, idP, h1, h2, h3, h4, h5, hn, h6]))
              clear h3 h4 h5 h6 hn
              go_enter Tryz.func111, Tryz.ntmps111
              go_upto_region 2 with (fail)
              generalize hW : World.alloc (World.alloc w _) _ = W at *
              have HS : Hid (Step No w W) := Lib.hid (by rw [← hW]; exact ((Step.refl No w).alloc _).alloc _)
              have HBs : Hid (W.heap[w.heap.size]? = some (.cells #[.int .i64 0, .int .i64 id, .int .i64 no, .int .i64 fr, .int .i64 up, .slice A n c] TS (0, 0))) := Lib.hid (by rw [← hW]; exact blk_alloc (blk_new _ _) _)
              have HBy : Hid (W.heap[w.heap.size + 1]? = some (.cells #[.int .i64 0, .int .i64 id, .int .i64 0, .int .i64 0, .int .i64 0, .slice none 0 0] TS (0, 0))) := Lib.hid (by rw [← hW]; simpa using blk_new (w.alloc _) _)
              clear hW
              obtain ⟨b1, hb1⟩ : ∃ b, w.heap.size + 1 = b := ⟨_, rfl⟩
              have hne : w.heap.size ≠ b1 := by omega
              have hge : w.heap.size ≤ b1 := by omega
              rw [hb1] at HBy ⊢
              clear hb1
              obtain ⟨s0, s1, s2, s3, s4, s5⟩ := cells6 HBs.out
              obtain ⟨y0, y1, y2, y3, y4, y5⟩ := cells6 HBy.out
              go_wp2
              go_ret
              exact ⟨by rw [HR.out]; rfl, HS.out⟩
            · have q6 : ((n : Int) == 0) = false := by rw [beq_eq_false_iff_ne]; omega
              have HR : Hid (stepB ⟨0, id, no, fr, up, ks⟩ = false) := Lib.hid (by (simp [stepB, stepP, idP, h1, h2, h3, h4, h5, hn, h6]))
              clear h3 h4 h5 h6 hn
              go_enter Tryz.func111, Tryz.ntmps111
              go_upto_region 2 with (fail)
              generalize hW : World.alloc (World.alloc w _) _ = W at *
              have HS : Hid (Step No w W) := Lib.hid (by rw [← hW]; exact ((Step.refl No w).alloc _).alloc _)
              have HBs : Hid (W.heap[w.heap.size]? = some (.cells #[.int .i64 0, .int .i64 id, .int .i64 no, .int .i64 fr, .int .i64 up, .slice A n c] TS (0, 0))) := Lib.hid (by rw [← hW]; exact blk_alloc (blk_new _ _) _)
              have HBy : Hid (W.heap[w.heap.size + 1]? = some (.cells #[.int .i64 0, .int .i64 id, .int .i64 0, .int .i64 0, .int .i64 0, .slice none 0 0] TS (0, 0))) := Lib.hid (by rw [← hW]; simpa using blk_new (w.alloc _) _)
              clear hW
              obtain ⟨b1, hb1⟩ : ∃ b, w.heap.size + 1 = b := ⟨_, rfl⟩
              have hne : w.heap.size ≠ b1 := by omega
              have hge : w.heap.size ≤ b1 := by omega
              rw [hb1] at HBy ⊢
              clear hb1
              obtain ⟨s0, s1, s2, s3, s4, s5⟩ := cells6 HBs.out
              obtain ⟨y0, y1, y2, y3, y4, y5⟩ := cells6 HBy.out
              go_wp2
              go_ret
              exact ⟨by rw [HR.out]; rfl, HS.out⟩
          · have q5 : (up == 0) = false := beq_eq_false_iff_ne.2 h5
            have HR : Hid (stepB ⟨0, id, no, fr, up, ks⟩ = false) := Lib.hid (by (simp [stepB, stepP, idP, h5]))
            clear h3 h4 h5 hn
            go_enter Tryz.func111, Tryz.ntmps111
            go_upto_region 2 with (fail)
            generalize hW : World.alloc (World.alloc w _) _ = W at *
            have HS : Hid (Step No w W) := Lib.hid (by rw [← hW]; exact ((Step.refl No w).alloc _).alloc _)
            have HBs : Hid (W.heap[w.heap.size]? = some (.cells #[.int .i64 0, .int .i64 id, .int .i64 no, .int .i64 fr, .int .i64 up, .slice A n c] TS (0, 0))) := Lib.hid (by rw [← hW]; exact blk_alloc (blk_new _ _) _)
            have HBy : Hid (W.heap[w.heap.size + 1]? = some (.cells #[.int .i64 0, .int .i64 id, .int .i64 0, .int .i64 0, .int .i64 0, .slice none 0 0] TS (0, 0))) := Lib.hid (by rw [← hW]; simpa using blk_new (w.alloc _) _)
            clear hW
            obtain ⟨b1, hb1⟩ : ∃ b, w.heap.size + 1 = b := ⟨_, rfl⟩
            have hne : w.heap.size ≠ b1 := by omega
            have hge : w.heap.size ≤ b1 := by omega
            rw [hb1] at HBy ⊢
            clear hb1
            obtain ⟨s0, s1, s2, s3, s4, s5⟩ := cells6 HBs.out
            obtain ⟨y0, y1, y2, y3, y4, y5⟩ := cells6 HBy.out
            go_wp2
            go_ret
            exact ⟨by rw [HR.out]; rfl, HS.out⟩
        · have q4 : (fr == 0) = false := beq_eq_false_iff_ne.2 h4
          have HR : Hid (stepB ⟨0, id, no, fr, up, ks⟩ = false) := Lib.hid (by (simp [stepB, stepP, idP, h4]))
          clear h3 h4 hn
          go_enter Tryz.func111, Tryz.ntmps111
          go_upto_region 2 with (fail)
          generalize hW : World.alloc (World.alloc w _) _ = W at *
          have HS : Hid (Step No w W) := Lib.hid (by rw [← hW]; exact ((Step.refl No w).alloc _).alloc _)
          have HBs : Hid (W.heap[w.heap.size]? = some (.cells #[.int .i64 0, .int .i64 id, .int .i64 no, .int .i64 fr, .int .i64 up, .slice A n c] TS (0, 0))) := Lib.hid (by rw [← hW]; exact blk_alloc (blk_new _ _) _)
          have HBy : Hid (W.heap[w.heap.size + 1]? = some (.cells #[.int .i64 0, .int .i64 id, .int .i64 0, .int .i64 0, .int .i64 0, .slice none 0 0] TS (0, 0))) := Lib.hid (by rw [← hW]; simpa using blk_new (w.alloc _) _)
          clear hW
          obtain ⟨b1, hb1⟩ : ∃ b, w.heap.size + 1 = b := ⟨_, rfl⟩
          have hne : w.heap.size ≠ b1 := by omega
          have hge : w.heap.size ≤ b1 := by omega
          rw [hb1] at HBy ⊢
          clear hb1
          obtain ⟨s0, s1, s2, s3, s4, s5⟩ := cells6 HBs.out
          obtain ⟨y0, y1, y2, y3, y4, y5⟩ := cells6 HBy.out
          go_wp2
          go_ret
          exact ⟨by rw [HR.out]; rfl, HS.out⟩
      · have q3 : (no == 0) = false := beq_eq_false_iff_ne.2 h3
        have HR : Hid (stepB ⟨0, id, no, fr, up, ks⟩ = false) := Lib.hid (by (simp [stepB, stepP, idP, h3]))
        clear h3 hn
        go_enter Tryz.func111, Tryz.ntmps111
        go_upto_region 2 with (fail)
        generalize hW : World.alloc (World.alloc w _) _ = W at *
        have HS : Hid (Step No w W) := Lib.hid (by rw [← hW]; exact ((Step.refl No w).alloc _).alloc _)
        have HBs : Hid (W.heap[w.heap.size]? = some (.cells #[.int .i64 0, .int .i64 id, .int .i64 no, .int .i64 fr, .int .i64 up, .slice A n c] TS (0, 0))) := Lib.hid (by rw [← hW]; exact blk_alloc (blk_new _ _) _)
        have HBy : Hid (W.heap[w.heap.size + 1]? = some (.cells #[.int .i64 0, .int .i64 id, .int .i64 0, .int .i64 0, .int .i64 0, .slice none 0 0] TS (0, 0))) := Lib.hid (by rw [← hW]; simpa using blk_new (w.alloc _) _)
        clear hW
        obtain ⟨b1, hb1⟩ : ∃ b, w.heap.size + 1 = b := ⟨_, rfl⟩
        have hne : w.heap.size ≠ b1 := by omega
        have hge : w.heap.size ≤ b1 := by omega
        rw [hb1] at HBy ⊢
        clear hb1
        obtain ⟨s0, s1, s2, s3, s4, s5⟩ := cells6 HBs.out
        obtain ⟨y0, y1, y2, y3, y4, y5⟩ := cells6 HBy.out
        go_wp2
        go_ret
        exact ⟨by rw [HR.out]; rfl, HS.out⟩
    · have HR : Hid (stepB ⟨0, id, no, fr, up, ks⟩ = false) := Lib.hid (by (simp [stepB, stepP, idP, h2]))
      clear hn
      go_enter Tryz.func111, Tryz.ntmps111
      go_upto_region 2 with (fail)
      generalize hW : World.alloc (World.alloc w _) _ = W at *
      have HS : Hid (Step No w W) := Lib.hid (by rw [← hW]; exact ((Step.refl No w).alloc _).alloc _)
      have HBs : Hid (W.heap[w.heap.size]? = some (.cells #[.int .i64 0, .int .i64 id, .int .i64 no, .int .i64 fr, .int .i64 up, .slice A n c] TS (0, 0))) := Lib.hid (by rw [← hW]; exact blk_alloc (blk_new _ _) _)
      have HBy : Hid (W.heap[w.heap.size + 1]? = some (.cells #[.int .i64 0, .int .i64 id, .int .i64 0, .int .i64 0, .int .i64 0, .slice none 0 0] TS (0, 0))) := Lib.hid (by rw [← hW]; simpa using blk_new (w.alloc _) _)
      clear hW
      obtain ⟨b1, hb1⟩ : ∃ b, w.heap.size + 1 = b := ⟨_, rfl⟩
      have hne : w.heap.size ≠ b1 := by omega
      have hge : w.heap.size ≤ b1 := by omega
      rw [hb1] at HBy ⊢
      clear hb1
      obtain ⟨s0, s1, s2, s3, s4, s5⟩ := cells6 HBs.out
      obtain ⟨y0, y1, y2, y3, y4, y5⟩ := cells6 HBy.out
      go_wp2
      go_ret
      exact ⟨by rw [HR.out]; rfl, HS.out⟩
  · have HR : Hid (stepB ⟨0, id, no, fr, up, ks⟩ = false) := Lib.hid (by (simp [stepB, stepP, idP, h1]))
    clear hn
    go_enter Tryz.func111, Tryz.ntmps111
    go_upto_region 2 with (fail)
    generalize hW : World.alloc (World.alloc w _) _ = W at *
    have HS : Hid (Step No w W) := Lib.hid (by rw [← hW]; exact ((Step.refl No w).alloc _).alloc _)
    have HBs : Hid (W.heap[w.heap.size]? = some (.cells #[.int .i64 0, .int .i64 id, .int .i64 no, .int .i64 fr, .int .i64 up, .slice A n c] TS (0, 0))) := Lib.hid (by rw [← hW]; exact blk_alloc (blk_new _ _) _)
    have HBy : Hid (W.heap[w.heap.size + 1]? = some (.cells #[.int .i64 0, .int .i64 id, .int .i64 0, .int .i64 0, .int .i64 0, .slice none 0 0] TS (0, 0))) := Lib.hid (by rw [← hW]; simpa using blk_new (w.alloc _) _)
    clear hW
    obtain ⟨b1, hb1⟩ : ∃ b, w.heap.size + 1 = b := ⟨_, rfl⟩
    have hne : w.heap.size ≠ b1 := by omega
    have hge : w.heap.size ≤ b1 := by omega
    rw [hb1] at HBy ⊢
    clear hb1
    obtain ⟨s0, s1, s2, s3, s4, s5⟩ := cells6 HBs.out
    obtain ⟨y0, y1, y2, y3, y4, y5⟩ := cells6 HBy.out
    go_wp2
    go_ret
    exact ⟨by rw [HR.out]; rfl, HS.out⟩
end Go.Proofs.YtjeamfoicpgkhaaGreatDoor.RefStep
