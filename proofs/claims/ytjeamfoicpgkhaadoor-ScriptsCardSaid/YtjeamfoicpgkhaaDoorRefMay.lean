/- May an act be? The reference's answer. -/
import Derived.Test.YtjeamfoicpgkhaaDoorScrMay
namespace Go.Proofs.YtjeamfoicpgkhaaDoor.ScrW
open Go.RowKit Go.Lib Go.Proofs.YtjeamfoicpgkhaaDoor.Mem Go.Proofs.YtjeamfoicpgkhaaDoor.Scr
set_option linter.unusedVariables false
set_option linter.unusedSimpArgs false
def okB (a : ActD) : Bool := decide (0 ≤ a.client) && decide (a.client < 3) && decide (0 ≤ a.at_) && decide (a.at_ ≤ 4096) && decide (0 ≤ a.n) && decide (a.n ≤ 1000000)
theorem ok_false {a : ActD} (h : okB a = false) : actMay a = false := by
  cases hm : actMay a with
  | false => rfl
  | true =>
    obtain ⟨h1, h2, h3, h4, h5, h6, h7, h8, _⟩ := may_facts hm
    unfold okB at h
    simp [h3, h4, h5, h6, h7, h8] at h
theorem ok_true {a : ActD} (h : okB a = true) : 0 ≤ a.client ∧ a.client < 3 ∧ 0 ≤ a.at_ ∧ a.at_ ≤ 4096 ∧ 0 ≤ a.n ∧ a.n ≤ 1000000 := by
  unfold okB at h
  simp only [Bool.and_eq_true, decide_eq_true_eq] at h
  obtain ⟨⟨⟨⟨⟨h1, h2⟩, h3⟩, h4⟩, h5⟩, h6⟩ := h
  exact ⟨h1, h2, h3, h4, h5, h6⟩
theorem two_new (w : World) (cs ds : Array Value) (T U : TypeId) : Step No w ((w.alloc (.cells cs T)).alloc (.cells ds U)) ∧ ((w.alloc (.cells cs T)).alloc (.cells ds U)).heap[w.heap.size]? = some (.cells cs T (0, 0)) ∧ ((w.alloc (.cells cs T)).alloc (.cells ds U)).heap[w.heap.size + 1]? = some (.cells ds U (0, 0)) := by
  refine ⟨(Step.alloc (Step.refl No w) _).alloc _, blk_alloc (blk_new w _) _, ?_⟩
  have := blk_new (w.alloc (.cells cs T)) (.cells ds U)
  simpa using this
set_option maxHeartbeats 8000000 in
set_option maxRecDepth 100000 in
theorem ActMay_any (a : ActD) (w : World) (hsz : a.text.size ≤ maxLen) : Calls Tryd.prog 16 #[aggA a] w fun e w' => e = .returned (.bool (actMay a)) ∧ Step No w w' := by
  obtain ⟨k, c, u, p, n, t⟩ := a
  unfold aggA
  simp only at *
  go_enter Tryd.func16, Tryd.ntmps16
  go_upto_region 2 with (fail)
  generalize hW : World.alloc (World.alloc w _) _ = W
  obtain ⟨hs, hb1, hb2⟩ := two_new w #[.int .i64 k, .int .i64 c, .bool u, .int .i64 p, .int .i64 n, .string t] #[.int .i64 k, .int .i64 c, .bool false, .int .i64 0, .int .i64 0, .string ⟨#[]⟩] 37 37
  rw [hW] at hs hb1 hb2
  clear hW
  have c0 : W.cell? ⟨w.heap.size, 0, none⟩ = some (.int .i64 k) := blk_cell hb1 0
  have c1 : W.cell? ⟨w.heap.size, 1, none⟩ = some (.int .i64 c) := blk_cell hb1 1
  have c2 : W.cell? ⟨w.heap.size, 2, none⟩ = some (.bool u) := blk_cell hb1 2
  have c3 : W.cell? ⟨w.heap.size, 3, none⟩ = some (.int .i64 p) := blk_cell hb1 3
  have c4 : W.cell? ⟨w.heap.size, 4, none⟩ = some (.int .i64 n) := blk_cell hb1 4
  have c5 : W.cell? ⟨w.heap.size, 5, none⟩ = some (.string t) := blk_cell hb1 5
  have d0 : W.cell? ⟨w.heap.size + 1, 0, none⟩ = some (.int .i64 k) := blk_cell hb2 0
  have d1 : W.cell? ⟨w.heap.size + 1, 1, none⟩ = some (.int .i64 c) := blk_cell hb2 1
  have d2 : W.cell? ⟨w.heap.size + 1, 2, none⟩ = some (.bool false) := blk_cell hb2 2
  have d3 : W.cell? ⟨w.heap.size + 1, 3, none⟩ = some (.int .i64 0) := blk_cell hb2 3
  have d4 : W.cell? ⟨w.heap.size + 1, 4, none⟩ = some (.int .i64 0) := blk_cell hb2 4
  have d5 : W.cell? ⟨w.heap.size + 1, 5, none⟩ = some (.string ⟨#[]⟩) := blk_cell hb2 5
  have f2 : W.frozen? ⟨w.heap.size + 1, 2, none⟩ = false := blk_free hb2 2
  have f3 : W.frozen? ⟨w.heap.size + 1, 3, none⟩ = false := blk_free hb2 3
  have f4 : W.frozen? ⟨w.heap.size + 1, 4, none⟩ = false := blk_free hb2 4
  have f5 : W.frozen? ⟨w.heap.size + 1, 5, none⟩ = false := blk_free hb2 5
  have HS := Lib.hid hs
  clear hs hb1 hb2
  go_cut [4] (fun s4 wx => s4 = .bool (okB ⟨k, c, u, p, n, t⟩) ∧ wx = W)
  case first =>
    by_cases h3 : 0 ≤ c
    · by_cases h4 : c < 3
      · by_cases h5 : 0 ≤ p
        · by_cases h6 : p ≤ 4096
          · by_cases h7 : 0 ≤ n
            · by_cases h8 : n ≤ 1000000
              · go_wp2_with fail
                go_meet
                exact ⟨by unfold okB; simp [*]; try omega, rfl⟩
              · go_wp2_with fail
                go_meet
                exact ⟨by unfold okB; simp [*]; try omega, rfl⟩
            · go_wp2_with fail
              go_meet
              exact ⟨by unfold okB; simp [*]; try omega, rfl⟩
          · go_wp2_with fail
            go_meet
            exact ⟨by unfold okB; simp [*]; try omega, rfl⟩
        · go_wp2_with fail
          go_meet
          exact ⟨by unfold okB; simp [*]; try omega, rfl⟩
      · go_wp2_with fail
        go_meet
        exact ⟨by unfold okB; simp [*]; try omega, rfl⟩
    · go_wp2_with fail
      go_meet
      exact ⟨by unfold okB; simp [*]; try omega, rfl⟩
  case rest =>
    obtain ⟨rfl, rfl⟩ := hcut
    obtain ⟨ok, HOK⟩ : ∃ ok, Hid (okB ⟨k, c, u, p, n, t⟩ = ok) := ⟨_, Lib.hid rfl⟩
    rw [HOK.out]
    cases ok
    · have HF := Lib.hid (ok_false HOK.out)
      go_wp2
      all_goals
        go_ret
        exact ⟨by rw [HF.out]; rfl, by repeat' (first | exact HS.out | refine Step.setCell ?_ (fun h => absurd h (Nat.not_lt.2 (Nat.le_succ _))) _)⟩
    · obtain ⟨h1, h2, h3, h4, h5, h6⟩ := ok_true HOK.out
      simp only at h1 h2 h3 h4 h5 h6
      by_cases hk : 0 ≤ k ∧ k < 8
      · have hte : (t.toList == []) = decide (t.size = 0) := by
          rw [ByteArray.toList_eq, Bool.eq_iff_iff, beq_iff_eq, decide_eq_true_eq]
          have hl : t.data.toList.length = t.size := Array.length_toList
          rw [← hl, List.length_eq_zero_iff]
        clear HOK
        rcases kind_cases hk.1 hk.2 with e | e | e | e | e | e | e | e <;> subst e
        · by_cases ht : t.size ≤ 300
          · have hb : decide ((t.size : Int) ≤ 300) = true := decide_eq_true (by omega)
            cases u
            · · have HM : Hid (actMay ⟨0, c, false, p, n, t⟩ = true) := Lib.hid (by simp [actMay, isEdit, isBreak, isMove, *] <;> omega)
                go_wp2
                go_ret
                exact ⟨by rw [HM.out]; rfl, by repeat' (first | exact HS.out | refine Step.setCell ?_ (fun h => absurd h (Nat.not_lt.2 (Nat.le_succ _))) _)⟩
            · · have HM : Hid (actMay ⟨0, c, true, p, n, t⟩ = false) := Lib.hid (by simp [actMay, isEdit, isBreak, isMove, *] <;> omega)
                go_wp2
                go_ret
                exact ⟨by rw [HM.out]; rfl, by repeat' (first | exact HS.out | refine Step.setCell ?_ (fun h => absurd h (Nat.not_lt.2 (Nat.le_succ _))) _)⟩
          · have hb : decide ((t.size : Int) ≤ 300) = false := decide_eq_false (by omega)
            · have HM : Hid (actMay ⟨0, c, u, p, n, t⟩ = false) := Lib.hid (by simp [actMay, isEdit, isBreak, isMove, *] <;> omega)
              go_wp2
              go_ret
              exact ⟨by rw [HM.out]; rfl, by repeat' (first | exact HS.out | refine Step.setCell ?_ (fun h => absurd h (Nat.not_lt.2 (Nat.le_succ _))) _)⟩
        · · cases u
            · by_cases hp : p = 0
              · by_cases hn : n = 0
                · by_cases ht : t.size = 0
                  · rw [decide_eq_true ht] at hte
                    · have HM : Hid (actMay ⟨1, c, false, p, n, t⟩ = true) := Lib.hid (by simp [actMay, isEdit, isBreak, isMove, *] <;> omega)
                      go_wp2
                      go_ret
                      exact ⟨by rw [HM.out]; rfl, by repeat' (first | exact HS.out | refine Step.setCell ?_ (fun h => absurd h (Nat.not_lt.2 (Nat.le_succ _))) _)⟩
                  · rw [decide_eq_false ht] at hte
                    · have HM : Hid (actMay ⟨1, c, false, p, n, t⟩ = false) := Lib.hid (by simp [actMay, isEdit, isBreak, isMove, *] <;> omega)
                      go_wp2
                      go_ret
                      exact ⟨by rw [HM.out]; rfl, by repeat' (first | exact HS.out | refine Step.setCell ?_ (fun h => absurd h (Nat.not_lt.2 (Nat.le_succ _))) _)⟩
                · · have HM : Hid (actMay ⟨1, c, false, p, n, t⟩ = false) := Lib.hid (by simp [actMay, isEdit, isBreak, isMove, *] <;> omega)
                    go_wp2
                    go_ret
                    exact ⟨by rw [HM.out]; rfl, by repeat' (first | exact HS.out | refine Step.setCell ?_ (fun h => absurd h (Nat.not_lt.2 (Nat.le_succ _))) _)⟩
              · · have HM : Hid (actMay ⟨1, c, false, p, n, t⟩ = false) := Lib.hid (by simp [actMay, isEdit, isBreak, isMove, *] <;> omega)
                  go_wp2
                  go_ret
                  exact ⟨by rw [HM.out]; rfl, by repeat' (first | exact HS.out | refine Step.setCell ?_ (fun h => absurd h (Nat.not_lt.2 (Nat.le_succ _))) _)⟩
            · · have HM : Hid (actMay ⟨1, c, true, p, n, t⟩ = false) := Lib.hid (by simp [actMay, isEdit, isBreak, isMove, *] <;> omega)
                go_wp2
                go_ret
                exact ⟨by rw [HM.out]; rfl, by repeat' (first | exact HS.out | refine Step.setCell ?_ (fun h => absurd h (Nat.not_lt.2 (Nat.le_succ _))) _)⟩
        · · by_cases hn : n = 0
            · by_cases ht : t.size = 0
              · rw [decide_eq_true ht] at hte
                · have HM : Hid (actMay ⟨2, c, u, p, n, t⟩ = true) := Lib.hid (by simp [actMay, isEdit, isBreak, isMove, *] <;> omega)
                  go_wp2
                  go_ret
                  exact ⟨by rw [HM.out]; rfl, by repeat' (first | exact HS.out | refine Step.setCell ?_ (fun h => absurd h (Nat.not_lt.2 (Nat.le_succ _))) _)⟩
              · rw [decide_eq_false ht] at hte
                · have HM : Hid (actMay ⟨2, c, u, p, n, t⟩ = false) := Lib.hid (by simp [actMay, isEdit, isBreak, isMove, *] <;> omega)
                  go_wp2
                  go_ret
                  exact ⟨by rw [HM.out]; rfl, by repeat' (first | exact HS.out | refine Step.setCell ?_ (fun h => absurd h (Nat.not_lt.2 (Nat.le_succ _))) _)⟩
            · · have HM : Hid (actMay ⟨2, c, u, p, n, t⟩ = false) := Lib.hid (by simp [actMay, isEdit, isBreak, isMove, *] <;> omega)
                go_wp2
                go_ret
                exact ⟨by rw [HM.out]; rfl, by repeat' (first | exact HS.out | refine Step.setCell ?_ (fun h => absurd h (Nat.not_lt.2 (Nat.le_succ _))) _)⟩
        · · by_cases hn : n = 0
            · by_cases ht : t.size = 0
              · rw [decide_eq_true ht] at hte
                · have HM : Hid (actMay ⟨3, c, u, p, n, t⟩ = true) := Lib.hid (by simp [actMay, isEdit, isBreak, isMove, *] <;> omega)
                  go_wp2
                  go_ret
                  exact ⟨by rw [HM.out]; rfl, by repeat' (first | exact HS.out | refine Step.setCell ?_ (fun h => absurd h (Nat.not_lt.2 (Nat.le_succ _))) _)⟩
              · rw [decide_eq_false ht] at hte
                · have HM : Hid (actMay ⟨3, c, u, p, n, t⟩ = false) := Lib.hid (by simp [actMay, isEdit, isBreak, isMove, *] <;> omega)
                  go_wp2
                  go_ret
                  exact ⟨by rw [HM.out]; rfl, by repeat' (first | exact HS.out | refine Step.setCell ?_ (fun h => absurd h (Nat.not_lt.2 (Nat.le_succ _))) _)⟩
            · · have HM : Hid (actMay ⟨3, c, u, p, n, t⟩ = false) := Lib.hid (by simp [actMay, isEdit, isBreak, isMove, *] <;> omega)
                go_wp2
                go_ret
                exact ⟨by rw [HM.out]; rfl, by repeat' (first | exact HS.out | refine Step.setCell ?_ (fun h => absurd h (Nat.not_lt.2 (Nat.le_succ _))) _)⟩
        · · by_cases hn : n = 0
            · by_cases ht : t.size = 0
              · rw [decide_eq_true ht] at hte
                · have HM : Hid (actMay ⟨4, c, u, p, n, t⟩ = true) := Lib.hid (by simp [actMay, isEdit, isBreak, isMove, *] <;> omega)
                  go_wp2
                  go_ret
                  exact ⟨by rw [HM.out]; rfl, by repeat' (first | exact HS.out | refine Step.setCell ?_ (fun h => absurd h (Nat.not_lt.2 (Nat.le_succ _))) _)⟩
              · rw [decide_eq_false ht] at hte
                · have HM : Hid (actMay ⟨4, c, u, p, n, t⟩ = false) := Lib.hid (by simp [actMay, isEdit, isBreak, isMove, *] <;> omega)
                  go_wp2
                  go_ret
                  exact ⟨by rw [HM.out]; rfl, by repeat' (first | exact HS.out | refine Step.setCell ?_ (fun h => absurd h (Nat.not_lt.2 (Nat.le_succ _))) _)⟩
            · · have HM : Hid (actMay ⟨4, c, u, p, n, t⟩ = false) := Lib.hid (by simp [actMay, isEdit, isBreak, isMove, *] <;> omega)
                go_wp2
                go_ret
                exact ⟨by rw [HM.out]; rfl, by repeat' (first | exact HS.out | refine Step.setCell ?_ (fun h => absurd h (Nat.not_lt.2 (Nat.le_succ _))) _)⟩
        · by_cases ht : t.size = 1
          · obtain ⟨b, ⟨hp0, hidx⟩, hbl⟩ : ∃ b : UInt8, (∃ h : 0 < t.size, t[0]'h = b) ∧ t.data.toList = [b] := by
              obtain ⟨ar⟩ := t
              obtain ⟨l⟩ := ar
              have hl : l.length = 1 := ht
              obtain ⟨b, rfl⟩ := List.length_eq_one_iff.1 hl
              exact ⟨b, ⟨Nat.succ_pos 0, rfl⟩, rfl⟩
            have hs1 : ((t.size : Int) == 1) = true := beq_iff_eq.2 (by omega)
            have hs2 : (0 : Int) < t.size := by omega
            have hs3 : (1 : Int) ≤ t.size := by omega
            have hself : (t.toList == t.toList) = true := beq_self_eq_true _
            clear hte
            by_cases hb : b = 0
            · subst hb
              · have HM : Hid (actMay ⟨5, c, u, p, n, t⟩ = false) := Lib.hid (by simp [actMay, isEdit, isBreak, isMove, hbl])
                have Hht := Lib.hid ht
                have Hhbl := Lib.hid hbl
                clear ht hbl
                go_wp2
                go_ret
                exact ⟨by rw [HM.out]; rfl, by repeat' (first | exact HS.out | refine Step.setCell ?_ (fun h => absurd h (Nat.not_lt.2 (Nat.le_succ _))) _)⟩
            · have hne : ((b.toNat : Int) != 0) = true := by rw [bne_iff_ne]; intro h; exact hb (UInt8.toNat_inj.1 (by show b.toNat = 0; omega))
              have hne2 : ((b.toNat : Int) == 0) = false := beq_eq_false_iff_ne.2 (fun h => hb (UInt8.toNat_inj.1 (by show b.toNat = 0; omega)))
              have HM : Hid (actMay ⟨5, c, u, p, n, t⟩ = true) := Lib.hid (by
                simp [actMay, isEdit, isBreak, isMove, hb, hbl, ht]
                omega)
              clear hb
              have Hht := Lib.hid ht
              have Hhbl := Lib.hid hbl
              clear ht hbl
              go_wp2
              go_ret
              exact ⟨by rw [HM.out]; rfl, by repeat' (first | exact HS.out | refine Step.setCell ?_ (fun h => absurd h (Nat.not_lt.2 (Nat.le_succ _))) _)⟩
          · have hb : ((t.size : Int) == 1) = false := beq_eq_false_iff_ne.2 (by omega)
            have ht2 : ¬ (t.size : Int) = 1 := by omega
            clear hte
            · have HM : Hid (actMay ⟨5, c, u, p, n, t⟩ = false) := Lib.hid (by simp [actMay, isEdit, isBreak, isMove, ht])
              go_wp2
              go_ret
              exact ⟨by rw [HM.out]; rfl, by repeat' (first | exact HS.out | refine Step.setCell ?_ (fun h => absurd h (Nat.not_lt.2 (Nat.le_succ _))) _)⟩
        · · cases u
            · by_cases hp : p = 0
              · by_cases hn : n = 0
                · by_cases ht : t.size = 0
                  · rw [decide_eq_true ht] at hte
                    · have HM : Hid (actMay ⟨6, c, false, p, n, t⟩ = true) := Lib.hid (by simp [actMay, isEdit, isBreak, isMove, *] <;> omega)
                      go_wp2
                      go_ret
                      exact ⟨by rw [HM.out]; rfl, by repeat' (first | exact HS.out | refine Step.setCell ?_ (fun h => absurd h (Nat.not_lt.2 (Nat.le_succ _))) _)⟩
                  · rw [decide_eq_false ht] at hte
                    · have HM : Hid (actMay ⟨6, c, false, p, n, t⟩ = false) := Lib.hid (by simp [actMay, isEdit, isBreak, isMove, *] <;> omega)
                      go_wp2
                      go_ret
                      exact ⟨by rw [HM.out]; rfl, by repeat' (first | exact HS.out | refine Step.setCell ?_ (fun h => absurd h (Nat.not_lt.2 (Nat.le_succ _))) _)⟩
                · · have HM : Hid (actMay ⟨6, c, false, p, n, t⟩ = false) := Lib.hid (by simp [actMay, isEdit, isBreak, isMove, *] <;> omega)
                    go_wp2
                    go_ret
                    exact ⟨by rw [HM.out]; rfl, by repeat' (first | exact HS.out | refine Step.setCell ?_ (fun h => absurd h (Nat.not_lt.2 (Nat.le_succ _))) _)⟩
              · · have HM : Hid (actMay ⟨6, c, false, p, n, t⟩ = false) := Lib.hid (by simp [actMay, isEdit, isBreak, isMove, *] <;> omega)
                  go_wp2
                  go_ret
                  exact ⟨by rw [HM.out]; rfl, by repeat' (first | exact HS.out | refine Step.setCell ?_ (fun h => absurd h (Nat.not_lt.2 (Nat.le_succ _))) _)⟩
            · · have HM : Hid (actMay ⟨6, c, true, p, n, t⟩ = false) := Lib.hid (by simp [actMay, isEdit, isBreak, isMove, *] <;> omega)
                go_wp2
                go_ret
                exact ⟨by rw [HM.out]; rfl, by repeat' (first | exact HS.out | refine Step.setCell ?_ (fun h => absurd h (Nat.not_lt.2 (Nat.le_succ _))) _)⟩
        · · cases u
            · by_cases hp : p = 0
              · by_cases hn : n = 0
                · by_cases ht : t.size = 0
                  · rw [decide_eq_true ht] at hte
                    · have HM : Hid (actMay ⟨7, c, false, p, n, t⟩ = true) := Lib.hid (by simp [actMay, isEdit, isBreak, isMove, *] <;> omega)
                      go_wp2
                      go_ret
                      exact ⟨by rw [HM.out]; rfl, by repeat' (first | exact HS.out | refine Step.setCell ?_ (fun h => absurd h (Nat.not_lt.2 (Nat.le_succ _))) _)⟩
                  · rw [decide_eq_false ht] at hte
                    · have HM : Hid (actMay ⟨7, c, false, p, n, t⟩ = false) := Lib.hid (by simp [actMay, isEdit, isBreak, isMove, *] <;> omega)
                      go_wp2
                      go_ret
                      exact ⟨by rw [HM.out]; rfl, by repeat' (first | exact HS.out | refine Step.setCell ?_ (fun h => absurd h (Nat.not_lt.2 (Nat.le_succ _))) _)⟩
                · · have HM : Hid (actMay ⟨7, c, false, p, n, t⟩ = false) := Lib.hid (by simp [actMay, isEdit, isBreak, isMove, *] <;> omega)
                    go_wp2
                    go_ret
                    exact ⟨by rw [HM.out]; rfl, by repeat' (first | exact HS.out | refine Step.setCell ?_ (fun h => absurd h (Nat.not_lt.2 (Nat.le_succ _))) _)⟩
              · · have HM : Hid (actMay ⟨7, c, false, p, n, t⟩ = false) := Lib.hid (by simp [actMay, isEdit, isBreak, isMove, *] <;> omega)
                  go_wp2
                  go_ret
                  exact ⟨by rw [HM.out]; rfl, by repeat' (first | exact HS.out | refine Step.setCell ?_ (fun h => absurd h (Nat.not_lt.2 (Nat.le_succ _))) _)⟩
            · · have HM : Hid (actMay ⟨7, c, true, p, n, t⟩ = false) := Lib.hid (by simp [actMay, isEdit, isBreak, isMove, *] <;> omega)
                go_wp2
                go_ret
                exact ⟨by rw [HM.out]; rfl, by repeat' (first | exact HS.out | refine Step.setCell ?_ (fun h => absurd h (Nat.not_lt.2 (Nat.le_succ _))) _)⟩
      · have HF : Hid (actMay ⟨k, c, u, p, n, t⟩ = false) := Lib.hid (may_out (by simp only; omega))
        have e0 : (k == 0) = false := beq_eq_false_iff_ne.2 (by omega)
        have e1 : (k == 1) = false := beq_eq_false_iff_ne.2 (by omega)
        have e2 : (k == 2) = false := beq_eq_false_iff_ne.2 (by omega)
        have e3 : (k == 3) = false := beq_eq_false_iff_ne.2 (by omega)
        have e4 : (k == 4) = false := beq_eq_false_iff_ne.2 (by omega)
        have e5 : (k == 5) = false := beq_eq_false_iff_ne.2 (by omega)
        have e6 : (k == 6) = false := beq_eq_false_iff_ne.2 (by omega)
        have e7 : (k == 7) = false := beq_eq_false_iff_ne.2 (by omega)
        clear HOK
        go_wp2
        go_ret
        exact ⟨by rw [HF.out]; rfl, by repeat' (first | exact HS.out | refine Step.setCell ?_ (fun h => absurd h (Nat.not_lt.2 (Nat.le_succ _))) _)⟩
end Go.Proofs.YtjeamfoicpgkhaaDoor.ScrW
