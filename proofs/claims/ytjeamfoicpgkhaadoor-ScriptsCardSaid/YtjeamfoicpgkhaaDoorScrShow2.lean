/- Acts, shown: the walk. -/
import Derived.Test.YtjeamfoicpgkhaaDoorScrShow
namespace Go.Proofs.YtjeamfoicpgkhaaDoor.ScrW
open Go.RowKit Go.Lib Go.Proofs.YtjeamfoicpgkhaaDoor.Mem Go.Proofs.YtjeamfoicpgkhaaDoor.Scr Go.Proofs.YtjeamfoicpgkhaaDoor.Read Go.Proofs.YtjeamfoicpgkhaaDoor.Build Go.Proofs.YtjeamfoicpgkhaaDoor.Env Go.Proofs.YtjeamfoicpgkhaaDoor.Writer Go.Proofs.YtjeamfoicpgkhaaDoor.Take
set_option linter.unusedVariables false
set_option linter.unusedSimpArgs false
theorem round_done {w wr w2 wz : World} {l : List UInt8} (h : WS (fun j => w.heap.size ≤ j ∧ j < wr.heap.size) w2 wz w.heap.size l) (hs : Step No w w2) : WRep (fun j => w.heap.size ≤ j) wz w.heap.size l ∧ Step No w wz :=
  ⟨h.1.mono (fun k _ o => o.elim (·.1) (fun o => Nat.le_trans hs.size o)), hs.trans h.2 (fun i h hlt => absurd hlt (Nat.not_lt.2 h.1))⟩
theorem nums_one (x : Int) (h0 : 0 ≤ x) (h1 : x ≤ 1000000) : (nums [x]).length ≤ 22 := by
  have := nums_len [x] (by intro y hy; rw [List.mem_singleton] at hy; subst hy; exact ⟨by omega, by omega⟩)
  simpa using this
theorem way_is (u : Bool) (Y : UInt8) (h : Hid ((if u = true then 117 else 100) = Y)) (w : World) : Calls Tryd.prog 26 #[.bool u] w fun e w' => e = .returned (.string ⟨#[Y]⟩) ∧ w = w' := by
  rw [← h.out]
  exact way_any u w
theorem showActs_one (a : ActD) : showActs [a] = showAct a := by simp [showActs]
theorem str_le {t : ByteArray} (h : t.size ≤ 300) : (str t.data.toList).length ≤ 330 := by
  have h1 : t.data.toList.length = t.size := Array.length_toList
  have := itoa_le (n := (t.data.toList.length : Int)) ⟨by omega, by omega⟩
  simp only [str, List.length_append, List.length_cons]
  omega
set_option maxHeartbeats 20000000 in
set_option maxRecDepth 100000 in
theorem Show_any (w : World) (v : Value) (xs : List ActD) (ha : ActS w xs v) (hE : Env w) :
    Calls Tryd.prog 8 #[v] w fun e w' => e = .returned (.tuple #[.string (showS xs).1, .int .i64 (showS xs).2]) ∧ Step No w w' := by
  obtain ⟨A, c, rfl, h1, h2⟩ := acts_len ha
  unfold maxLen at h2
  by_cases hl : 1024 < xs.length
  · have hs : showS xs = (⟨#[]⟩, 2300) := by unfold showS; rw [if_neg (fun h => by have := h.1; omega)]
    rw [hs]
    clear hs ha hE
    go_enter Tryd.func8, Tryd.ntmps8
    go_wp2
    go_ret2
    exact ⟨rfl, (by repeat' (first | exact Step.refl _ _ | with_reducible assumption | refine Step.drew ?_ | refine Step.drewN ?_ _ | refine Step.alloc ?_ _))⟩
  · have HA := Lib.hid ha
    have HE := Lib.hid hE
    clear ha hE
    have HW := Lib.hid (WRep.new w)
    go_enter Tryd.func8, Tryd.ntmps8
    go_wp2_with fail
    go_loopw [14] (fun i wr => ∃ k : Nat, k ≤ xs.length ∧ i = .int .i64 k ∧ (∀ a ∈ xs.take k, actMay a = true) ∧ WRep (fun j => w.heap.size ≤ j) wr w.heap.size (showActs (xs.take k)) ∧ Step No w wr) (fun i _ => xs.length - (RowKit.intOf i).toNat)
    case atStart => exact ⟨0, Nat.zero_le _, rfl, fun a h => by simp at h, HW.out.mono (fun k _ e => by omega), (by repeat' (first | exact Step.refl _ _ | with_reducible assumption | refine Step.drew ?_ | refine Step.drewN ?_ _ | refine Step.alloc ?_ _))⟩
    case round =>
      obtain ⟨k, hk, rfl, hmay, hw, hs⟩ := hrel
      by_cases hlt : k < xs.length
      · obtain ⟨ad, rfl, hz, c0, c1, c2, c3, c4, c5⟩ := acts_cells (show ActS wr xs _ from SlR.step (w' := wr) HA.out (fun _ _ h => h) hs) k hlt
        have hi0 : (0 : Int) ≤ k := by omega
        have hi1 : (k : Int) < xs.length := by omega
        have HMay := Lib.hid hmay
        have HX : Hid (xs.take (k + 1) = xs.take k ++ [xs[k]]) := Lib.hid (List.take_succ_eq_append_getElem hlt)
        have HXin : Hid (xs[k] ∈ xs) := Lib.hid (List.getElem_mem hlt)
        have HLen : Hid ((showActs (xs.take k)).length ≤ 409600) := Lib.hid (by
          have := showActs_len (xs.take k) hmay
          rw [List.length_take] at this
          omega)
        generalize xs[k] = a at *
        obtain ⟨kd, cl, up, pl, n, t⟩ := a
        simp only at c0 c1 c2 c3 c4 c5 hz
        clear hmay
        have Hhw := Lib.hid hw
        have Hhs := Lib.hid hs
        have Hhz := Lib.hid hz
        clear hw hs hz
        go_wp2_with fail
        refine (May_any ⟨kd, cl, up, pl, n, t⟩ _ Hhz.out).mono ?_
        rintro e w2 ⟨rfl, hs2⟩
        have Hhs2 := Lib.hid hs2
        clear hs2
        generalize hm : actMay ⟨kd, cl, up, pl, n, t⟩ = m at *
        cases m
        · have HM := Lib.hid hm
          clear hm
          go_wp2
          go_ret2
          refine ⟨?_, (Hhs.out.trans (Step.alloc (Step.refl No _) _) (fun _ f _ => f)).trans Hhs2.out (fun _ f _ => f)⟩
          have : showS xs = (⟨#[]⟩, 2300) := by
            unfold showS
            rw [if_neg (fun h => by have := h.2 _ HXin.out; rw [HM.out] at this; cases this)]
          rw [this]
          rfl
        · have HM := Lib.hid hm
          clear hm c0 c1 c2 c3 c4 c5
          have hblk : w2.heap[wr.heap.size]? = some (.cells #[.int .i64 kd, .int .i64 cl, .bool up, .int .i64 pl, .int .i64 n, .string t] 37 (0, 0)) := Hhs2.out.blk (blk_new wr _) (fun f => f)
          have hs02 : Step No w w2 := (Hhs.out.trans (Step.alloc (Step.refl No _) _) (fun _ f _ => f)).trans Hhs2.out (fun _ f _ => f)
          have hww : WRep (fun j => w.heap.size ≤ j ∧ j < wr.heap.size) w2 w.heap.size (showActs (xs.take k)) := (Hhw.out.mono (ok' := fun j => w.heap.size ≤ j ∧ j < wr.heap.size) (fun j hj h => ⟨h, hj⟩)).step (Step.trans (Step.alloc (Step.refl No wr) (.cells #[.int .i64 kd, .int .i64 cl, .bool up, .int .i64 pl, .int .i64 n, .string t] 37)) Hhs2.out (fun _ f _ => f)) (fun _ _ _ f => f)
          have HWS := Lib.hid (WS.start hww)
          have HBLK := Lib.hid hblk
          have HS02 := Lib.hid hs02
          obtain ⟨g1, g2, g3, g4, g5, g6, g7, g8, g9, q1, q2, q3⟩ := may_facts HM.out
          simp only at g1 g2 g3 g4 g5 g6 g7 g8 g9
          obtain ⟨j, rfl⟩ := Int.eq_ofNat_of_zero_le g1
          have hj : j < 8 := by omega
          have HC : Hid (∀ w', Step (fun j => w.heap.size ≤ j ∧ j < wr.heap.size) w2 w' → w'.cell? ⟨wr.heap.size, 0, none⟩ = some (.int .i64 j) ∧ w'.cell? ⟨wr.heap.size, 1, none⟩ = some (.int .i64 cl) ∧ w'.cell? ⟨wr.heap.size, 2, none⟩ = some (.bool up) ∧ w'.cell? ⟨wr.heap.size, 3, none⟩ = some (.int .i64 pl) ∧ w'.cell? ⟨wr.heap.size, 4, none⟩ = some (.int .i64 n) ∧ w'.cell? ⟨wr.heap.size, 5, none⟩ = some (.string t)) := Lib.hid (fun w' hst => by
            have hb := hst.blk HBLK.out (fun h => Nat.lt_irrefl _ h.2)
            exact ⟨by rw [blk_cell hb]; rfl, by rw [blk_cell hb]; rfl, by rw [blk_cell hb]; rfl, by rw [blk_cell hb]; rfl, by rw [blk_cell hb]; rfl, by rw [blk_cell hb]; rfl⟩)
          have HEE : Hid (EnvS (fun j => w.heap.size ≤ j ∧ j < wr.heap.size) w2) := Lib.hid (fun w' hst => HE.out.step (HS02.out.trans hst (fun i h hlt => by have := h.1; omega)))
          have e0 : w2.cell? ⟨wr.heap.size, 0, none⟩ = some (.int .i64 j) := by rw [blk_cell hblk]; rfl
          clear hblk hs02 hww q1 q2 q3
          obtain ⟨X, hX, hjX⟩ : ∃ X : UInt8, letters.getD j 0 = X ∧ (({ data := #[101, 116, 100, 108, 99, 98, 120, 106] } : ByteArray)[j]'(show j < 8 from hj)) = X := ⟨_, rfl, by rcases (by omega : j = 0 ∨ j = 1 ∨ j = 2 ∨ j = 3 ∨ j = 4 ∨ j = 5 ∨ j = 6 ∨ j = 7) with e | e | e | e | e | e | e | e <;> subst e <;> rfl⟩
          have HL := Lib.hid hX
          clear hX
          go_wp2
          have HWd := Lib.hid (HWS.out.same ((Step.refl No _).drew))
          go_region_held3 (fun w' => w'.cell? ⟨wr.heap.size, 0, none⟩ = some (.int .i64 j)) (first | exact e0 | exact f0) (first | (go_at_call 20; refine (WriteByte_any _ _ _ _ X HWd.out.1 (by have := HLen.out; omega)).mono ?_; rintro e w3 hp; obtain ⟨rfl, hw3⟩ := HWd.out.write hp; have f0 := hw3.2.cell e0 (fun h => Nat.lt_irrefl _ h.2); have HW3 := Lib.hid hw3; clear hp hw3))
          all_goals
            have k1 := (HC.out _ HW3.out.2).2.1
            have HR1 : Hid (Rng cl) := Lib.hid ⟨by omega, by omega⟩
            go_wp2
            have HW3d := Lib.hid (HW3.out.same ((Step.refl No _).drew))
            go_region_held3 (fun w' => w'.cell? ⟨wr.heap.size, 1, none⟩ = some (.int .i64 cl)) (first | exact k1 | exact k2 | exact k3) (first | (go_at_call 22; refine (Itoa_any cl HR1.out _ (HEE.out _ HW3d.out.2)).mono ?_; rintro e w4 ⟨rfl, hs⟩; have hw4 := HW3d.out.same hs; have k2 := (HC.out _ hw4.2).2.1; have HW4 := Lib.hid hw4; clear hs hw4) | (go_at_call 21; refine (WriteString_any _ _ _ _ ⟨(itoa cl).toArray⟩ HW4.out.1 (by have := itoa_le HR1.out; have := HLen.out; rw [show (⟨(itoa cl).toArray⟩ : ByteArray).size = (itoa cl).length from by show (itoa cl).toArray.size = _; simp]; rw [List.length_append]; simp; omega)).mono ?_; rintro e w5 hp; obtain ⟨rfl, hw5⟩ := HW4.out.write hp; have k3 := (HC.out _ hw5.2).2.1; have HW5 := Lib.hid hw5; clear hp hw5))
            all_goals
              have HG : Hid ((showActs (xs.take k) ++ [X] ++ itoa cl).length ≤ 409700) := Lib.hid (by have := itoa_le HR1.out; have := HLen.out; rw [List.length_append, List.length_append, List.length_singleton]; omega)
              have HM5 : Hid (showActs (xs.take k) ++ showAct ⟨j, cl, up, pl, n, t⟩ = showActs (xs.take k) ++ [X] ++ itoa cl ++ (((if isEdit (j : Int) then 64 :: num pl else if isMove (j : Int) then (if up then 117 else 100) :: num pl else []) ++ ((if isEdit (j : Int) || isBreak (j : Int) then num n ++ str t.data.toList else []) ++ [59])))) := Lib.hid (by
                rw [← HL.out]
                simp [showAct])
              generalize showActs (xs.take k) ++ [X] ++ itoa cl = m5 at *
              clear HW3 HW3d HW4 k1 k2 k3 f0 e0
              rcases (by
                rcases (by omega : j = 0 ∨ j = 1 ∨ j = 2 ∨ j = 3 ∨ j = 4 ∨ j = 5 ∨ j = 6 ∨ j = 7) with e | e | e | e | e | e | e | e <;> subst e <;> decide : (isEdit (j : Int) = true ∧ isMove (j : Int) = false ∧ isBreak (j : Int) = false) ∨ (isEdit (j : Int) = false ∧ isMove (j : Int) = true ∧ isBreak (j : Int) = false) ∨ (isEdit (j : Int) = false ∧ isMove (j : Int) = true ∧ isBreak (j : Int) = true) ∨ (isEdit (j : Int) = false ∧ isMove (j : Int) = false ∧ isBreak (j : Int) = false)) with ⟨b1, b2, b3⟩ | ⟨b1, b2, b3⟩ | ⟨b1, b2, b3⟩ | ⟨b1, b2, b3⟩
              · simp only [b1, b2, b3, Bool.true_or, if_true] at HM5
                have k1 := (HC.out _ HW5.out.2).1
                go_wp2_with fail
                refine (edits_any _ _).mono ?_
                rintro e w' ⟨rfl, rfl⟩
                rw [b1]
                go_wp2_with fail
                refine (WriteString_any _ _ _ m5 ⟨#[64]⟩ HW5.out.1 (by have := HG.out; show _ + 1 ≤ _; omega)).mono ?_
                rintro e w6 hp
                obtain ⟨rfl, hw6⟩ := HW5.out.write hp
                have k2 := (HC.out _ hw6.2).2.2.2.1
                have HW6 := Lib.hid hw6
                clear hp hw6 k1
                go_wp2_with fail
                have hsa : Step No w6 (w6.alloc (.cells #[.int .i64 pl] 3)) := (by repeat' (first | exact Step.refl _ _ | with_reducible assumption | refine Step.drew ?_ | refine Step.drewN ?_ _ | refine Step.alloc ?_ _))
                refine (Num_any _ _ _ _ [pl] (some ⟨w6.heap.size, 0, none⟩) 1 (ws_snap HW6.out hsa) (fun w' hst => HE.out.step (((HS02.out.trans HW6.out.2 (fun i h hlt => by have := h.1; omega)).trans hsa (fun _ f _ => f)).trans hst (fun i h hlt => by have := HS02.out.size; rcases h.1 with h | h <;> omega))) (fun w' hst => ?_) (by intro y hy; rw [List.mem_singleton] at hy; subst hy; exact ⟨by omega, by omega⟩) (by have := HG.out; have q2 := nums_one pl (by omega) (by omega); simp only [List.length_append, List.length_singleton] at *; omega)).mono ?_
                · exact int_blk (hst.blk (blk_new w6 _) (fun h => Nat.lt_irrefl _ h.2))
                rintro e w7 hp
                obtain ⟨rfl, hw⟩ := ws_write2 HW6.out hsa hp
                have HW7 := Lib.hid hw
                clear hp hw hsa
                have k3 := (HC.out _ HW7.out.2).1
                clear k2
                go_wp2_with fail
                refine (edits_any _ _).mono ?_
                rintro e w' ⟨rfl, rfl⟩
                rw [b1]
                have k4 := (HC.out _ HW7.out.2).2.2.2.2.1
                go_wp2_with fail
                have hsa : Step No w7 (w7.alloc (.cells #[.int .i64 n] 3)) := (by repeat' (first | exact Step.refl _ _ | with_reducible assumption | refine Step.drew ?_ | refine Step.drewN ?_ _ | refine Step.alloc ?_ _))
                refine (Num_any _ _ _ _ [n] (some ⟨w7.heap.size, 0, none⟩) 1 (ws_snap HW7.out hsa) (fun w' hst => HE.out.step (((HS02.out.trans HW7.out.2 (fun i h hlt => by have := h.1; omega)).trans hsa (fun _ f _ => f)).trans hst (fun i h hlt => by have := HS02.out.size; rcases h.1 with h | h <;> omega))) (fun w' hst => ?_) (by intro y hy; rw [List.mem_singleton] at hy; subst hy; exact ⟨by omega, by omega⟩) (by have := HG.out; have q2 := nums_one pl (by omega) (by omega); simp only [List.length_append, List.length_singleton] at *; omega)).mono ?_
                · exact int_blk (hst.blk (blk_new w7 _) (fun h => Nat.lt_irrefl _ h.2))
                rintro e w8 hp
                obtain ⟨rfl, hw⟩ := ws_write2 HW7.out hsa hp
                have HW8 := Lib.hid hw
                clear hp hw hsa
                have k5 := (HC.out _ HW8.out.2).2.2.2.2.2
                clear k4
                go_wp2_with fail
                refine (Str_any _ _ _ _ t HW8.out.1 (fun w' hst => HE.out.step ((HS02.out.trans HW8.out.2 (fun i h hlt => by have := h.1; omega)).trans hst (fun i h hlt => by have := HS02.out.size; rcases h with h | h <;> omega))) (by have := HG.out; have q1 := nums_one n (by omega) (by omega); have q2 := nums_one pl (by omega) (by omega); simp only [List.length_append, List.length_singleton]; omega)).mono ?_
                rintro e w9 hp
                obtain ⟨rfl, hw9⟩ := HW8.out.write hp
                have HW9 := Lib.hid hw9
                clear hp hw9 k5
                go_wp2_with fail
                refine (WriteByte_any _ _ _ _ 59 HW9.out.1 (by have := HG.out; have q1 := nums_one n (by omega) (by omega); have q2 := nums_one pl (by omega) (by omega); have q3 := str_le g9; (try simp only [List.length_append, List.length_singleton]); omega)).mono ?_
                rintro e wz hp
                obtain ⟨rfl, hwz⟩ := HW9.out.write hp
                have HWZ := Lib.hid (round_done hwz HS02.out)
                clear hp hwz
                go_wp2
                go_roundw
                case rel =>
                  refine ⟨k + 1, hlt, rfl, ?_, ?_, HWZ.out.2⟩
                  · rw [HX.out]
                    intro a ha
                    rcases List.mem_append.1 ha with ha | ha
                    · exact HMay.out a ha
                    · rw [List.mem_singleton] at ha
                      subst ha
                      exact HM.out
                  · rw [HX.out, showActs_app, showActs_one, HM5.out]
                    simpa [nums] using HWZ.out.1
                case measure => simp [RowKit.intOf]; omega
              · simp only [b1, b2, b3, Bool.false_or, if_true, if_false] at HM5
                have k1 := (HC.out _ HW5.out.2).1
                go_wp2_with fail
                refine (edits_any _ _).mono ?_
                rintro e w' ⟨rfl, rfl⟩
                rw [b1]
                go_wp2_with fail
                refine (moves_any _ _).mono ?_
                rintro e w' ⟨rfl, rfl⟩
                rw [b2]
                obtain ⟨Y, hY⟩ : ∃ Y : UInt8, (if up = true then 117 else 100) = Y := ⟨_, rfl⟩
                rw [hY] at HM5
                have HY := Lib.hid hY
                clear hY
                have k2 := (HC.out _ HW5.out.2).2.2.1
                go_wp2
                have HW5d := Lib.hid (HW5.out.same ((Step.refl No _).drew))
                go_region_held3 (fun w' => w'.cell? ⟨wr.heap.size, 2, none⟩ = some (.bool up)) (first | exact k2 | exact k3) (first | (go_at_call 26; refine (way_is up Y HY _).mono ?_; rintro e w' ⟨rfl, rfl⟩) | (go_at_call 21; refine (WriteString_any _ _ _ m5 ⟨#[Y]⟩ HW5d.out.1 (by have := HG.out; show _ + 1 ≤ _; omega)).mono ?_; rintro e w6 hp; obtain ⟨rfl, hw6⟩ := HW5d.out.write hp; have k3 := (HC.out _ hw6.2).2.2.1; have HW6 := Lib.hid hw6; clear hp hw6))
                all_goals
                have k4 := (HC.out _ HW6.out.2).2.2.2.1
                clear k1 k2 k3
                go_wp2_with fail
                have hsa : Step No w6 (w6.alloc (.cells #[.int .i64 pl] 3)) := (by repeat' (first | exact Step.refl _ _ | with_reducible assumption | refine Step.drew ?_ | refine Step.drewN ?_ _ | refine Step.alloc ?_ _))
                refine (Num_any _ _ _ _ [pl] (some ⟨w6.heap.size, 0, none⟩) 1 (ws_snap HW6.out hsa) (fun w' hst => HE.out.step (((HS02.out.trans HW6.out.2 (fun i h hlt => by have := h.1; omega)).trans hsa (fun _ f _ => f)).trans hst (fun i h hlt => by have := HS02.out.size; rcases h.1 with h | h <;> omega))) (fun w' hst => ?_) (by intro y hy; rw [List.mem_singleton] at hy; subst hy; exact ⟨by omega, by omega⟩) (by have := HG.out; have q2 := nums_one pl (by omega) (by omega); simp only [List.length_append, List.length_singleton] at *; omega)).mono ?_
                · exact int_blk (hst.blk (blk_new w6 _) (fun h => Nat.lt_irrefl _ h.2))
                rintro e w7 hp
                obtain ⟨rfl, hw⟩ := ws_write2 HW6.out hsa hp
                have HW7 := Lib.hid hw
                clear hp hw hsa
                have k1 := (HC.out _ HW7.out.2).1
                clear k4
                go_wp2_with fail
                refine (edits_any _ _).mono ?_
                rintro e w' ⟨rfl, rfl⟩
                rw [b1]
                go_wp2_with fail
                refine (breaks_any _ _).mono ?_
                rintro e w' ⟨rfl, rfl⟩
                rw [b3]
                go_wp2_with fail
                refine (WriteByte_any _ _ _ _ 59 HW7.out.1 (by have := HG.out; have q1 := nums_one n (by omega) (by omega); have q2 := nums_one pl (by omega) (by omega); have q3 := str_le g9; (try simp only [List.length_append, List.length_singleton]); omega)).mono ?_
                rintro e wz hp
                obtain ⟨rfl, hwz⟩ := HW7.out.write hp
                have HWZ := Lib.hid (round_done hwz HS02.out)
                clear hp hwz
                go_wp2
                go_roundw
                case rel =>
                  refine ⟨k + 1, hlt, rfl, ?_, ?_, HWZ.out.2⟩
                  · rw [HX.out]
                    intro a ha
                    rcases List.mem_append.1 ha with ha | ha
                    · exact HMay.out a ha
                    · rw [List.mem_singleton] at ha
                      subst ha
                      exact HM.out
                  · rw [HX.out, showActs_app, showActs_one, HM5.out]
                    simpa [nums] using HWZ.out.1
                case measure => simp [RowKit.intOf]; omega
              · simp only [b1, b2, b3, Bool.false_or, if_true, if_false] at HM5
                have k1 := (HC.out _ HW5.out.2).1
                go_wp2_with fail
                refine (edits_any _ _).mono ?_
                rintro e w' ⟨rfl, rfl⟩
                rw [b1]
                go_wp2_with fail
                refine (moves_any _ _).mono ?_
                rintro e w' ⟨rfl, rfl⟩
                rw [b2]
                obtain ⟨Y, hY⟩ : ∃ Y : UInt8, (if up = true then 117 else 100) = Y := ⟨_, rfl⟩
                rw [hY] at HM5
                have HY := Lib.hid hY
                clear hY
                have k2 := (HC.out _ HW5.out.2).2.2.1
                go_wp2
                have HW5d := Lib.hid (HW5.out.same ((Step.refl No _).drew))
                go_region_held3 (fun w' => w'.cell? ⟨wr.heap.size, 2, none⟩ = some (.bool up)) (first | exact k2 | exact k3) (first | (go_at_call 26; refine (way_is up Y HY _).mono ?_; rintro e w' ⟨rfl, rfl⟩) | (go_at_call 21; refine (WriteString_any _ _ _ m5 ⟨#[Y]⟩ HW5d.out.1 (by have := HG.out; show _ + 1 ≤ _; omega)).mono ?_; rintro e w6 hp; obtain ⟨rfl, hw6⟩ := HW5d.out.write hp; have k3 := (HC.out _ hw6.2).2.2.1; have HW6 := Lib.hid hw6; clear hp hw6))
                all_goals
                have k4 := (HC.out _ HW6.out.2).2.2.2.1
                clear k1 k2 k3
                go_wp2_with fail
                have hsa : Step No w6 (w6.alloc (.cells #[.int .i64 pl] 3)) := (by repeat' (first | exact Step.refl _ _ | with_reducible assumption | refine Step.drew ?_ | refine Step.drewN ?_ _ | refine Step.alloc ?_ _))
                refine (Num_any _ _ _ _ [pl] (some ⟨w6.heap.size, 0, none⟩) 1 (ws_snap HW6.out hsa) (fun w' hst => HE.out.step (((HS02.out.trans HW6.out.2 (fun i h hlt => by have := h.1; omega)).trans hsa (fun _ f _ => f)).trans hst (fun i h hlt => by have := HS02.out.size; rcases h.1 with h | h <;> omega))) (fun w' hst => ?_) (by intro y hy; rw [List.mem_singleton] at hy; subst hy; exact ⟨by omega, by omega⟩) (by have := HG.out; have q2 := nums_one pl (by omega) (by omega); simp only [List.length_append, List.length_singleton] at *; omega)).mono ?_
                · exact int_blk (hst.blk (blk_new w6 _) (fun h => Nat.lt_irrefl _ h.2))
                rintro e w7 hp
                obtain ⟨rfl, hw⟩ := ws_write2 HW6.out hsa hp
                have HW7 := Lib.hid hw
                clear hp hw hsa
                have k1 := (HC.out _ HW7.out.2).1
                clear k4
                go_wp2_with fail
                refine (edits_any _ _).mono ?_
                rintro e w' ⟨rfl, rfl⟩
                rw [b1]
                go_wp2_with fail
                refine (breaks_any _ _).mono ?_
                rintro e w' ⟨rfl, rfl⟩
                rw [b3]
                have k4 := (HC.out _ HW7.out.2).2.2.2.2.1
                go_wp2_with fail
                have hsa : Step No w7 (w7.alloc (.cells #[.int .i64 n] 3)) := (by repeat' (first | exact Step.refl _ _ | with_reducible assumption | refine Step.drew ?_ | refine Step.drewN ?_ _ | refine Step.alloc ?_ _))
                refine (Num_any _ _ _ _ [n] (some ⟨w7.heap.size, 0, none⟩) 1 (ws_snap HW7.out hsa) (fun w' hst => HE.out.step (((HS02.out.trans HW7.out.2 (fun i h hlt => by have := h.1; omega)).trans hsa (fun _ f _ => f)).trans hst (fun i h hlt => by have := HS02.out.size; rcases h.1 with h | h <;> omega))) (fun w' hst => ?_) (by intro y hy; rw [List.mem_singleton] at hy; subst hy; exact ⟨by omega, by omega⟩) (by have := HG.out; have q2 := nums_one pl (by omega) (by omega); simp only [List.length_append, List.length_singleton] at *; omega)).mono ?_
                · exact int_blk (hst.blk (blk_new w7 _) (fun h => Nat.lt_irrefl _ h.2))
                rintro e w8 hp
                obtain ⟨rfl, hw⟩ := ws_write2 HW7.out hsa hp
                have HW8 := Lib.hid hw
                clear hp hw hsa
                have k5 := (HC.out _ HW8.out.2).2.2.2.2.2
                clear k4
                go_wp2_with fail
                refine (Str_any _ _ _ _ t HW8.out.1 (fun w' hst => HE.out.step ((HS02.out.trans HW8.out.2 (fun i h hlt => by have := h.1; omega)).trans hst (fun i h hlt => by have := HS02.out.size; rcases h with h | h <;> omega))) (by have := HG.out; have q1 := nums_one n (by omega) (by omega); have q2 := nums_one pl (by omega) (by omega); simp only [List.length_append, List.length_singleton]; omega)).mono ?_
                rintro e w9 hp
                obtain ⟨rfl, hw9⟩ := HW8.out.write hp
                have HW9 := Lib.hid hw9
                clear hp hw9 k5
                go_wp2_with fail
                refine (WriteByte_any _ _ _ _ 59 HW9.out.1 (by have := HG.out; have q1 := nums_one n (by omega) (by omega); have q2 := nums_one pl (by omega) (by omega); have q3 := str_le g9; (try simp only [List.length_append, List.length_singleton]); omega)).mono ?_
                rintro e wz hp
                obtain ⟨rfl, hwz⟩ := HW9.out.write hp
                have HWZ := Lib.hid (round_done hwz HS02.out)
                clear hp hwz
                go_wp2
                go_roundw
                case rel =>
                  refine ⟨k + 1, hlt, rfl, ?_, ?_, HWZ.out.2⟩
                  · rw [HX.out]
                    intro a ha
                    rcases List.mem_append.1 ha with ha | ha
                    · exact HMay.out a ha
                    · rw [List.mem_singleton] at ha
                      subst ha
                      exact HM.out
                  · rw [HX.out, showActs_app, showActs_one, HM5.out]
                    simpa [nums] using HWZ.out.1
                case measure => simp [RowKit.intOf]; omega
              · simp only [b1, b2, b3, Bool.false_or, if_false] at HM5
                have k1 := (HC.out _ HW5.out.2).1
                go_wp2_with fail
                refine (edits_any _ _).mono ?_
                rintro e w' ⟨rfl, rfl⟩
                rw [b1]
                go_wp2_with fail
                refine (moves_any _ _).mono ?_
                rintro e w' ⟨rfl, rfl⟩
                rw [b2]
                go_wp2_with fail
                refine (edits_any _ _).mono ?_
                rintro e w' ⟨rfl, rfl⟩
                rw [b1]
                go_wp2_with fail
                refine (breaks_any _ _).mono ?_
                rintro e w' ⟨rfl, rfl⟩
                rw [b3]
                go_wp2_with fail
                refine (WriteByte_any _ _ _ _ 59 HW5.out.1 (by have := HG.out; have q1 := nums_one n (by omega) (by omega); have q2 := nums_one pl (by omega) (by omega); have q3 := str_le g9; (try simp only [List.length_append, List.length_singleton]); omega)).mono ?_
                rintro e wz hp
                obtain ⟨rfl, hwz⟩ := HW5.out.write hp
                have HWZ := Lib.hid (round_done hwz HS02.out)
                clear hp hwz
                go_wp2
                go_roundw
                case rel =>
                  refine ⟨k + 1, hlt, rfl, ?_, ?_, HWZ.out.2⟩
                  · rw [HX.out]
                    intro a ha
                    rcases List.mem_append.1 ha with ha | ha
                    · exact HMay.out a ha
                    · rw [List.mem_singleton] at ha
                      subst ha
                      exact HM.out
                  · rw [HX.out, showActs_app, showActs_one, HM5.out]
                    simpa [nums] using HWZ.out.1
                case measure => simp [RowKit.intOf]; omega
      · obtain rfl : k = xs.length := by omega
        rw [List.take_length] at hmay hw
        have hS : showS xs = (⟨(showActs xs).toArray⟩, 0) := by unfold showS; rw [if_pos ⟨by omega, hmay⟩]
        have Hhw := Lib.hid hw
        have Hhs := Lib.hid hs
        have Hhmay := Lib.hid hmay
        have HhS := Lib.hid hS
        clear hw hs hmay hS
        go_wp2_with fail
        refine (String_any _ _ _ _ Hhw.out).mono ?_
        rintro e w' ⟨rfl, hs'⟩
        have Hhs' := Lib.hid hs'
        clear hs'
        go_wp2
        go_ret2
        exact ⟨by rw [HhS.out]; rfl, Hhs.out.trans Hhs'.out (fun i h hlt => absurd hlt (Nat.not_lt.2 h))⟩
end Go.Proofs.YtjeamfoicpgkhaaDoor.ScrW
