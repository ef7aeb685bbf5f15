/- Acts, shown: the reference's answer. -/
import Derived.Test.YtjeamfoicpgkhaaDoorRefMay
import Derived.Test.YtjeamfoicpgkhaaDoorScrShow2
import Derived.Test.YtjeamfoicpgkhaaDoorRefDec
import Derived.IntWalk
namespace Go.Proofs.YtjeamfoicpgkhaaDoor.ScrW
open Go.RowKit Go.Lib Go.Proofs.YtjeamfoicpgkhaaDoor.Mem Go.Proofs.YtjeamfoicpgkhaaDoor.Scr Go.Proofs.YtjeamfoicpgkhaaDoor.Read Go.Proofs.YtjeamfoicpgkhaaDoor.Take Go.Proofs.YtjeamfoicpgkhaaDoor.RefDec
open Go.Proofs.YtjeamfoicpgkhaaDoor.Writer (itoa_le nums)
set_option linter.unusedVariables false
set_option linter.unusedSimpArgs false
theorem letter_cut (j : Nat) (hj : j < 8) : ({ data := #[101, 116, 100, 108, 99, 98, 120, 106] } : ByteArray).extract j (j + 1) = ⟨#[letters.getD j 0]⟩ := by
  rcases (by omega : j = 0 ∨ j = 1 ∨ j = 2 ∨ j = 3 ∨ j = 4 ∨ j = 5 ∨ j = 6 ∨ j = 7) with e | e | e | e | e | e | e | e <;> subst e <;> decide
/-- A string with bytes behind it. -/
theorem cat_to {M : ByteArray} {m : List UInt8} (h : Hid (M = ⟨m.toArray⟩)) (l : List UInt8) : ∃ M1 : ByteArray, M ++ ⟨l.toArray⟩ = M1 ∧ Hid (M1 = ⟨(m ++ l).toArray⟩) ∧ M1.size = M.size + l.length := by
  refine ⟨_, rfl, Lib.hid (by rw [h.out, str_app]), ?_⟩
  have := ByteArray.size_append (a := M) (b := ⟨l.toArray⟩)
  rw [str_size] at this
  exact this
theorem list_str (l : List UInt8) : ∃ D : ByteArray, Hid ((⟨l.toArray⟩ : ByteArray) = D) ∧ D.size = l.length := ⟨_, Lib.hid rfl, str_size l⟩
theorem num_short (x : Int) (h0 : 0 ≤ x) (h1 : x ≤ 1000000) : (num x).length ≤ 22 := by
  have := itoa_le (n := x) ⟨by omega, by omega⟩
  simp only [num, List.length_append, List.length_singleton]
  omega
set_option maxHeartbeats 20000000 in
set_option maxRecDepth 100000 in
theorem ShowActs_any (w : World) (v : Value) (xs : List ActD) (ha : ActS w xs v) :
    Calls Tryd.prog 9 #[v] w fun e w' => e = .returned (.tuple #[.string (showS xs).1, .int .i64 (showS xs).2]) ∧ Step No w w' := by
  obtain ⟨A, c, rfl, h1, h2⟩ := acts_len ha
  unfold maxLen at h2
  by_cases hl : 1024 < xs.length
  · have hs : showS xs = (⟨#[]⟩, 2300) := by unfold showS; rw [if_neg (fun h => by have := h.1; omega)]
    rw [hs]
    clear hs ha
    go_enter Tryd.func9, Tryd.ntmps9
    go_wp2
    go_ret2
    exact ⟨rfl, (by repeat' (first | exact Step.refl _ _ | with_reducible assumption | refine Step.drew ?_ | refine Step.drewN ?_ _ | refine Step.alloc ?_ _))⟩
  · have HA := Lib.hid ha
    clear ha
    go_enter Tryd.func9, Tryd.ntmps9
    go_wp2_with fail
    go_loopw [4, 5] (fun s i wr => ∃ (k : Nat) (M : ByteArray), k ≤ xs.length ∧ i = .int .i64 k ∧ s = .string M ∧ Hid (M = ⟨(showActs (xs.take k)).toArray⟩) ∧ (∀ a ∈ xs.take k, actMay a = true) ∧ Step No w wr) (fun _ i _ => xs.length - (RowKit.intOf i).toNat)
    case atStart => exact ⟨0, _, Nat.zero_le _, rfl, rfl, Lib.hid (by simp [showActs]), fun a h => by simp at h, (by repeat' (first | exact Step.refl _ _ | with_reducible assumption | refine Step.drew ?_ | refine Step.drewN ?_ _ | refine Step.alloc ?_ _))⟩
    case round =>
      obtain ⟨k, M, hk, rfl, rfl, HM0, hmay, hs⟩ := hrel
      by_cases hlt : k < xs.length
      · obtain ⟨ad, rfl, hz, c0, c1, c2, c3, c4, c5⟩ := acts_cells (show ActS wr xs _ from SlR.step (w' := wr) HA.out (fun _ _ h => h) hs) k hlt
        have hi0 : (0 : Int) ≤ k := by omega
        have hi1 : (k : Int) < xs.length := by omega
        have HMay := Lib.hid hmay
        have HX : Hid (xs.take (k + 1) = xs.take k ++ [xs[k]]) := Lib.hid (List.take_succ_eq_append_getElem hlt)
        have HXin : Hid (xs[k] ∈ xs) := Lib.hid (List.getElem_mem hlt)
        have hM : M.size ≤ 409600 := by
          have := showActs_len (xs.take k) hmay
          rw [List.length_take] at this
          rw [HM0.out, str_size]
          omega
        generalize xs[k] = a at *
        obtain ⟨kd, cl, up, pl, n, t⟩ := a
        simp only at c0 c1 c2 c3 c4 c5 hz
        clear hmay
        have Hhs := Lib.hid hs
        have Hhz := Lib.hid hz
        clear hs hz
        go_wp2_with fail
        refine (ActMay_any ⟨kd, cl, up, pl, n, t⟩ _ Hhz.out).mono ?_
        rintro e w2 ⟨rfl, hs2⟩
        have Hhs2 := Lib.hid hs2
        clear hs2
        generalize hm : actMay ⟨kd, cl, up, pl, n, t⟩ = m at *
        cases m
        · have HM := Lib.hid hm
          clear hm
          go_wp2
          go_ret2
          refine ⟨?_, (Hhs.out.trans (Step.alloc (Step.refl No _) _) (fun _ f _ => f)).trans Hhs2.out (fun _ f _ => f)⟩
          have : showS xs = (⟨#[]⟩, 2300) := by
            unfold showS
            rw [if_neg (fun h => by have := h.2 _ HXin.out; rw [HM.out] at this; cases this)]
          rw [this]
          rfl
        · have HM := Lib.hid hm
          clear hm c0 c1 c2 c3 c4 c5
          have hblk : w2.heap[wr.heap.size]? = some (.cells #[.int .i64 kd, .int .i64 cl, .bool up, .int .i64 pl, .int .i64 n, .string t] 37 (0, 0)) := Hhs2.out.blk (blk_new wr _) (fun f => f)
          have HS02 : Hid (Step No w w2) := Lib.hid ((Hhs.out.trans (Step.alloc (Step.refl No _) _) (fun _ f _ => f)).trans Hhs2.out (fun _ f _ => f))
          have HBLK := Lib.hid hblk
          obtain ⟨g1, g2, g3, g4, g5, g6, g7, g8, g9, q1, q2, q3⟩ := may_facts HM.out
          simp only at g1 g2 g3 g4 g5 g6 g7 g8 g9
          obtain ⟨j, rfl⟩ := Int.eq_ofNat_of_zero_le g1
          have hj : j < 8 := by omega
          have hj1 : (j : Int) + 1 ≤ 8 := by omega
          have HC : Hid (∀ w', Step No w2 w' → w'.cell? ⟨wr.heap.size, 0, none⟩ = some (.int .i64 j) ∧ w'.cell? ⟨wr.heap.size, 1, none⟩ = some (.int .i64 cl) ∧ w'.cell? ⟨wr.heap.size, 2, none⟩ = some (.bool up) ∧ w'.cell? ⟨wr.heap.size, 3, none⟩ = some (.int .i64 pl) ∧ w'.cell? ⟨wr.heap.size, 4, none⟩ = some (.int .i64 n) ∧ w'.cell? ⟨wr.heap.size, 5, none⟩ = some (.string t)) := Lib.hid (fun w' hst => by
            have hb := hst.blk HBLK.out (fun h => h)
            exact ⟨by rw [blk_cell hb]; rfl, by rw [blk_cell hb]; rfl, by rw [blk_cell hb]; rfl, by rw [blk_cell hb]; rfl, by rw [blk_cell hb]; rfl, by rw [blk_cell hb]; rfl⟩)
          obtain ⟨e0, e1, e2, e3, e4, e5⟩ := HC.out w2 (Step.refl _ _)
          have hlc := letter_cut j hj
          have hw1 : IntKind.i64.wrap ((j : Int) + 1) = (j : Int) + 1 := IntWalk.i64_in _ ⟨by omega, by omega⟩
          have hw2 : (0 : Int) ≤ (j : Int) + 1 := by omega
          have hw3 : ((j : Int) + 1).toNat = j + 1 := by omega
          have hw4 : (0 : Int) ≤ (j : Int) := by omega
          have hw5 : (j : Int) ≤ (j : Int) + 1 := by omega
          generalize hX : letters.getD j 0 = X at *
          have HL : Hid (letters.getD ((j : Int).toNat) 0 = X) := Lib.hid (by rw [Int.toNat_natCast]; exact hX)
          obtain ⟨M1, E1, HM1, z1⟩ := cat_to HM0 [X]
          obtain ⟨D, HD, zD⟩ := list_str (itoa cl)
          have hlD := itoa_le (n := cl) ⟨by omega, by omega⟩
          obtain ⟨M2, E2, HM2, z2⟩ := cat_to HM1 (itoa cl)
          rw [HD.out] at E2
          rw [List.length_singleton] at z1
          have y1 : M1.size ≤ 409601 := by omega
          have yD : D.size ≤ 21 := by omega
          have y2 : M2.size ≤ 409630 := by omega
          have x1 : M.size + 1 ≤ 9223372036854775807 := by omega
          have x2 : M1.size + D.size ≤ 9223372036854775807 := by omega
          have x3 : M1.size ≤ 9223372036854775807 := by omega
          have x4 : M2.size ≤ 9223372036854775807 := by omega
          clear hblk q1 q2 q3 hX z1 zD z2 hlD
          go_upto_region 10 with (fail)
          go_cut [4] (fun s4 wx => s4 = .string M2 ∧ Step No w2 wx)
          case first =>
            have HD2 : Hid (Step No w2 w2.drew) := Lib.hid ((Step.refl No _).drew)
            have d0 := (HC.out _ HD2.out).1
            have d1 := (HC.out _ HD2.out).2.1
            go_region_with ((go_at_call 30; refine (Dec_any cl g3 (by omega) _).mono ?_; rintro e w3 ⟨rfl, hs3⟩; rw [HD.out]; have H3 := Lib.hid (HD2.out.trans hs3 (fun _ f _ => f)); have f0 := (HC.out _ H3.out).1; have f1 := (HC.out _ H3.out).2.1; clear hs3))
            all_goals
              go_wp2
              go_meet
              exact ⟨rfl, H3.out⟩
          case rest =>
            obtain ⟨rfl, hs3⟩ := hcut
            have H3 := Lib.hid hs3
            clear e0 e1 e2 e3 e4 e5 hs3 E1 E2 hlc hw1 hw2 hw3 hw4 hw5 x1 x2 x3 x4
            obtain ⟨e0, e1, e2, e3, e4, e5⟩ := HC.out _ H3.out
            generalize (j : Int) = kd at *
            rcases (by omega : kd = 0 ∨ (2 ≤ kd ∧ kd ≤ 4) ∨ kd = 5 ∨ kd = 1 ∨ kd = 6 ∨ kd = 7) with hjj | hjj | hjj | hjj | hjj | hjj
            · subst hjj
              have HF : Hid (isEdit 0 = true ∧ isMove 0 = false ∧ isBreak 0 = false) := Lib.hid (by decide)
              have lp := num_short pl (by omega) (by omega)
              obtain ⟨M3, E3, HM3, z⟩ := cat_to HM2 ([64])
              have yM3 : M3.size ≤ 409700 := by (try simp only [List.length_cons, List.length_nil] at z); omega
              clear z
              obtain ⟨P, HP, zP⟩ := list_str (num pl)
              obtain ⟨M4, E4, HM4, z⟩ := cat_to HM3 (num pl)
              have yM4 : M4.size ≤ 409800 := by (try simp only [List.length_cons, List.length_nil] at z); omega
              clear z
              rw [HP.out] at E4
              go_wp2_with fail
              refine (num_ref pl (by omega) (by omega) _).mono ?_
              rintro e w4 ⟨rfl, hs⟩
              rw [HP.out]
              have H4 := Lib.hid (H3.out.trans hs (fun _ f _ => f))
              clear hs
              obtain ⟨e0, e1, e2, e3, e4, e5⟩ := HC.out _ H4.out
              have ln := num_short n (by omega) (by omega)
              have lt' := str_le g9
              obtain ⟨N, HN, zN⟩ := list_str (num n)
              obtain ⟨T, HT, zT⟩ := list_str (str t.data.toList)
              obtain ⟨M5, E5, HM5, z⟩ := cat_to HM4 (num n)
              have yM5 : M5.size ≤ 409900 := by (try simp only [List.length_cons, List.length_nil] at z); omega
              clear z
              rw [HN.out] at E5
              obtain ⟨M6, E6, HM6, z⟩ := cat_to HM5 (str t.data.toList)
              have yM6 : M6.size ≤ 411000 := by (try simp only [List.length_cons, List.length_nil] at z); omega
              clear z
              rw [HT.out] at E6
              obtain ⟨M7, E7, HM7, z⟩ := cat_to HM6 ([59])
              have yM7 : M7.size ≤ 412000 := by (try simp only [List.length_cons, List.length_nil] at z); omega
              clear z
              have yN : N.size ≤ 22 := by omega
              have yT : T.size ≤ 330 := by omega
              have HZT : Hid (t.size ≤ 140737488355328) := Lib.hid (by omega)
              clear zN zT ln lt'
              go_upto_region 19 with (fail)
              go_cut [4] (fun s4 wx => s4 = .string M6 ∧ Step No w2 wx)
              case first =>
                have HD : Hid (Step No w2 (w4).drew) := Lib.hid (H4.out.drew)
                have d4 := (HC.out _ HD.out).2.2.2.2.1
                have d5 := (HC.out _ HD.out).2.2.2.2.2
                clear e0 e1 e2 e3 e4 e5
                go_region_with (first | (go_at_call 31; refine (num_ref n g7 (by omega) _).mono ?_; rintro e w5 ⟨rfl, hs5⟩; rw [HN.out]; have H5 := Lib.hid (Step.trans (F := No) (G := No) (show Step No w2 _ from by first | exact H6.out | exact HD.out) hs5 (fun _ f _ => f)); have f4 := (HC.out _ H5.out).2.2.2.2.1; have f5 := (HC.out _ H5.out).2.2.2.2.2; clear hs5) | (go_at_call 32; refine (str_ref t HZT.out _).mono ?_; rintro e w6 ⟨rfl, hs6⟩; rw [HT.out]; have H6 := Lib.hid (Step.trans (F := No) (G := No) (show Step No w2 _ from by first | exact H5.out | exact HD.out) hs6 (fun _ f _ => f)); have i4 := (HC.out _ H6.out).2.2.2.2.1; have i5 := (HC.out _ H6.out).2.2.2.2.2; clear hs6))
                all_goals
                  go_wp2
                  go_meet
                  exact ⟨rfl, by first | exact H6.out | exact H5.out⟩
              case rest =>
                obtain ⟨rfl, hs7⟩ := hcut
                have H7 := Lib.hid hs7
                clear hs7 e0 e1 e2 e3 e4 e5 E5 E6
                go_wp2
                go_roundw
                case rel =>
                  refine ⟨k + 1, _, hlt, rfl, rfl, Lib.hid ?_, ?_, HS02.out.trans H7.out (fun _ f _ => f)⟩
                  · rw [HM7.out, HX.out, showActs_app, showActs_one]
                    rw [← HL.out]
                    simp [showAct, HF.out]
                  · rw [HX.out]
                    intro a ha
                    rcases List.mem_append.1 ha with ha | ha
                    · exact HMay.out a ha
                    · rw [List.mem_singleton] at ha
                      subst ha
                      exact HM.out
                case measure => simp [RowKit.intOf]; omega
            · have b0 : 2 ≤ kd := hjj.1
              have b1 : kd ≤ 5 := by omega
              have b2 : (kd == 0) = false := beq_eq_false_iff_ne.2 (by omega)
              have b3 : (kd == 5) = false := beq_eq_false_iff_ne.2 (by omega)
              have HF : Hid (isEdit kd = false ∧ isMove kd = true ∧ isBreak kd = false) := Lib.hid (by simp only [isEdit, isMove, isBreak]; simp [b0, b1, b2, b3])
              clear hjj
              cases up
              · have lp := num_short pl (by omega) (by omega)
                obtain ⟨M3, E3, HM3, z⟩ := cat_to HM2 ([100])
                have yM3 : M3.size ≤ 409700 := by (try simp only [List.length_cons, List.length_nil] at z); omega
                clear z
                obtain ⟨P, HP, zP⟩ := list_str (num pl)
                obtain ⟨M4, E4, HM4, z⟩ := cat_to HM3 (num pl)
                have yM4 : M4.size ≤ 409800 := by (try simp only [List.length_cons, List.length_nil] at z); omega
                clear z
                rw [HP.out] at E4
                obtain ⟨M7, E7, HM7, z⟩ := cat_to HM4 ([59])
                have yM7 : M7.size ≤ 410000 := by (try simp only [List.length_cons, List.length_nil] at z); omega
                clear z
                go_wp2_with fail
                refine (num_ref pl (by omega) (by omega) _).mono ?_
                rintro e w4 ⟨rfl, hs⟩
                rw [HP.out]
                have H4 := Lib.hid (H3.out.trans hs (fun _ f _ => f))
                clear hs
                obtain ⟨e0, e1, e2, e3, e4, e5⟩ := HC.out _ H4.out
                go_wp2
                go_roundw
                case rel =>
                  refine ⟨k + 1, _, hlt, rfl, rfl, Lib.hid ?_, ?_, HS02.out.trans H4.out (fun _ f _ => f)⟩
                  · rw [HM7.out, HX.out, showActs_app, showActs_one]
                    rw [← HL.out]
                    simp [showAct, HF.out]
                  · rw [HX.out]
                    intro a ha
                    rcases List.mem_append.1 ha with ha | ha
                    · exact HMay.out a ha
                    · rw [List.mem_singleton] at ha
                      subst ha
                      exact HM.out
                case measure => simp [RowKit.intOf]; omega
              · have lp := num_short pl (by omega) (by omega)
                obtain ⟨M3, E3, HM3, z⟩ := cat_to HM2 ([117])
                have yM3 : M3.size ≤ 409700 := by (try simp only [List.length_cons, List.length_nil] at z); omega
                clear z
                obtain ⟨P, HP, zP⟩ := list_str (num pl)
                obtain ⟨M4, E4, HM4, z⟩ := cat_to HM3 (num pl)
                have yM4 : M4.size ≤ 409800 := by (try simp only [List.length_cons, List.length_nil] at z); omega
                clear z
                rw [HP.out] at E4
                obtain ⟨M7, E7, HM7, z⟩ := cat_to HM4 ([59])
                have yM7 : M7.size ≤ 410000 := by (try simp only [List.length_cons, List.length_nil] at z); omega
                clear z
                go_wp2_with fail
                refine (num_ref pl (by omega) (by omega) _).mono ?_
                rintro e w4 ⟨rfl, hs⟩
                rw [HP.out]
                have H4 := Lib.hid (H3.out.trans hs (fun _ f _ => f))
                clear hs
                obtain ⟨e0, e1, e2, e3, e4, e5⟩ := HC.out _ H4.out
                go_wp2
                go_roundw
                case rel =>
                  refine ⟨k + 1, _, hlt, rfl, rfl, Lib.hid ?_, ?_, HS02.out.trans H4.out (fun _ f _ => f)⟩
                  · rw [HM7.out, HX.out, showActs_app, showActs_one]
                    rw [← HL.out]
                    simp [showAct, HF.out]
                  · rw [HX.out]
                    intro a ha
                    rcases List.mem_append.1 ha with ha | ha
                    · exact HMay.out a ha
                    · rw [List.mem_singleton] at ha
                      subst ha
                      exact HM.out
                case measure => simp [RowKit.intOf]; omega
            · subst hjj
              have HF : Hid (isEdit 5 = false ∧ isMove 5 = true ∧ isBreak 5 = true) := Lib.hid (by decide)
              cases up
              · have lp := num_short pl (by omega) (by omega)
                obtain ⟨M3, E3, HM3, z⟩ := cat_to HM2 ([100])
                have yM3 : M3.size ≤ 409700 := by (try simp only [List.length_cons, List.length_nil] at z); omega
                clear z
                obtain ⟨P, HP, zP⟩ := list_str (num pl)
                obtain ⟨M4, E4, HM4, z⟩ := cat_to HM3 (num pl)
                have yM4 : M4.size ≤ 409800 := by (try simp only [List.length_cons, List.length_nil] at z); omega
                clear z
                rw [HP.out] at E4
                go_wp2_with fail
                refine (num_ref pl (by omega) (by omega) _).mono ?_
                rintro e w4 ⟨rfl, hs⟩
                rw [HP.out]
                have H4 := Lib.hid (H3.out.trans hs (fun _ f _ => f))
                clear hs
                obtain ⟨e0, e1, e2, e3, e4, e5⟩ := HC.out _ H4.out
                have ln := num_short n (by omega) (by omega)
                have lt' := str_le g9
                obtain ⟨N, HN, zN⟩ := list_str (num n)
                obtain ⟨T, HT, zT⟩ := list_str (str t.data.toList)
                obtain ⟨M5, E5, HM5, z⟩ := cat_to HM4 (num n)
                have yM5 : M5.size ≤ 409900 := by (try simp only [List.length_cons, List.length_nil] at z); omega
                clear z
                rw [HN.out] at E5
                obtain ⟨M6, E6, HM6, z⟩ := cat_to HM5 (str t.data.toList)
                have yM6 : M6.size ≤ 411000 := by (try simp only [List.length_cons, List.length_nil] at z); omega
                clear z
                rw [HT.out] at E6
                obtain ⟨M7, E7, HM7, z⟩ := cat_to HM6 ([59])
                have yM7 : M7.size ≤ 412000 := by (try simp only [List.length_cons, List.length_nil] at z); omega
                clear z
                have yN : N.size ≤ 22 := by omega
                have yT : T.size ≤ 330 := by omega
                have HZT : Hid (t.size ≤ 140737488355328) := Lib.hid (by omega)
                clear zN zT ln lt'
                go_upto_region 19 with (fail)
                go_cut [4] (fun s4 wx => s4 = .string M6 ∧ Step No w2 wx)
                case first =>
                  have HD : Hid (Step No w2 (w4).drew) := Lib.hid (H4.out.drew)
                  have d4 := (HC.out _ HD.out).2.2.2.2.1
                  have d5 := (HC.out _ HD.out).2.2.2.2.2
                  clear e0 e1 e2 e3 e4 e5
                  go_region_with (first | (go_at_call 31; refine (num_ref n g7 (by omega) _).mono ?_; rintro e w5 ⟨rfl, hs5⟩; rw [HN.out]; have H5 := Lib.hid (Step.trans (F := No) (G := No) (show Step No w2 _ from by first | exact H6.out | exact HD.out) hs5 (fun _ f _ => f)); have f4 := (HC.out _ H5.out).2.2.2.2.1; have f5 := (HC.out _ H5.out).2.2.2.2.2; clear hs5) | (go_at_call 32; refine (str_ref t HZT.out _).mono ?_; rintro e w6 ⟨rfl, hs6⟩; rw [HT.out]; have H6 := Lib.hid (Step.trans (F := No) (G := No) (show Step No w2 _ from by first | exact H5.out | exact HD.out) hs6 (fun _ f _ => f)); have i4 := (HC.out _ H6.out).2.2.2.2.1; have i5 := (HC.out _ H6.out).2.2.2.2.2; clear hs6))
                  all_goals
                    go_wp2
                    go_meet
                    exact ⟨rfl, by first | exact H6.out | exact H5.out⟩
                case rest =>
                  obtain ⟨rfl, hs7⟩ := hcut
                  have H7 := Lib.hid hs7
                  clear hs7 e0 e1 e2 e3 e4 e5 E5 E6
                  go_wp2
                  go_roundw
                  case rel =>
                    refine ⟨k + 1, _, hlt, rfl, rfl, Lib.hid ?_, ?_, HS02.out.trans H7.out (fun _ f _ => f)⟩
                    · rw [HM7.out, HX.out, showActs_app, showActs_one]
                      rw [← HL.out]
                      simp [showAct, HF.out]
                    · rw [HX.out]
                      intro a ha
                      rcases List.mem_append.1 ha with ha | ha
                      · exact HMay.out a ha
                      · rw [List.mem_singleton] at ha
                        subst ha
                        exact HM.out
                  case measure => simp [RowKit.intOf]; omega
              · have lp := num_short pl (by omega) (by omega)
                obtain ⟨M3, E3, HM3, z⟩ := cat_to HM2 ([117])
                have yM3 : M3.size ≤ 409700 := by (try simp only [List.length_cons, List.length_nil] at z); omega
                clear z
                obtain ⟨P, HP, zP⟩ := list_str (num pl)
                obtain ⟨M4, E4, HM4, z⟩ := cat_to HM3 (num pl)
                have yM4 : M4.size ≤ 409800 := by (try simp only [List.length_cons, List.length_nil] at z); omega
                clear z
                rw [HP.out] at E4
                go_wp2_with fail
                refine (num_ref pl (by omega) (by omega) _).mono ?_
                rintro e w4 ⟨rfl, hs⟩
                rw [HP.out]
                have H4 := Lib.hid (H3.out.trans hs (fun _ f _ => f))
                clear hs
                obtain ⟨e0, e1, e2, e3, e4, e5⟩ := HC.out _ H4.out
                have ln := num_short n (by omega) (by omega)
                have lt' := str_le g9
                obtain ⟨N, HN, zN⟩ := list_str (num n)
                obtain ⟨T, HT, zT⟩ := list_str (str t.data.toList)
                obtain ⟨M5, E5, HM5, z⟩ := cat_to HM4 (num n)
                have yM5 : M5.size ≤ 409900 := by (try simp only [List.length_cons, List.length_nil] at z); omega
                clear z
                rw [HN.out] at E5
                obtain ⟨M6, E6, HM6, z⟩ := cat_to HM5 (str t.data.toList)
                have yM6 : M6.size ≤ 411000 := by (try simp only [List.length_cons, List.length_nil] at z); omega
                clear z
                rw [HT.out] at E6
                obtain ⟨M7, E7, HM7, z⟩ := cat_to HM6 ([59])
                have yM7 : M7.size ≤ 412000 := by (try simp only [List.length_cons, List.length_nil] at z); omega
                clear z
                have yN : N.size ≤ 22 := by omega
                have yT : T.size ≤ 330 := by omega
                have HZT : Hid (t.size ≤ 140737488355328) := Lib.hid (by omega)
                clear zN zT ln lt'
                go_upto_region 19 with (fail)
                go_cut [4] (fun s4 wx => s4 = .string M6 ∧ Step No w2 wx)
                case first =>
                  have HD : Hid (Step No w2 (w4).drew) := Lib.hid (H4.out.drew)
                  have d4 := (HC.out _ HD.out).2.2.2.2.1
                  have d5 := (HC.out _ HD.out).2.2.2.2.2
                  clear e0 e1 e2 e3 e4 e5
                  go_region_with (first | (go_at_call 31; refine (num_ref n g7 (by omega) _).mono ?_; rintro e w5 ⟨rfl, hs5⟩; rw [HN.out]; have H5 := Lib.hid (Step.trans (F := No) (G := No) (show Step No w2 _ from by first | exact H6.out | exact HD.out) hs5 (fun _ f _ => f)); have f4 := (HC.out _ H5.out).2.2.2.2.1; have f5 := (HC.out _ H5.out).2.2.2.2.2; clear hs5) | (go_at_call 32; refine (str_ref t HZT.out _).mono ?_; rintro e w6 ⟨rfl, hs6⟩; rw [HT.out]; have H6 := Lib.hid (Step.trans (F := No) (G := No) (show Step No w2 _ from by first | exact H5.out | exact HD.out) hs6 (fun _ f _ => f)); have i4 := (HC.out _ H6.out).2.2.2.2.1; have i5 := (HC.out _ H6.out).2.2.2.2.2; clear hs6))
                  all_goals
                    go_wp2
                    go_meet
                    exact ⟨rfl, by first | exact H6.out | exact H5.out⟩
                case rest =>
                  obtain ⟨rfl, hs7⟩ := hcut
                  have H7 := Lib.hid hs7
                  clear hs7 e0 e1 e2 e3 e4 e5 E5 E6
                  go_wp2
                  go_roundw
                  case rel =>
                    refine ⟨k + 1, _, hlt, rfl, rfl, Lib.hid ?_, ?_, HS02.out.trans H7.out (fun _ f _ => f)⟩
                    · rw [HM7.out, HX.out, showActs_app, showActs_one]
                      rw [← HL.out]
                      simp [showAct, HF.out]
                    · rw [HX.out]
                      intro a ha
                      rcases List.mem_append.1 ha with ha | ha
                      · exact HMay.out a ha
                      · rw [List.mem_singleton] at ha
                        subst ha
                        exact HM.out
                  case measure => simp [RowKit.intOf]; omega
            · subst hjj
              have HF : Hid (isEdit 1 = false ∧ isMove 1 = false ∧ isBreak 1 = false) := Lib.hid (by decide)
              obtain ⟨M7, E7, HM7, z⟩ := cat_to HM2 ([59])
              have yM7 : M7.size ≤ 410000 := by (try simp only [List.length_cons, List.length_nil] at z); omega
              clear z
              go_wp2
              go_roundw
              case rel =>
                refine ⟨k + 1, _, hlt, rfl, rfl, Lib.hid ?_, ?_, HS02.out.trans H3.out (fun _ f _ => f)⟩
                · rw [HM7.out, HX.out, showActs_app, showActs_one]
                  rw [← HL.out]
                  simp [showAct, HF.out]
                · rw [HX.out]
                  intro a ha
                  rcases List.mem_append.1 ha with ha | ha
                  · exact HMay.out a ha
                  · rw [List.mem_singleton] at ha
                    subst ha
                    exact HM.out
              case measure => simp [RowKit.intOf]; omega
            · subst hjj
              have HF : Hid (isEdit 6 = false ∧ isMove 6 = false ∧ isBreak 6 = false) := Lib.hid (by decide)
              obtain ⟨M7, E7, HM7, z⟩ := cat_to HM2 ([59])
              have yM7 : M7.size ≤ 410000 := by (try simp only [List.length_cons, List.length_nil] at z); omega
              clear z
              go_wp2
              go_roundw
              case rel =>
                refine ⟨k + 1, _, hlt, rfl, rfl, Lib.hid ?_, ?_, HS02.out.trans H3.out (fun _ f _ => f)⟩
                · rw [HM7.out, HX.out, showActs_app, showActs_one]
                  rw [← HL.out]
                  simp [showAct, HF.out]
                · rw [HX.out]
                  intro a ha
                  rcases List.mem_append.1 ha with ha | ha
                  · exact HMay.out a ha
                  · rw [List.mem_singleton] at ha
                    subst ha
                    exact HM.out
              case measure => simp [RowKit.intOf]; omega
            · subst hjj
              have HF : Hid (isEdit 7 = false ∧ isMove 7 = false ∧ isBreak 7 = false) := Lib.hid (by decide)
              obtain ⟨M7, E7, HM7, z⟩ := cat_to HM2 ([59])
              have yM7 : M7.size ≤ 410000 := by (try simp only [List.length_cons, List.length_nil] at z); omega
              clear z
              go_wp2
              go_roundw
              case rel =>
                refine ⟨k + 1, _, hlt, rfl, rfl, Lib.hid ?_, ?_, HS02.out.trans H3.out (fun _ f _ => f)⟩
                · rw [HM7.out, HX.out, showActs_app, showActs_one]
                  rw [← HL.out]
                  simp [showAct, HF.out]
                · rw [HX.out]
                  intro a ha
                  rcases List.mem_append.1 ha with ha | ha
                  · exact HMay.out a ha
                  · rw [List.mem_singleton] at ha
                    subst ha
                    exact HM.out
              case measure => simp [RowKit.intOf]; omega
      · obtain rfl : k = xs.length := by omega
        rw [List.take_length] at hmay HM0
        have hS : showS xs = (M, 0) := by unfold showS; rw [if_pos ⟨by omega, hmay⟩, HM0.out]
        have Hhs := Lib.hid hs
        have Hhmay := Lib.hid hmay
        have HhS := Lib.hid hS
        clear hs hmay hS
        go_wp2
        go_ret2
        exact ⟨by rw [HhS.out]; rfl, Hhs.out⟩
end Go.Proofs.YtjeamfoicpgkhaaDoor.ScrW
