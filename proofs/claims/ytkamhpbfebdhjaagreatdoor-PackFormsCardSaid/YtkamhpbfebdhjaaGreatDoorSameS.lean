/- Steps that are the same. -/
import Derived.Test.YtkamhpbfebdhjaaGreatDoorSameC
import Derived.Lib.SliceRun
namespace Go.Proofs.YtkamhpbfebdhjaaGreatDoor.Same
open Go.RowKit Go.Lib Go.Proofs.YtkamhpbfebdhjaaGreatDoor Go.Proofs.YtkamhpbfebdhjaaGreatDoor.Mem Go.Proofs.YtkamhpbfebdhjaaGreatDoor.Read Go.Proofs.YtkamhpbfebdhjaaGreatDoor.AppSl Go.Proofs.YtkamhpbfebdhjaaGreatDoor.Tree Go.Proofs.YtkamhpbfebdhjaaGreatDoor.Data Go.Proofs.YtkamhpbfebdhjaaGreatDoor.CompR Go.Proofs.YtkamhpbfebdhjaaGreatDoor.MsgR
set_option linter.unusedVariables false
set_option linter.unusedSimpArgs false

theorem new2 (w : World) (o o' : Obj) : ((w.alloc o).alloc o').heap[w.heap.size + 1]? = some o' := by simpa using blk_new (w.alloc o) o'
/-- Two boxes, filled. -/
def Two (T : TypeId) (w : World) (ca cb : Array Value) (a b : Value) (wx : World) : Prop := ∃ g h, a = .pointer (some ⟨g, 0, none⟩) ∧ b = .pointer (some ⟨h, 0, none⟩) ∧ wx.heap[g]? = some (.cells ca T (0, 0)) ∧ wx.heap[h]? = some (.cells cb T (0, 0)) ∧ Step No w wx
theorem two_ab (T : TypeId) (w : World) (ca cb : Array Value) : Two T w ca cb (.pointer (some ⟨w.heap.size, 0, none⟩)) (.pointer (some ⟨w.heap.size + 1, 0, none⟩)) ((w.alloc (.cells ca T)).alloc (.cells cb T)).drew :=
  ⟨_, _, rfl, rfl, blk_alloc (blk_new _ _) _, new2 _ _ _, (((Step.refl No w).alloc _).alloc _).drew⟩
theorem two_ba (T : TypeId) (w : World) (ca cb : Array Value) : Two T w ca cb (.pointer (some ⟨w.heap.size + 1, 0, none⟩)) (.pointer (some ⟨w.heap.size, 0, none⟩)) ((w.alloc (.cells cb T)).alloc (.cells ca T)).drew :=
  ⟨_, _, rfl, rfl, new2 _ _ _, blk_alloc (blk_new _ _) _, (((Step.refl No w).alloc _).alloc _).drew⟩
set_option maxHeartbeats 8000000 in
set_option maxRecDepth 100000 in
theorem SameSteps_any (w : World) (xs ys : List StepD) (a b : Value) (ha : StepsR w xs a) (hb : StepsR w ys b) : Calls Tryz.prog 65 #[a, b] w (SamePost xs ys w) := by
  obtain ⟨A, c, rfl, h1, h2⟩ := sl_len ha
  obtain ⟨B, d, rfl, h3, h4⟩ := sl_len hb
  unfold maxLen at h2 h4
  have HA := Lib.hid ha
  have HB := Lib.hid hb
  clear ha hb
  by_cases hl : xs.length = ys.length
  · have hne : ((xs.length : Int) != (ys.length : Int)) = false := by rw [hl]; exact bne_self_eq_false _
    have hne' : (xs.length != ys.length) = false := by rw [hl]; exact bne_self_eq_false _
    have HL := Lib.hid hl
    clear hl
    go_enter Tryz.func65, Tryz.ntmps65
    go_wp2
    go_loopw [5] (fun i wr => ∃ k : Nat, k ≤ xs.length ∧ i = .int .i64 k ∧ Step No w wr ∧ ∀ j, j < k → xs[j]? = ys[j]?) (fun i _ => xs.length - (RowKit.intOf i).toNat)
    case atStart => exact ⟨0, Nat.zero_le _, rfl, Step.refl _ _, fun j h => absurd h (Nat.not_lt_zero _)⟩
    case round =>
      obtain ⟨k, hk, rfl, hs, he⟩ := hrel
      by_cases hlt : k < xs.length
      · have hlt2 : k < ys.length := by rw [← HL.out]; exact hlt
        have HA2 := Lib.hid (show StepsR wr xs _ from StepsR.to HA.out (id hs))
        have HB2 := Lib.hid (show StepsR wr ys _ from StepsR.to HB.out (id hs))
        obtain ⟨p, kv, rfl, hkv, c0, c1, c2, c3, c4, c5⟩ := steps_cells HA2.out k hlt
        obtain ⟨q, kv', rfl, hkv', d0, d1, d2, d3, d4, d5⟩ := steps_cells HB2.out k hlt2
        have hi1 : (k : Int) < xs.length := by omega
        have hi2 : (k : Int) < ys.length := by omega
        have hi0 : (0 : Int) ≤ k := by omega
        have HX : Hid (xs[k]? = some xs[k]) := Lib.hid (List.getElem?_eq_getElem hlt)
        have HY : Hid (ys[k]? = some ys[k]) := Lib.hid (List.getElem?_eq_getElem hlt2)
        generalize xs[k] = s at *
        generalize ys[k] = t at *
        have Hhe := Lib.hid he
        have Hhs := Lib.hid hs
        clear he hs
        have HKV := Lib.hid hkv
        have HKV' := Lib.hid hkv'
        obtain ⟨A3, n3, rfl, -, -⟩ := sl_len hkv
        obtain ⟨B3, m3, rfl, -, -⟩ := sl_len hkv'
        clear hkv hkv'
        obtain ⟨a0, a1, a2, a3, a4, ak⟩ := s
        obtain ⟨b0, b1, b2, b3, b4, bk⟩ := t
        simp only at c0 c1 c2 c3 c4 c5 d0 d1 d2 d3 d4 d5 HKV HKV'
        have c01 := fun o => cell?_alloc_some o c0
        have c02 := fun o o' => cell?_alloc_some o' (cell?_alloc_some o c0)
        have c11 := fun o => cell?_alloc_some o c1
        have c12 := fun o o' => cell?_alloc_some o' (cell?_alloc_some o c1)
        have c21 := fun o => cell?_alloc_some o c2
        have c22 := fun o o' => cell?_alloc_some o' (cell?_alloc_some o c2)
        have c31 := fun o => cell?_alloc_some o c3
        have c32 := fun o o' => cell?_alloc_some o' (cell?_alloc_some o c3)
        have c41 := fun o => cell?_alloc_some o c4
        have c42 := fun o o' => cell?_alloc_some o' (cell?_alloc_some o c4)
        have c51 := fun o => cell?_alloc_some o c5
        have c52 := fun o o' => cell?_alloc_some o' (cell?_alloc_some o c5)
        have d01 := fun o => cell?_alloc_some o d0
        have d02 := fun o o' => cell?_alloc_some o' (cell?_alloc_some o d0)
        have d11 := fun o => cell?_alloc_some o d1
        have d12 := fun o o' => cell?_alloc_some o' (cell?_alloc_some o d1)
        have d21 := fun o => cell?_alloc_some o d2
        have d22 := fun o o' => cell?_alloc_some o' (cell?_alloc_some o d2)
        have d31 := fun o => cell?_alloc_some o d3
        have d32 := fun o o' => cell?_alloc_some o' (cell?_alloc_some o d3)
        have d41 := fun o => cell?_alloc_some o d4
        have d42 := fun o o' => cell?_alloc_some o' (cell?_alloc_some o d4)
        have d51 := fun o => cell?_alloc_some o d5
        have d52 := fun o o' => cell?_alloc_some o' (cell?_alloc_some o d5)
        go_wp2
        go_cut [6, 7] (fun s6 s7 wx => Two 36 wr #[.int .i64 a0, .int .i64 a1, .int .i64 a2, .int .i64 a3, .int .i64 a4, .slice A3 ak.length n3] #[.int .i64 b0, .int .i64 b1, .int .i64 b2, .int .i64 b3, .int .i64 b4, .slice B3 bk.length m3] s6 s7 wx)
        case first =>
          go_region
          all_goals
            go_wp2
            go_meet
            first | exact two_ab _ _ _ _ | exact two_ba _ _ _ _
        case rest =>
          obtain ⟨g, h, rfl, rfl, hg, hh, hs2⟩ := hcut
          have HS2 := Lib.hid (Hhs.out.trans hs2 (fun _ f _ => f))
          have HK2 := Lib.hid (ints_to' HKV.out hs2)
          have HK2' := Lib.hid (ints_to' HKV'.out hs2)
          clear c0 c1 c2 c3 c4 c5 d0 d1 d2 d3 d4 d5
          clear c01 c02 c11 c12 c21 c22 c31 c32 c41 c42 c51 c52 d01 d02 d11 d12 d21 d22 d31 d32 d41 d42 d51 d52
          clear hs2 HKV HKV' Hhs
          have c0 := blk_cell hg 0
          have c1 := blk_cell hg 1
          have c2 := blk_cell hg 2
          have c3 := blk_cell hg 3
          have c4 := blk_cell hg 4
          have c5 := blk_cell hg 5
          have d0 := blk_cell hh 0
          have d1 := blk_cell hh 1
          have d2 := blk_cell hh 2
          have d3 := blk_cell hh 3
          have d4 := blk_cell hh 4
          have d5 := blk_cell hh 5
          simp at c0 c1 c2 c3 c4 c5 d0 d1 d2 d3 d4 d5
          clear hg hh
          by_cases q0 : a0 = b0
          · subst q0
            by_cases q1 : a1 = b1
            · subst q1
              by_cases q2 : a2 = b2
              · subst q2
                by_cases q3 : a3 = b3
                · subst q3
                  by_cases q4 : a4 = b4
                  · subst q4
                    go_wp2_with fail
                    refine (SameInts_any _ ak bk _ _ HK2.out HK2'.out).mono ?_
                    rintro e w5 ⟨r, rfl, hr, hs5⟩
                    have HR := Lib.hid hr
                    have HS5 := Lib.hid (HS2.out.trans hs5 (fun _ f _ => f))
                    clear hr hs5
                    cases r with
                    | true =>
                      go_wp2
                      go_roundw
                      case rel => exact ⟨k + 1, hlt, rfl, HS5.out, fun j hj => by
                          rcases Nat.lt_succ_iff_lt_or_eq.1 hj with h | rfl
                          · exact Hhe.out j h
                          · rw [HX.out, HY.out, HR.out.1 (by simp)]⟩
                      case measure => simp [RowKit.intOf]; omega
                    | false =>
                      have HF : Hid (xs ≠ ys) := Lib.hid (fun e => by have := HX.out; rw [e, HY.out] at this; injection this with this; injection this with e1 e2 e3 e4 e5 e6; have := HR.out.2 e6.symm; cases this)
                      go_wp2
                      go_ret
                      exact ⟨false, rfl, (Iff.intro (fun h => by cases h) (fun h => absurd h HF.out)), HS5.out⟩
                  ·
                    have HF : Hid (xs ≠ ys) := Lib.hid (fun e => q4 (by have := HX.out; rw [e, HY.out] at this; injection this with this; injection this with e1 e2 e3 e4 e5 e6; subst_vars; rfl))
                    have hb : (a4 != b4) = true := by rw [bne_iff_ne]; exact q4
                    clear q4
                    go_wp2
                    go_ret
                    exact ⟨false, rfl, (Iff.intro (fun h => by cases h) (fun h => absurd h HF.out)), HS2.out⟩
                ·
                  have HF : Hid (xs ≠ ys) := Lib.hid (fun e => q3 (by have := HX.out; rw [e, HY.out] at this; injection this with this; injection this with e1 e2 e3 e4 e5 e6; subst_vars; rfl))
                  have hb : (a3 != b3) = true := by rw [bne_iff_ne]; exact q3
                  clear q3
                  go_wp2
                  go_ret
                  exact ⟨false, rfl, (Iff.intro (fun h => by cases h) (fun h => absurd h HF.out)), HS2.out⟩
              ·
                have HF : Hid (xs ≠ ys) := Lib.hid (fun e => q2 (by have := HX.out; rw [e, HY.out] at this; injection this with this; injection this with e1 e2 e3 e4 e5 e6; subst_vars; rfl))
                have hb : (a2 != b2) = true := by rw [bne_iff_ne]; exact q2
                clear q2
                go_wp2
                go_ret
                exact ⟨false, rfl, (Iff.intro (fun h => by cases h) (fun h => absurd h HF.out)), HS2.out⟩
            ·
              have HF : Hid (xs ≠ ys) := Lib.hid (fun e => q1 (by have := HX.out; rw [e, HY.out] at this; injection this with this; injection this with e1 e2 e3 e4 e5 e6; subst_vars; rfl))
              have hb : (a1 != b1) = true := by rw [bne_iff_ne]; exact q1
              clear q1
              go_wp2
              go_ret
              exact ⟨false, rfl, (Iff.intro (fun h => by cases h) (fun h => absurd h HF.out)), HS2.out⟩
          ·
            have HF : Hid (xs ≠ ys) := Lib.hid (fun e => q0 (by have := HX.out; rw [e, HY.out] at this; injection this with this; injection this with e1 e2 e3 e4 e5 e6; subst_vars; rfl))
            have hb : (a0 != b0) = true := by rw [bne_iff_ne]; exact q0
            clear q0
            go_wp2
            go_ret
            exact ⟨false, rfl, (Iff.intro (fun h => by cases h) (fun h => absurd h HF.out)), HS2.out⟩
      · have hke : k = xs.length := by omega
        subst hke
        have HT : Hid (xs = ys) := Lib.hid (by
          apply List.ext_getElem?
          intro j
          by_cases hj : j < xs.length
          · exact he j hj
          · rw [List.getElem?_eq_none (by omega), List.getElem?_eq_none (by rw [← HL.out]; omega)])
        have Hhe := Lib.hid he
        have Hhs := Lib.hid hs
        clear he hs
        go_wp2
        go_ret
        exact ⟨true, rfl, ⟨fun _ => HT.out, fun _ => rfl⟩, Hhs.out⟩
  · have hne : ((xs.length : Int) != (ys.length : Int)) = true := by rw [bne_iff_ne]; omega
    have hne' : (xs.length != ys.length) = true := by rw [bne_iff_ne]; exact hl
    have hd : Hid (xs ≠ ys) := Lib.hid (fun e => hl (by rw [e]))
    clear hl
    go_enter Tryz.func65, Tryz.ntmps65
    go_wp2
    go_ret
    exact ⟨false, rfl, (Iff.intro (fun h => by cases h) (fun h => absurd h hd.out)), Step.refl _ _⟩
end Go.Proofs.YtkamhpbfebdhjaaGreatDoor.Same
