/- Trees that are the same. -/
import Derived.Test.YtkamhpbfebdhjaaGreatDoorSameS
namespace Go.Proofs.YtkamhpbfebdhjaaGreatDoor.Same
open Go.RowKit Go.Lib Go.Proofs.YtkamhpbfebdhjaaGreatDoor Go.Proofs.YtkamhpbfebdhjaaGreatDoor.Mem Go.Proofs.YtkamhpbfebdhjaaGreatDoor.Read Go.Proofs.YtkamhpbfebdhjaaGreatDoor.AppSl Go.Proofs.YtkamhpbfebdhjaaGreatDoor.Tree Go.Proofs.YtkamhpbfebdhjaaGreatDoor.Data Go.Proofs.YtkamhpbfebdhjaaGreatDoor.CompR Go.Proofs.YtkamhpbfebdhjaaGreatDoor.MsgR
set_option linter.unusedVariables false
set_option linter.unusedSimpArgs false
set_option maxHeartbeats 8000000 in
set_option maxRecDepth 100000 in
theorem SameTree_any (w : World) (t u : TreeD) (a b : Value) (ha : NodesR w t.nodes a) (hb : NodesR w u.nodes b) : Calls Tryz.prog 38 #[aggT t a, aggT u b] w (SamePost t u w) := by
  obtain ⟨rt, nx, xs⟩ := t
  obtain ⟨rt', nx', ys⟩ := u
  obtain ⟨A, c, rfl, h1, h2⟩ := nodes_len ha
  obtain ⟨B, d, rfl, h3, h4⟩ := nodes_len hb
  unfold maxLen at h2 h4
  simp only at ha hb h1 h2 h3 h4
  have HA := Lib.hid ha
  have HB := Lib.hid hb
  clear ha hb
  unfold aggT
  simp only
  by_cases z0 : rt = rt'
  · subst z0
    by_cases z1 : nx = nx'
    · subst z1
      by_cases hl : xs.length = ys.length
      · have hne : ((xs.length : Int) != (ys.length : Int)) = false := by rw [hl]; exact bne_self_eq_false _
        have hne' : (xs.length != ys.length) = false := by rw [hl]; exact bne_self_eq_false _
        have HL := Lib.hid hl
        clear hl
        have HT0 : Hid (((w.alloc (.cells #[.int .i64 rt, .int .i64 nx, .slice A xs.length c] 25)).alloc (.cells #[.int .i64 rt, .int .i64 nx, .slice B ys.length d] 25)).heap[w.heap.size]? = some (.cells #[.int .i64 rt, .int .i64 nx, .slice A xs.length c] 25 (0, 0))) := Lib.hid (blk_alloc (blk_new _ _) _)
        have HU0 : Hid (((w.alloc (.cells #[.int .i64 rt, .int .i64 nx, .slice A xs.length c] 25)).alloc (.cells #[.int .i64 rt, .int .i64 nx, .slice B ys.length d] 25)).heap[w.heap.size + 1]? = some (.cells #[.int .i64 rt, .int .i64 nx, .slice B ys.length d] 25 (0, 0))) := Lib.hid (new2 _ _ _)
        go_enter Tryz.func38, Tryz.ntmps38
        go_wp2
        go_loopw [5] (fun i wr => ∃ k : Nat, k ≤ xs.length ∧ i = .int .i64 k ∧ Step No ((w.alloc (.cells #[.int .i64 rt, .int .i64 nx, .slice A xs.length c] 25)).alloc (.cells #[.int .i64 rt, .int .i64 nx, .slice B ys.length d] 25)) wr ∧ ∀ j, j < k → xs[j]? = ys[j]?) (fun i _ => xs.length - (RowKit.intOf i).toNat)
        case atStart => exact ⟨0, Nat.zero_le _, rfl, (by repeat' (first | exact Step.refl _ _ | with_reducible assumption | refine Step.drew ?_ | refine Step.drewN ?_ _ | refine Step.alloc ?_ _)), fun j h => absurd h (Nat.not_lt_zero _)⟩
        case round =>
          obtain ⟨k, hk, rfl, hs, he⟩ := hrel
          have t2 := blk_cell (hs.blk HT0.out (fun f => f)) 2
          have u2 := blk_cell (hs.blk HU0.out (fun f => f)) 2
          simp at t2 u2
          have hsw : Step No w wr := (((Step.refl No w).alloc _).alloc _).trans hs (fun _ f _ => f)
          by_cases hlt : k < xs.length
          · have hlt2 : k < ys.length := by rw [← HL.out]; exact hlt
            have HA2 := Lib.hid (show NodesR wr xs _ from NodesR.to HA.out hsw)
            have HB2 := Lib.hid (show NodesR wr ys _ from NodesR.to HB.out hsw)
            obtain ⟨p, kv, rfl, hkv, c0, c1, c2, c3, c4⟩ := nodes_cells HA2.out k hlt
            obtain ⟨q, kv', rfl, hkv', d0, d1, d2, d3, d4⟩ := nodes_cells HB2.out k hlt2
            have hi1 : (k : Int) < xs.length := by omega
            have hi2 : (k : Int) < ys.length := by omega
            have hi0 : (0 : Int) ≤ k := by omega
            have HX : Hid (xs[k]? = some xs[k]) := Lib.hid (List.getElem?_eq_getElem hlt)
            have HY : Hid (ys[k]? = some ys[k]) := Lib.hid (List.getElem?_eq_getElem hlt2)
            generalize xs[k] = s at *
            generalize ys[k] = t at *
            clear hsw
            have Hhe := Lib.hid he
            have Hhs := Lib.hid hs
            clear he hs
            have HKV := Lib.hid hkv
            have HKV' := Lib.hid hkv'
            obtain ⟨A3, n3, rfl, -, -⟩ := sl_len hkv
            obtain ⟨B3, m3, rfl, -, -⟩ := sl_len hkv'
            clear hkv hkv'
            obtain ⟨a0, a1, a2, a3, ak⟩ := s
            obtain ⟨b0, b1, b2, b3, bk⟩ := t
            simp only at c0 c1 c2 c3 c4 d0 d1 d2 d3 d4 HKV HKV'
            have c01 := fun o => cell?_alloc_some o c0
            have c02 := fun o o' => cell?_alloc_some o' (cell?_alloc_some o c0)
            have c11 := fun o => cell?_alloc_some o c1
            have c12 := fun o o' => cell?_alloc_some o' (cell?_alloc_some o c1)
            have c21 := fun o => cell?_alloc_some o c2
            have c22 := fun o o' => cell?_alloc_some o' (cell?_alloc_some o c2)
            have c31 := fun o => cell?_alloc_some o c3
            have c32 := fun o o' => cell?_alloc_some o' (cell?_alloc_some o c3)
            have c41 := fun o => cell?_alloc_some o c4
            have c42 := fun o o' => cell?_alloc_some o' (cell?_alloc_some o c4)
            have d01 := fun o => cell?_alloc_some o d0
            have d02 := fun o o' => cell?_alloc_some o' (cell?_alloc_some o d0)
            have d11 := fun o => cell?_alloc_some o d1
            have d12 := fun o o' => cell?_alloc_some o' (cell?_alloc_some o d1)
            have d21 := fun o => cell?_alloc_some o d2
            have d22 := fun o o' => cell?_alloc_some o' (cell?_alloc_some o d2)
            have d31 := fun o => cell?_alloc_some o d3
            have d32 := fun o o' => cell?_alloc_some o' (cell?_alloc_some o d3)
            have d41 := fun o => cell?_alloc_some o d4
            have d42 := fun o o' => cell?_alloc_some o' (cell?_alloc_some o d4)
            have t21 := fun o => cell?_alloc_some o t2
            have t22 := fun o o' => cell?_alloc_some o' (cell?_alloc_some o t2)
            have u21 := fun o => cell?_alloc_some o u2
            have u22 := fun o o' => cell?_alloc_some o' (cell?_alloc_some o u2)
            go_wp2
            go_cut [6, 7] (fun s6 s7 wx => Two 98 wr #[.int .i64 a0, .int .i64 a1, .int .i64 a2, .int .i64 a3, .slice A3 ak.length n3] #[.int .i64 b0, .int .i64 b1, .int .i64 b2, .int .i64 b3, .slice B3 bk.length m3] s6 s7 wx)
            case first =>
              go_region
              all_goals
                go_wp2
                go_meet
                first | exact two_ab _ _ _ _ | exact two_ba _ _ _ _
            case rest =>
              obtain ⟨g, h, rfl, rfl, hg, hh, hs2⟩ := hcut
              have HS2 := Lib.hid (Hhs.out.trans hs2 (fun _ f _ => f))
              have HK2 := Lib.hid (ints_to' HKV.out hs2)
              have HK2' := Lib.hid (ints_to' HKV'.out hs2)
              clear c0 c1 c2 c3 c4 d0 d1 d2 d3 d4 t2 u2 t21 t22 u21 u22
              clear c01 c02 c11 c12 c21 c22 c31 c32 c41 c42 d01 d02 d11 d12 d21 d22 d31 d32 d41 d42
              clear hs2 HKV HKV' Hhs
              have c0 := blk_cell hg 0
              have c1 := blk_cell hg 1
              have c2 := blk_cell hg 2
              have c3 := blk_cell hg 3
              have c4 := blk_cell hg 4
              have d0 := blk_cell hh 0
              have d1 := blk_cell hh 1
              have d2 := blk_cell hh 2
              have d3 := blk_cell hh 3
              have d4 := blk_cell hh 4
              simp at c0 c1 c2 c3 c4 d0 d1 d2 d3 d4
              clear hg hh
              by_cases q0 : a0 = b0
              · subst q0
                by_cases q1 : a1 = b1
                · subst q1
                  by_cases q2 : a2 = b2
                  · subst q2
                    by_cases q3 : a3 = b3
                    · subst q3
                      go_wp2_with fail
                      refine (SameInts_any _ ak bk _ _ HK2.out HK2'.out).mono ?_
                      rintro e w5 ⟨r, rfl, hr, hs5⟩
                      have HR := Lib.hid hr
                      have HS5 := Lib.hid (HS2.out.trans hs5 (fun _ f _ => f))
                      clear hr hs5
                      cases r with
                      | true =>
                        go_wp2
                        go_roundw
                        case rel => exact ⟨k + 1, hlt, rfl, HS5.out, fun j hj => by
                            rcases Nat.lt_succ_iff_lt_or_eq.1 hj with h | rfl
                            · exact Hhe.out j h
                            · rw [HX.out, HY.out, HR.out.1 (by simp)]⟩
                        case measure => simp [RowKit.intOf]; omega
                      | false =>
                        have HF : Hid (xs ≠ ys) := Lib.hid (fun e => by have := HX.out; rw [e, HY.out] at this; injection this with this; injection this with e1 e2 e3 e4 e5; have := HR.out.2 e5.symm; cases this)
                        go_wp2
                        go_ret
                        exact ⟨false, rfl, (Iff.intro (fun h => by cases h) (fun h => absurd (TreeD.mk.inj h).2.2 HF.out)), Step.trans (F := No) (G := No) (by repeat' (first | exact Step.refl _ _ | with_reducible assumption | refine Step.drew ?_ | refine Step.drewN ?_ _ | refine Step.alloc ?_ _)) HS5.out (fun _ f _ => f)⟩
                    ·
                      have HF : Hid (xs ≠ ys) := Lib.hid (fun e => q3 (by have := HX.out; rw [e, HY.out] at this; injection this with this; injection this with e1 e2 e3 e4 e5; subst_vars; rfl))
                      have hb : (a3 != b3) = true := by rw [bne_iff_ne]; exact q3
                      clear q3
                      go_wp2
                      go_ret
                      exact ⟨false, rfl, (Iff.intro (fun h => by cases h) (fun h => absurd (TreeD.mk.inj h).2.2 HF.out)), Step.trans (F := No) (G := No) (by repeat' (first | exact Step.refl _ _ | with_reducible assumption | refine Step.drew ?_ | refine Step.drewN ?_ _ | refine Step.alloc ?_ _)) HS2.out (fun _ f _ => f)⟩
                  ·
                    have HF : Hid (xs ≠ ys) := Lib.hid (fun e => q2 (by have := HX.out; rw [e, HY.out] at this; injection this with this; injection this with e1 e2 e3 e4 e5; subst_vars; rfl))
                    have hb : (a2 != b2) = true := by rw [bne_iff_ne]; exact q2
                    clear q2
                    go_wp2
                    go_ret
                    exact ⟨false, rfl, (Iff.intro (fun h => by cases h) (fun h => absurd (TreeD.mk.inj h).2.2 HF.out)), Step.trans (F := No) (G := No) (by repeat' (first | exact Step.refl _ _ | with_reducible assumption | refine Step.drew ?_ | refine Step.drewN ?_ _ | refine Step.alloc ?_ _)) HS2.out (fun _ f _ => f)⟩
                ·
                  have HF : Hid (xs ≠ ys) := Lib.hid (fun e => q1 (by have := HX.out; rw [e, HY.out] at this; injection this with this; injection this with e1 e2 e3 e4 e5; subst_vars; rfl))
                  have hb : (a1 != b1) = true := by rw [bne_iff_ne]; exact q1
                  clear q1
                  go_wp2
                  go_ret
                  exact ⟨false, rfl, (Iff.intro (fun h => by cases h) (fun h => absurd (TreeD.mk.inj h).2.2 HF.out)), Step.trans (F := No) (G := No) (by repeat' (first | exact Step.refl _ _ | with_reducible assumption | refine Step.drew ?_ | refine Step.drewN ?_ _ | refine Step.alloc ?_ _)) HS2.out (fun _ f _ => f)⟩
              ·
                have HF : Hid (xs ≠ ys) := Lib.hid (fun e => q0 (by have := HX.out; rw [e, HY.out] at this; injection this with this; injection this with e1 e2 e3 e4 e5; subst_vars; rfl))
                have hb : (a0 != b0) = true := by rw [bne_iff_ne]; exact q0
                clear q0
                go_wp2
                go_ret
                exact ⟨false, rfl, (Iff.intro (fun h => by cases h) (fun h => absurd (TreeD.mk.inj h).2.2 HF.out)), Step.trans (F := No) (G := No) (by repeat' (first | exact Step.refl _ _ | with_reducible assumption | refine Step.drew ?_ | refine Step.drewN ?_ _ | refine Step.alloc ?_ _)) HS2.out (fun _ f _ => f)⟩
          · have hke : k = xs.length := by omega
            subst hke
            have HT : Hid (xs = ys) := Lib.hid (by
              apply List.ext_getElem?
              intro j
              by_cases hj : j < xs.length
              · exact he j hj
              · rw [List.getElem?_eq_none (by omega), List.getElem?_eq_none (by rw [← HL.out]; omega)])
            have Hhe := Lib.hid he
            have Hhsw := Lib.hid hsw
            clear he hsw
            go_wp2
            go_ret
            exact ⟨true, rfl, ⟨fun _ => by rw [HT.out], fun _ => rfl⟩, Hhsw.out⟩
      · have hne : ((xs.length : Int) != (ys.length : Int)) = true := by rw [bne_iff_ne]; omega
        have HF : Hid (¬ ((⟨rt, nx, xs⟩ : TreeD) = ⟨rt, nx, ys⟩)) := Lib.hid (fun e => hl (by injection e with e1 e2 e3; rw [e3]))
        have hne' : (xs.length != ys.length) = true := by rw [bne_iff_ne]; exact hl
        clear hl
        go_enter Tryz.func38, Tryz.ntmps38
        go_wp2
        go_ret
        exact ⟨false, rfl, (Iff.intro (fun h => by cases h) (fun h => absurd h HF.out)), (by repeat' (first | exact Step.refl _ _ | with_reducible assumption | refine Step.drew ?_ | refine Step.drewN ?_ _ | refine Step.alloc ?_ _))⟩
    ·
      have HF : Hid (¬ ((⟨rt, nx, xs⟩ : TreeD) = ⟨rt, nx', ys⟩)) := Lib.hid (fun e => z1 ((TreeD.mk.inj e).2.1))
      have hb : (nx != nx') = true := by rw [bne_iff_ne]; exact z1
      clear z1
      go_enter Tryz.func38, Tryz.ntmps38
      go_wp2
      go_ret
      exact ⟨false, rfl, (Iff.intro (fun h => by cases h) (fun h => absurd h HF.out)), (by repeat' (first | exact Step.refl _ _ | with_reducible assumption | refine Step.drew ?_ | refine Step.drewN ?_ _ | refine Step.alloc ?_ _))⟩
  ·
    have HF : Hid (¬ ((⟨rt, nx, xs⟩ : TreeD) = ⟨rt', nx', ys⟩)) := Lib.hid (fun e => z0 ((TreeD.mk.inj e).1))
    have hb : (rt != rt') = true := by rw [bne_iff_ne]; exact z0
    clear z0
    go_enter Tryz.func38, Tryz.ntmps38
    go_wp2
    go_ret
    exact ⟨false, rfl, (Iff.intro (fun h => by cases h) (fun h => absurd h HF.out)), (by repeat' (first | exact Step.refl _ _ | with_reducible assumption | refine Step.drew ?_ | refine Step.drewN ?_ _ | refine Step.alloc ?_ _))⟩
end Go.Proofs.YtkamhpbfebdhjaaGreatDoor.Same
