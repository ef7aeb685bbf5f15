/- comp.May. -/
import Derived.Test.YtkamhpbfebdhjaaGreatDoorCompMay
namespace Go.Proofs.YtkamhpbfebdhjaaGreatDoor.CompMay
open Go.RowKit Go.Lib Go.Proofs.YtkamhpbfebdhjaaGreatDoor.Mem Go.Proofs.YtkamhpbfebdhjaaGreatDoor.Read Go.Proofs.YtkamhpbfebdhjaaGreatDoor.Tree Go.Proofs.YtkamhpbfebdhjaaGreatDoor.Data Go.Proofs.YtkamhpbfebdhjaaGreatDoor.CompR Go.Proofs.YtkamhpbfebdhjaaGreatDoor.May
set_option linter.unusedVariables false
set_option linter.unusedSimpArgs false
theorem comps_drop {l : Int} {xs : List CompD} {k : Nat} (h : k < xs.length) : compsOk l (xs.drop k) = (rawB xs[k] && decide (sizeC xs[k] ≠ 0 ∧ xs[k].kind ≠ l ∧ ¬ (xs[k].kind = 1 ∧ l = 2)) && compsOk xs[k].kind (xs.drop (k + 1))) := by
  rw [List.drop_eq_getElem_cons h, compsOk]
theorem fine_snoc {xs ys : List CompD} {x : CompD} (h : ys = xs ++ [x]) (hF : ∀ c ∈ xs, Fine c) (hx : Fine x) : ∀ c ∈ ys, Fine c := by
  intro c hc
  rw [h] at hc
  rcases List.mem_append.1 hc with hc | hc
  · exact hF c hc
  · obtain rfl : c = x := by simpa using hc
    exact hx
/-- After k rounds. -/
def MR (w : World) (xs : List CompD) (l i : Value) (wr : World) : Prop :=
  ∃ (k : Nat) (n : Int), k ≤ xs.length ∧ i = .int .i64 k ∧ l = .int .i64 n ∧ compsOk (-1) xs = compsOk n (xs.drop k) ∧ (∀ c ∈ xs.take k, Fine c) ∧ Step No w wr
set_option maxHeartbeats 4000000 in
theorem may_any (xs : List CompD) (v : Value) (w : World) (hx : CompsR w xs v) : Calls Tryz.prog 22 #[v] w fun e w' => e = .returned (.bool (editB xs)) ∧ Step No w w' := by
  obtain ⟨A, c, rfl, h1, h2⟩ := comps_len hx
  unfold maxLen at h2
  have HX := Lib.hid hx
  clear hx
  by_cases hl : xs.length ≤ 4096
  · have hb : decide ((4096 : Int) < xs.length) = false := decide_eq_false (by omega)
    have H0 : Hid (MR w xs (.int .i64 (-1)) (.int .i64 0) w) := Lib.hid ⟨0, -1, Nat.zero_le _, rfl, rfl, by simp, by simp, Step.refl _ _⟩
    go_enter Tryz.func22, Tryz.ntmps22
    go_wp2
    go_loopw [3, 11] (fun l i wr => MR w xs l i wr) (fun _ i _ => xs.length - (RowKit.intOf i).toNat)
    case atStart => exact H0.out
    case round =>
      obtain ⟨k, l, hk, rfl, rfl, ho, hF, hs⟩ := hrel
      by_cases hlt : k < xs.length
      · obtain ⟨ad, rfl, hz, c0, c1, c2⟩ := comps_cells (HX.out.to hs) k hlt
        have HT : Hid (xs.take (k + 1) = xs.take k ++ [xs[k]]) := Lib.hid (List.take_succ_eq_append_getElem hlt)
        rw [comps_drop hlt] at ho
        have hi1 : (k : Int) < xs.length := by omega
        have hi0 : (0 : Int) ≤ k := by omega
        generalize xs[k] = x at *
        obtain ⟨q, n, t⟩ := x
        simp only [sizeC] at c0 c1 c2 hz ho HT
        have Hhs := Lib.hid hs
        have HhF := Lib.hid hF
        clear hs hF
        cases hr : rawB ⟨q, n, t⟩ with
        | false =>
          have HN : Hid (editB xs = false) := Lib.hid (by unfold editB; rw [ho, hr]; simp)
          have Hr := Lib.hid hr
          clear hr ho
          go_wp2_with fail
          refine (raw_any ⟨q, n, t⟩ _ hz).mono ?_
          rintro e w1 ⟨rfl, hs1⟩
          rw [Hr.out]
          have d0 := hs1.cell (show (wr.alloc (.cells #[.int .i64 q, .int .i64 n, .string t] TC)).cell? ⟨wr.heap.size, 0, none⟩ = some (.int .i64 q) from blk_cell (blk_new _ _) 0) (fun f => f)
          have d1 := hs1.cell (show (wr.alloc (.cells #[.int .i64 q, .int .i64 n, .string t] TC)).cell? ⟨wr.heap.size, 1, none⟩ = some (.int .i64 n) from blk_cell (blk_new _ _) 1) (fun f => f)
          have d2 := hs1.cell (show (wr.alloc (.cells #[.int .i64 q, .int .i64 n, .string t] TC)).cell? ⟨wr.heap.size, 2, none⟩ = some (.string t) from blk_cell (blk_new _ _) 2) (fun f => f)
          have Hhs1 := Lib.hid hs1
          clear hs1
          go_wp2
          go_ret
          exact ⟨ret_bool (by rw [HN.out]), ((Hhs.out.alloc _).trans Hhs1.out (fun _ f _ => f))⟩
        | true =>
          obtain ⟨f1, f2, f3⟩ := raw_fine hr
          have Hr := Lib.hid hr
          rw [hr, Bool.true_and] at ho
          clear hr
          simp only at f1 f2 f3
          by_cases hsz : n + (t.size : Int) = 0
          · have HN : Hid (editB xs = false) := Lib.hid (by unfold editB; rw [ho]; simp [hsz])
            have hb0 : (n + (t.size : Int) == 0) = true := beq_iff_eq.2 hsz
            clear ho hsz
            go_wp2_with fail
            refine (raw_any ⟨q, n, t⟩ _ hz).mono ?_
            rintro e w1 ⟨rfl, hs1⟩
            rw [Hr.out]
            have d0 := hs1.cell (show (wr.alloc (.cells #[.int .i64 q, .int .i64 n, .string t] TC)).cell? ⟨wr.heap.size, 0, none⟩ = some (.int .i64 q) from blk_cell (blk_new _ _) 0) (fun f => f)
            have d1 := hs1.cell (show (wr.alloc (.cells #[.int .i64 q, .int .i64 n, .string t] TC)).cell? ⟨wr.heap.size, 1, none⟩ = some (.int .i64 n) from blk_cell (blk_new _ _) 1) (fun f => f)
            have d2 := hs1.cell (show (wr.alloc (.cells #[.int .i64 q, .int .i64 n, .string t] TC)).cell? ⟨wr.heap.size, 2, none⟩ = some (.string t) from blk_cell (blk_new _ _) 2) (fun f => f)
            have Hhs1 := Lib.hid hs1
            clear hs1
            go_wp2_with fail
            refine (size_any ⟨q, n, t⟩ _ (by simp only; omega) (by simp only; omega) (by simp only; omega)).mono ?_
            rintro e w2 ⟨rfl, hs2⟩
            have d3 := hs2.cell d0 (fun f => f)
            simp only [sizeC]
            have Hhs2 := Lib.hid hs2
            clear hs2
            go_wp2
            go_ret
            exact ⟨ret_bool (by rw [HN.out]), (((Hhs.out.alloc _).trans Hhs1.out (fun _ f _ => f)).trans Hhs2.out (fun _ f _ => f))⟩
          · have hb0 : (n + (t.size : Int) == 0) = false := beq_eq_false_iff_ne.2 hsz
            by_cases hq : q = l
            · have HN : Hid (editB xs = false) := Lib.hid (by unfold editB; rw [ho]; simp [hq])
              have hb1 : (q == l) = true := beq_iff_eq.2 hq
              clear ho hsz hq
              go_wp2_with fail
              refine (raw_any ⟨q, n, t⟩ _ hz).mono ?_
              rintro e w1 ⟨rfl, hs1⟩
              rw [Hr.out]
              have d0 := hs1.cell (show (wr.alloc (.cells #[.int .i64 q, .int .i64 n, .string t] TC)).cell? ⟨wr.heap.size, 0, none⟩ = some (.int .i64 q) from blk_cell (blk_new _ _) 0) (fun f => f)
              have d1 := hs1.cell (show (wr.alloc (.cells #[.int .i64 q, .int .i64 n, .string t] TC)).cell? ⟨wr.heap.size, 1, none⟩ = some (.int .i64 n) from blk_cell (blk_new _ _) 1) (fun f => f)
              have d2 := hs1.cell (show (wr.alloc (.cells #[.int .i64 q, .int .i64 n, .string t] TC)).cell? ⟨wr.heap.size, 2, none⟩ = some (.string t) from blk_cell (blk_new _ _) 2) (fun f => f)
              have Hhs1 := Lib.hid hs1
              clear hs1
              go_wp2_with fail
              refine (size_any ⟨q, n, t⟩ _ (by simp only; omega) (by simp only; omega) (by simp only; omega)).mono ?_
              rintro e w2 ⟨rfl, hs2⟩
              have d3 := hs2.cell d0 (fun f => f)
              simp only [sizeC]
              have Hhs2 := Lib.hid hs2
              clear hs2
              go_wp2
              go_ret
              exact ⟨ret_bool (by rw [HN.out]), (((Hhs.out.alloc _).trans Hhs1.out (fun _ f _ => f)).trans Hhs2.out (fun _ f _ => f))⟩
            · have hb1 : (q == l) = false := beq_eq_false_iff_ne.2 hq
              by_cases hq1 : q = 1
              · subst hq1
                by_cases hl2 : l = 2
                · subst hl2
                  have HN : Hid (editB xs = false) := Lib.hid (by unfold editB; rw [ho]; simp)
                  clear ho hsz hq
                  go_wp2_with fail
                  refine (raw_any ⟨1, n, t⟩ _ hz).mono ?_
                  rintro e w1 ⟨rfl, hs1⟩
                  rw [Hr.out]
                  have d0 := hs1.cell (show (wr.alloc (.cells #[.int .i64 1, .int .i64 n, .string t] TC)).cell? ⟨wr.heap.size, 0, none⟩ = some (.int .i64 1) from blk_cell (blk_new _ _) 0) (fun f => f)
                  have d1 := hs1.cell (show (wr.alloc (.cells #[.int .i64 1, .int .i64 n, .string t] TC)).cell? ⟨wr.heap.size, 1, none⟩ = some (.int .i64 n) from blk_cell (blk_new _ _) 1) (fun f => f)
                  have d2 := hs1.cell (show (wr.alloc (.cells #[.int .i64 1, .int .i64 n, .string t] TC)).cell? ⟨wr.heap.size, 2, none⟩ = some (.string t) from blk_cell (blk_new _ _) 2) (fun f => f)
                  have Hhs1 := Lib.hid hs1
                  clear hs1
                  go_wp2_with fail
                  refine (size_any ⟨1, n, t⟩ _ (by simp only; omega) (by simp only; omega) (by simp only; omega)).mono ?_
                  rintro e w2 ⟨rfl, hs2⟩
                  have d3 := hs2.cell d0 (fun f => f)
                  simp only [sizeC]
                  have Hhs2 := Lib.hid hs2
                  clear hs2
                  go_wp2
                  go_ret
                  exact ⟨ret_bool (by rw [HN.out]), (((Hhs.out.alloc _).trans Hhs1.out (fun _ f _ => f)).trans Hhs2.out (fun _ f _ => f))⟩
                · have hb2 : (l == 2) = false := beq_eq_false_iff_ne.2 hl2
                  have HO : Hid (compsOk (-1) xs = compsOk 1 (xs.drop (k + 1))) := Lib.hid (by rw [ho]; simp [hsz, hq, hl2])
                  clear ho hsz hq hl2
                  go_wp2_with fail
                  refine (raw_any ⟨1, n, t⟩ _ hz).mono ?_
                  rintro e w1 ⟨rfl, hs1⟩
                  rw [Hr.out]
                  have d0 := hs1.cell (show (wr.alloc (.cells #[.int .i64 1, .int .i64 n, .string t] TC)).cell? ⟨wr.heap.size, 0, none⟩ = some (.int .i64 1) from blk_cell (blk_new _ _) 0) (fun f => f)
                  have d1 := hs1.cell (show (wr.alloc (.cells #[.int .i64 1, .int .i64 n, .string t] TC)).cell? ⟨wr.heap.size, 1, none⟩ = some (.int .i64 n) from blk_cell (blk_new _ _) 1) (fun f => f)
                  have d2 := hs1.cell (show (wr.alloc (.cells #[.int .i64 1, .int .i64 n, .string t] TC)).cell? ⟨wr.heap.size, 2, none⟩ = some (.string t) from blk_cell (blk_new _ _) 2) (fun f => f)
                  have Hhs1 := Lib.hid hs1
                  clear hs1
                  go_wp2_with fail
                  refine (size_any ⟨1, n, t⟩ _ (by simp only; omega) (by simp only; omega) (by simp only; omega)).mono ?_
                  rintro e w2 ⟨rfl, hs2⟩
                  have d3 := hs2.cell d0 (fun f => f)
                  simp only [sizeC]
                  have Hhs2 := Lib.hid hs2
                  clear hs2
                  go_wp2
                  go_roundw
                  case rel => exact ⟨k + 1, 1, hlt, rfl, rfl, HO.out, fine_snoc HT.out HhF.out ⟨f1, f2, f3⟩, (((Hhs.out.alloc _).trans Hhs1.out (fun _ f _ => f)).trans Hhs2.out (fun _ f _ => f))⟩
                  case measure => simp [RowKit.intOf]; omega
              · have hb2 : (q == 1) = false := beq_eq_false_iff_ne.2 hq1
                have HO : Hid (compsOk (-1) xs = compsOk q (xs.drop (k + 1))) := Lib.hid (by rw [ho]; simp [hsz, hq, hq1])
                clear ho hsz hq hq1
                go_wp2_with fail
                refine (raw_any ⟨q, n, t⟩ _ hz).mono ?_
                rintro e w1 ⟨rfl, hs1⟩
                rw [Hr.out]
                have d0 := hs1.cell (show (wr.alloc (.cells #[.int .i64 q, .int .i64 n, .string t] TC)).cell? ⟨wr.heap.size, 0, none⟩ = some (.int .i64 q) from blk_cell (blk_new _ _) 0) (fun f => f)
                have d1 := hs1.cell (show (wr.alloc (.cells #[.int .i64 q, .int .i64 n, .string t] TC)).cell? ⟨wr.heap.size, 1, none⟩ = some (.int .i64 n) from blk_cell (blk_new _ _) 1) (fun f => f)
                have d2 := hs1.cell (show (wr.alloc (.cells #[.int .i64 q, .int .i64 n, .string t] TC)).cell? ⟨wr.heap.size, 2, none⟩ = some (.string t) from blk_cell (blk_new _ _) 2) (fun f => f)
                have Hhs1 := Lib.hid hs1
                clear hs1
                go_wp2_with fail
                refine (size_any ⟨q, n, t⟩ _ (by simp only; omega) (by simp only; omega) (by simp only; omega)).mono ?_
                rintro e w2 ⟨rfl, hs2⟩
                have d3 := hs2.cell d0 (fun f => f)
                simp only [sizeC]
                have Hhs2 := Lib.hid hs2
                clear hs2
                go_wp2
                go_roundw
                case rel => exact ⟨k + 1, q, hlt, rfl, rfl, HO.out, fine_snoc HT.out HhF.out ⟨f1, f2, f3⟩, (((Hhs.out.alloc _).trans Hhs1.out (fun _ f _ => f)).trans Hhs2.out (fun _ f _ => f))⟩
                case measure => simp [RowKit.intOf]; omega
      · obtain rfl : k = xs.length := by omega
        rw [List.take_length] at hF
        have HE : Hid (editB xs = decide (spanF xs ≤ 4096 ∧ spanT xs ≤ 4096)) := Lib.hid (by unfold editB; rw [ho, List.drop_length, decide_eq_true hl]; rfl)
        have Hhs := Lib.hid hs
        have HhF := Lib.hid hF
        clear hs hF
        clear ho
        go_wp2_with fail
        refine (within_any xs _ _ (HX.out.to Hhs.out) HhF.out hl).mono ?_
        rintro e w1 ⟨rfl, hs1⟩
        have Hhs1 := Lib.hid hs1
        clear hs1
        go_wp2
        go_ret
        exact ⟨ret_bool (by rw [HE.out, Bool.decide_and]), Hhs.out.trans Hhs1.out (fun _ f _ => f)⟩
  · have hb : decide ((4096 : Int) < xs.length) = true := decide_eq_true (by omega)
    have HE : Hid (editB xs = false) := Lib.hid (by unfold editB; rw [decide_eq_false hl]; rfl)
    rw [HE.out]
    clear hl
    go_enter Tryz.func22, Tryz.ntmps22
    go_wp2
    go_ret
    exact ⟨rfl, (by repeat' (first | exact Step.refl _ _ | with_reducible assumption | refine Step.drew ?_ | refine Step.drewN ?_ _ | refine Step.alloc ?_ _))⟩
end Go.Proofs.YtkamhpbfebdhjaaGreatDoor.CompMay
