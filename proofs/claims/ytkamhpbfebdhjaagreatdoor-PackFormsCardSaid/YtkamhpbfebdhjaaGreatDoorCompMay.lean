/- May an edit be? The program's answer. -/
import Derived.Test.YtkamhpbfebdhjaaGreatDoorLumpB
import Derived.Test.YtkamhpbfebdhjaaGreatDoorLumpA
namespace Go.Proofs.YtkamhpbfebdhjaaGreatDoor.CompMay
open Go.RowKit Go.Lib Go.Proofs.YtkamhpbfebdhjaaGreatDoor.Mem Go.Proofs.YtkamhpbfebdhjaaGreatDoor.Read Go.Proofs.YtkamhpbfebdhjaaGreatDoor.Tree Go.Proofs.YtkamhpbfebdhjaaGreatDoor.Data Go.Proofs.YtkamhpbfebdhjaaGreatDoor.CompR Go.Proofs.YtkamhpbfebdhjaaGreatDoor.May
set_option linter.unusedVariables false
set_option linter.unusedSimpArgs false
def aggC (c : CompD) : Value := .agg #[.int .i64 c.kind, .int .i64 c.n, .string c.text]
theorem empty_is (t : ByteArray) : (t.toList == []) = decide (t.size = 0) := by
  rw [ByteArray.toList_eq, Bool.eq_iff_iff, beq_iff_eq, decide_eq_true_eq]
  have hl : t.data.toList.length = t.size := Array.length_toList
  rw [← hl, List.length_eq_zero_iff]
set_option maxHeartbeats 2000000 in
theorem raw_any (c : CompD) (w : World) (hsz : c.text.size ≤ maxLen) : Calls Tryz.prog 42 #[aggC c] w fun e w' => e = .returned (.bool (rawB c)) ∧ Step No w w' := by
  obtain ⟨k, n, t⟩ := c
  unfold aggC
  simp only at *
  have hte := empty_is t
  by_cases k0 : k = 0
  · subst k0
    by_cases h1 : 0 ≤ n
    · by_cases h2 : n ≤ 4096
      · by_cases ht : t.size = 0
        · rw [decide_eq_true ht] at hte
          have hm : rawB ⟨0, n, t⟩ = true := by simp [rawB, rawP, *] <;> omega
          rw [hm]
          clear hm hsz
          go_enter Tryz.func42, Tryz.ntmps42
          go_wp2
          go_ret
          exact ⟨rfl, (by repeat' (first | exact Step.refl _ _ | with_reducible assumption | refine Step.drew ?_ | refine Step.drewN ?_ _ | refine Step.alloc ?_ _))⟩
        · rw [decide_eq_false ht] at hte
          have hm : rawB ⟨0, n, t⟩ = false := by simp [rawB, rawP, *] <;> omega
          rw [hm]
          clear hm hsz
          go_enter Tryz.func42, Tryz.ntmps42
          go_wp2
          go_ret
          exact ⟨rfl, (by repeat' (first | exact Step.refl _ _ | with_reducible assumption | refine Step.drew ?_ | refine Step.drewN ?_ _ | refine Step.alloc ?_ _))⟩
      · have hm : rawB ⟨0, n, t⟩ = false := by simp [rawB, rawP, *] <;> omega
        rw [hm]
        clear hm hsz
        go_enter Tryz.func42, Tryz.ntmps42
        go_wp2
        go_ret
        exact ⟨rfl, (by repeat' (first | exact Step.refl _ _ | with_reducible assumption | refine Step.drew ?_ | refine Step.drewN ?_ _ | refine Step.alloc ?_ _))⟩
    · have hm : rawB ⟨0, n, t⟩ = false := by simp [rawB, rawP, *] <;> omega
      rw [hm]
      clear hm hsz
      go_enter Tryz.func42, Tryz.ntmps42
      go_wp2
      go_ret
      exact ⟨rfl, (by repeat' (first | exact Step.refl _ _ | with_reducible assumption | refine Step.drew ?_ | refine Step.drewN ?_ _ | refine Step.alloc ?_ _))⟩
  · by_cases k2 : k = 2
    · subst k2
      by_cases h1 : 0 ≤ n
      · by_cases h2 : n ≤ 4096
        · by_cases ht : t.size = 0
          · rw [decide_eq_true ht] at hte
            have hm : rawB ⟨2, n, t⟩ = true := by simp [rawB, rawP, *] <;> omega
            rw [hm]
            clear hm hsz
            go_enter Tryz.func42, Tryz.ntmps42
            go_wp2
            go_ret
            exact ⟨rfl, (by repeat' (first | exact Step.refl _ _ | with_reducible assumption | refine Step.drew ?_ | refine Step.drewN ?_ _ | refine Step.alloc ?_ _))⟩
          · rw [decide_eq_false ht] at hte
            have hm : rawB ⟨2, n, t⟩ = false := by simp [rawB, rawP, *] <;> omega
            rw [hm]
            clear hm hsz
            go_enter Tryz.func42, Tryz.ntmps42
            go_wp2
            go_ret
            exact ⟨rfl, (by repeat' (first | exact Step.refl _ _ | with_reducible assumption | refine Step.drew ?_ | refine Step.drewN ?_ _ | refine Step.alloc ?_ _))⟩
        · have hm : rawB ⟨2, n, t⟩ = false := by simp [rawB, rawP, *] <;> omega
          rw [hm]
          clear hm hsz
          go_enter Tryz.func42, Tryz.ntmps42
          go_wp2
          go_ret
          exact ⟨rfl, (by repeat' (first | exact Step.refl _ _ | with_reducible assumption | refine Step.drew ?_ | refine Step.drewN ?_ _ | refine Step.alloc ?_ _))⟩
      · have hm : rawB ⟨2, n, t⟩ = false := by simp [rawB, rawP, *] <;> omega
        rw [hm]
        clear hm hsz
        go_enter Tryz.func42, Tryz.ntmps42
        go_wp2
        go_ret
        exact ⟨rfl, (by repeat' (first | exact Step.refl _ _ | with_reducible assumption | refine Step.drew ?_ | refine Step.drewN ?_ _ | refine Step.alloc ?_ _))⟩
    · by_cases k1 : k = 1
      · subst k1
        by_cases h1 : n = 0
        · by_cases ht : t.size ≤ 4096
          · have hb : decide ((t.size : Int) ≤ 4096) = true := decide_eq_true (by omega)
            have hm : rawB ⟨1, n, t⟩ = true := by simp [rawB, rawP, *] <;> omega
            rw [hm]
            clear hm hsz
            go_enter Tryz.func42, Tryz.ntmps42
            go_wp2
            go_ret
            exact ⟨rfl, (by repeat' (first | exact Step.refl _ _ | with_reducible assumption | refine Step.drew ?_ | refine Step.drewN ?_ _ | refine Step.alloc ?_ _))⟩
          · have hb : decide ((t.size : Int) ≤ 4096) = false := decide_eq_false (by omega)
            have hm : rawB ⟨1, n, t⟩ = false := by simp [rawB, rawP, *] <;> omega
            rw [hm]
            clear hm hsz
            go_enter Tryz.func42, Tryz.ntmps42
            go_wp2
            go_ret
            exact ⟨rfl, (by repeat' (first | exact Step.refl _ _ | with_reducible assumption | refine Step.drew ?_ | refine Step.drewN ?_ _ | refine Step.alloc ?_ _))⟩
        · have hm : rawB ⟨1, n, t⟩ = false := by simp [rawB, rawP, *] <;> omega
          rw [hm]
          clear hm hsz
          go_enter Tryz.func42, Tryz.ntmps42
          go_wp2
          go_ret
          exact ⟨rfl, (by repeat' (first | exact Step.refl _ _ | with_reducible assumption | refine Step.drew ?_ | refine Step.drewN ?_ _ | refine Step.alloc ?_ _))⟩
      · have b0 : (k == 0) = false := beq_eq_false_iff_ne.2 k0
        have b1 : (k == 1) = false := beq_eq_false_iff_ne.2 k1
        have b2 : (k == 2) = false := beq_eq_false_iff_ne.2 k2
        have hm : rawB ⟨k, n, t⟩ = false := by simp [rawB, rawP, k0, k1, k2]
        rw [hm]
        clear hm hsz hte k0 k1 k2
        go_enter Tryz.func42, Tryz.ntmps42
        go_wp2
        go_ret
        exact ⟨rfl, (by repeat' (first | exact Step.refl _ _ | with_reducible assumption | refine Step.drew ?_ | refine Step.drewN ?_ _ | refine Step.alloc ?_ _))⟩
theorem ret_bool {a b : Bool} (h : a = b) : Ending.returned (.bool a) = .returned (.bool b) := by rw [h]
theorem ret_int {k : IntKind} {a b : Int} (h : a = b) : Ending.returned (.int k a) = .returned (.int k b) := by rw [h]
theorem size_any (c : CompD) (w : World) (h1 : -2305843009213693952 ≤ c.n) (h2 : c.n ≤ 2305843009213693952) (hsz : c.text.size ≤ 2305843009213693952) : Calls Tryz.prog 43 #[aggC c] w fun e w' => e = .returned (.int .i64 (sizeC c)) ∧ Step No w w' := by
  obtain ⟨k, n, t⟩ := c
  unfold aggC sizeC
  simp only at *
  have HE : Hid (wrap64 (n + (t.size : Int)) = n + t.size) := Lib.hid (by unfold wrap64; omega)
  clear h1 h2 hsz
  go_enter Tryz.func43, Tryz.ntmps43
  go_wp2
  go_ret
  exact ⟨ret_int HE.out, (by repeat' (first | exact Step.refl _ _ | with_reducible assumption | refine Step.drew ?_ | refine Step.drewN ?_ _ | refine Step.alloc ?_ _))⟩
def Fine (c : CompD) : Prop := 0 ≤ c.n ∧ c.n ≤ 4096 ∧ c.text.size ≤ 4096
theorem raw_fine {c : CompD} (h : rawB c = true) : Fine c := by
  rcases of_decide_eq_true h with ⟨_, h1, h2, h3⟩ | ⟨_, h1, h2⟩
  · exact ⟨h1, h2, by omega⟩
  · exact ⟨by omega, by omega, h2⟩
theorem spanF_snoc (xs : List CompD) (c : CompD) : spanF (xs ++ [c]) = spanF xs + (if c.kind = 1 then 0 else c.n) := by
  induction xs with
  | nil => simp [spanF]
  | cons x xs ih => simp only [List.cons_append, spanF, ih]; omega
theorem spanT_snoc (xs : List CompD) (c : CompD) : spanT (xs ++ [c]) = spanT xs + (if c.kind = 2 then 0 else sizeC c) := by
  induction xs with
  | nil => simp [spanT]
  | cons x xs ih => simp only [List.cons_append, spanT, ih]; omega
theorem span_bd {xs : List CompD} (h : ∀ c ∈ xs, Fine c) : 0 ≤ spanF xs ∧ spanF xs ≤ 4096 * xs.length ∧ 0 ≤ spanT xs ∧ spanT xs ≤ 8192 * xs.length := by
  induction xs with
  | nil => simp [spanF, spanT]
  | cons c xs ih =>
    obtain ⟨h1, h2, h3, h4⟩ := ih (fun d hd => h d (by simp [hd]))
    obtain ⟨f1, f2, f3⟩ := h c (by simp)
    simp only [spanF, spanT, sizeC, List.length_cons]
    split <;> split <;> omega
set_option maxHeartbeats 2000000 in
theorem spans_any (xs : List CompD) (v : Value) (w : World) (hx : CompsR w xs v) (hF : ∀ c ∈ xs, Fine c) (hl : xs.length ≤ 4096) : Calls Tryz.prog 73 #[v] w fun e w' => e = .returned (.tuple #[.int .i64 (spanF xs), .int .i64 (spanT xs)]) ∧ Step No w w' := by
  obtain ⟨A, c, rfl, h1, h2⟩ := comps_len hx
  unfold maxLen at h2
  have Hhx := Lib.hid hx
  have HhF := Lib.hid hF
  clear hx hF
  go_enter Tryz.func73, Tryz.ntmps73
  go_wp2
  go_loopw [2, 3, 8] (fun f t i wr => ∃ k : Nat, k ≤ xs.length ∧ i = .int .i64 k ∧ f = .int .i64 (spanF (xs.take k)) ∧ t = .int .i64 (spanT (xs.take k)) ∧ Step No w wr) (fun _ _ i _ => xs.length - (RowKit.intOf i).toNat)
  case atStart => exact ⟨0, Nat.zero_le _, rfl, rfl, rfl, (by repeat' (first | exact Step.refl _ _ | with_reducible assumption | refine Step.drew ?_ | refine Step.drewN ?_ _ | refine Step.alloc ?_ _))⟩
  case round =>
    obtain ⟨k, hk, rfl, rfl, rfl, hs⟩ := hrel
    by_cases hlt : k < xs.length
    · obtain ⟨ad, rfl, hz, c0, c1, c2⟩ := comps_cells (Hhx.out.to hs) k hlt
      have hT : xs.take (k + 1) = xs.take k ++ [xs[k]] := List.take_succ_eq_append_getElem hlt
      have HF : Hid (spanF (xs.take (k + 1)) = spanF (xs.take k) + (if xs[k].kind = 1 then 0 else xs[k].n)) := Lib.hid (by rw [hT, spanF_snoc])
      have HT : Hid (spanT (xs.take (k + 1)) = spanT (xs.take k) + (if xs[k].kind = 2 then 0 else sizeC xs[k])) := Lib.hid (by rw [hT, spanT_snoc])
      clear hT
      obtain ⟨b1, b2, b3, b4⟩ := span_bd (xs := xs.take k) (fun c hc => HhF.out c (List.mem_of_mem_take hc))
      have hlen : (xs.take k).length ≤ k := List.length_take_le _ _
      obtain ⟨f1, f2, f3⟩ := HhF.out xs[k] (List.getElem_mem hlt)
      have hi1 : (k : Int) < xs.length := by omega
      have hi0 : (0 : Int) ≤ k := by omega
      generalize xs[k] = x at *
      generalize spanF (xs.take k) = F at *
      generalize spanT (xs.take k) = T at *
      obtain ⟨q, n, t⟩ := x
      simp only [sizeC] at c0 c1 c2 f1 f2 f3 hz HF HT
      have g1 : F ≤ 1152921504606846976 := by omega
      have g2 : T ≤ 1152921504606846976 := by omega
      clear b2 b4 hlen
      have Hhs := Lib.hid hs
      clear hs
      have n1 : -2305843009213693952 ≤ n := by omega
      have n2 : n ≤ 2305843009213693952 := by omega
      have hz : t.size ≤ 2305843009213693952 := by omega
      have gs : n + (t.size : Int) ≤ 8192 := by omega
      have gs0 : 0 ≤ n + (t.size : Int) := by omega
      by_cases k1 : q = 1
      · subst k1
        go_wp2_with fail
        refine (size_any ⟨1, n, t⟩ _ n1 n2 hz).mono ?_
        rintro e w1 ⟨rfl, hs1⟩
        simp only [sizeC]
        have Hhs1 := Lib.hid hs1
        clear hs1
        go_wp2
        go_roundw
        case rel => exact ⟨k + 1, hlt, rfl, by rw [HF.out]; simp, by rw [HT.out]; simp, (Hhs.out.alloc _).trans Hhs1.out (fun _ f _ => f)⟩
        case measure => simp [RowKit.intOf]; omega
      · by_cases k2 : q = 2
        · subst k2
          go_wp2
          go_roundw
          case rel => exact ⟨k + 1, hlt, rfl, by rw [HF.out]; simp, by rw [HT.out]; simp, Hhs.out.alloc _⟩
          case measure => simp [RowKit.intOf]; omega
        · have e1 : (q != 1) = true := by rw [bne_iff_ne]; exact k1
          have e2 : (q != 2) = true := by rw [bne_iff_ne]; exact k2
          have e3 : (q == 1) = false := beq_eq_false_iff_ne.2 k1
          have e4 : (q == 2) = false := beq_eq_false_iff_ne.2 k2
          have Hk1 := Lib.hid k1
          have Hk2 := Lib.hid k2
          clear k1 k2
          go_wp2_with fail
          refine (size_any ⟨q, n, t⟩ _ n1 n2 hz).mono ?_
          rintro e w1 ⟨rfl, hs1⟩
          simp only [sizeC]
          have Hhs1 := Lib.hid hs1
          clear hs1
          go_wp2
          go_roundw
          case rel => exact ⟨k + 1, hlt, rfl, by rw [HF.out, if_neg Hk1.out], by rw [HT.out, if_neg Hk2.out], (Hhs.out.alloc _).trans Hhs1.out (fun _ f _ => f)⟩
          case measure => simp [RowKit.intOf]; omega
    · obtain rfl : k = xs.length := by omega
      rw [List.take_length]
      have Hhs := Lib.hid hs
      clear hs
      go_wp2
      go_ret2
      exact ⟨rfl, Hhs.out⟩
theorem within_any (xs : List CompD) (v : Value) (w : World) (hx : CompsR w xs v) (hF : ∀ c ∈ xs, Fine c) (hl : xs.length ≤ 4096) : Calls Tryz.prog 44 #[v] w fun e w' => e = .returned (.bool (decide (spanF xs ≤ 4096 ∧ spanT xs ≤ 4096))) ∧ Step No w w' := by
  by_cases h1 : spanF xs ≤ 4096
  · have HD : Hid (decide (spanF xs ≤ 4096 ∧ spanT xs ≤ 4096) = decide (spanT xs ≤ 4096)) := Lib.hid (by simp [h1])
    rw [HD.out]
    go_enter Tryz.func44, Tryz.ntmps44
    go_wp2_with fail
    refine (spans_any xs v w hx hF hl).mono ?_
    rintro e w1 ⟨rfl, hs⟩
    go_wp2
    go_ret
    exact ⟨rfl, hs⟩
  · have HD : Hid (decide (spanF xs ≤ 4096 ∧ spanT xs ≤ 4096) = false) := Lib.hid (by simp [h1])
    rw [HD.out]
    go_enter Tryz.func44, Tryz.ntmps44
    go_wp2_with fail
    refine (spans_any xs v w hx hF hl).mono ?_
    rintro e w1 ⟨rfl, hs⟩
    go_wp2
    go_ret
    exact ⟨rfl, hs⟩
end Go.Proofs.YtkamhpbfebdhjaaGreatDoor.CompMay
