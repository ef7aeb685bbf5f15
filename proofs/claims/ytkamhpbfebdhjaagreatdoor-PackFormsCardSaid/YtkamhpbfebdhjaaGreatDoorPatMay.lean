/- May a step be? The program's answer. -/
import Derived.Test.YtkamhpbfebdhjaaGreatDoorCompMay2
import Derived.Test.YtkamhpbfebdhjaaGreatDoorLumpB
namespace Go.Proofs.YtkamhpbfebdhjaaGreatDoor.PatMay
open Go.RowKit Go.Lib Go.Proofs.YtkamhpbfebdhjaaGreatDoor.Mem Go.Proofs.YtkamhpbfebdhjaaGreatDoor.Read Go.Proofs.YtkamhpbfebdhjaaGreatDoor.Tree Go.Proofs.YtkamhpbfebdhjaaGreatDoor.Data Go.Proofs.YtkamhpbfebdhjaaGreatDoor.May Go.Proofs.YtkamhpbfebdhjaaGreatDoor.CompMay Go.Proofs.YtkamhpbfebdhjaaGreatDoor.MsgR
set_option linter.unusedVariables false
set_option linter.unusedSimpArgs false
def idBad (x : Int) : Bool := !decide (idP x)
theorem idBad_lo {x : Int} (h : x < 0) : idBad x = true := by
  have : ¬ idP x := fun e => by have := e.1; omega
  simp [idBad, this]
theorem idBad_hi {x : Int} (h : ¬ x < 0) : idBad x = decide (16777216 ≤ x) := by
  by_cases h2 : 16777216 ≤ x
  · have : ¬ idP x := fun e => by have := e.2; omega
    simp [idBad, this, h2]
  · have : idP x := ⟨by omega, by omega⟩
    simp [idBad, this, h2]
theorem idNot_any (x : Int) (w : World) : Calls Tryz.prog 74 #[.int .i64 x] w fun e w' => e = .returned (.bool (idBad x)) ∧ w = w' := by
  by_cases h1 : x < 0
  · rw [idBad_lo h1]
    go_enter Tryz.func74, Tryz.ntmps74
    go_wp2
    go_ret
    exact ⟨rfl, rfl⟩
  · rw [idBad_hi h1]
    go_enter Tryz.func74, Tryz.ntmps74
    go_wp2
    go_ret
    exact ⟨rfl, rfl⟩
theorem ints_at {w : World} {xs : List Int} {A : Option Addr} {n c : Nat} (h : SlR 1 intR w xs (.slice A n c)) (k : Nat) (hk : k < xs.length) : ∃ ad, A = some ad ∧ w.cell? (ad.add k) = some (.int .i64 xs[k]) := by
  obtain ⟨A', c', he, _, _, h3⟩ := h
  injection he with he1 _ _
  subst he1
  obtain ⟨ad, cs, e, _, rfl, hc⟩ := h3 k hk
  exact ⟨ad, e, by simpa using hc 0 _ rfl⟩
theorem any_take {α : Type} (p : α → Bool) (xs : List α) : ∀ k, (h : k < xs.length) → (∀ x ∈ xs.take k, p x = false) → p xs[k] = false → ∀ x ∈ xs.take (k + 1), p x = false := by
  intro k h h1 h2 x hx
  rw [List.take_succ_eq_append_getElem h] at hx
  rcases List.mem_append.1 hx with hx | hx
  · exact h1 x hx
  · obtain rfl : x = xs[k] := by simpa using hx
    exact h2
/-- The first one of which p holds. -/
def IdxPost {α : Type} (p : α → Bool) (xs : List α) (w : World) (e : Ending) (w' : World) : Prop :=
  ∃ i : Int, e = .returned (.int .i64 i) ∧ decide (0 ≤ i) = xs.any p ∧ Step No w w'
theorem any_none {α : Type} {p : α → Bool} {xs : List α} (h : ∀ x ∈ xs, p x = false) : xs.any p = false := by
  rw [List.any_eq_false]; intro x hx; simp [h x hx]
theorem any_some {α : Type} {p : α → Bool} {xs : List α} {k : Nat} (hk : k < xs.length) (h : p xs[k] = true) : xs.any p = true := by
  rw [List.any_eq_true]; exact ⟨xs[k], List.getElem_mem hk, h⟩
set_option maxHeartbeats 1000000 in
theorem indexInts_any (ks : List Int) (v : Value) (w : World) (hx : SlR 1 intR w ks v) : Calls Tryz.prog 91 #[v, .func (.func 74) #[] #[]] w (IdxPost idBad ks w) := by
  obtain ⟨A, c, rfl, h1, h2⟩ := ints_len hx
  unfold maxLen at h2
  have HX := Lib.hid hx
  clear hx
  go_enter Tryz.func91, Tryz.ntmps91
  go_wp2
  go_loopw [5, 8] (fun _ i wr => ∃ k : Nat, k ≤ ks.length ∧ i = .int .i64 k ∧ (∀ x ∈ ks.take k, idBad x = false) ∧ Step No w wr) (fun _ i _ => ks.length - (RowKit.intOf i).toNat)
  case atStart => exact ⟨0, Nat.zero_le _, rfl, by simp, (by repeat' (first | exact Step.refl _ _ | with_reducible assumption | refine Step.drew ?_ | refine Step.drewN ?_ _ | refine Step.alloc ?_ _))⟩
  case round =>
    obtain ⟨k, hk, rfl, hF, hs⟩ := hrel
    by_cases hlt : k < ks.length
    · obtain ⟨ad, rfl, c0⟩ := ints_at (ints_to HX.out hs) k hlt
      have hi1 : (k : Int) < ks.length := by omega
      have hi0 : (0 : Int) ≤ k := by omega
      have HN := Lib.hid (any_take idBad ks k hlt hF)
      have HA := Lib.hid (any_some (p := idBad) hlt)
      generalize ks[k] = x at *
      have HhF := Lib.hid hF
      have Hhs := Lib.hid hs
      clear hF hs
      go_wp2_with fail
      refine (idNot_any x _).mono ?_
      rintro e w1 ⟨rfl, rfl⟩
      cases hb : idBad x with
      | true =>
        have HA1 := Lib.hid (HA.out hb)
        clear hb
        go_wp2
        go_ret
        exact ⟨_, rfl, by rw [HA1.out]; exact decide_eq_true hi0, Hhs.out⟩
      | false =>
        have HN1 := Lib.hid (HN.out hb)
        clear hb
        go_wp2
        go_roundw
        case rel => exact ⟨k + 1, hlt, rfl, HN1.out, Hhs.out⟩
        case measure => simp [RowKit.intOf]; omega
    · obtain rfl : k = ks.length := by omega
      rw [List.take_length] at hF
      have HA := Lib.hid (any_none hF)
      have HhF := Lib.hid hF
      have Hhs := Lib.hid hs
      clear hF hs
      go_wp2
      go_ret
      exact ⟨_, rfl, by rw [HA.out]; rfl, Hhs.out⟩
theorem containsInts_any (ks : List Int) (v : Value) (w : World) (hx : SlR 1 intR w ks v) : Calls Tryz.prog 75 #[v, .func (.func 74) #[] #[]] w fun e w' => e = .returned (.bool (ks.any idBad)) ∧ Step No w w' := by
  go_enter Tryz.func75, Tryz.ntmps75
  go_wp2_with fail
  refine (indexInts_any ks v _ hx).mono ?_
  rintro e w1 ⟨i, rfl, hi, hs⟩
  have Hhi := Lib.hid hi
  have Hhs := Lib.hid hs
  clear hi hs
  go_wp2
  go_ret
  exact ⟨ret_bool Hhi.out, Hhs.out⟩
theorem any_ids {ks : List Int} : ks.any idBad = !decide (∀ k ∈ ks, idP k) := by
  rw [Bool.eq_iff_iff, List.any_eq_true]
  simp [idBad]
theorem len_eq {n : Nat} (h : n = 0) : ((n : Int) == 0) = true := beq_iff_eq.2 (by omega)
theorem len_ne {n : Nat} (h : ¬ n = 0) : ((n : Int) == 0) = false := beq_eq_false_iff_ne.2 (by omega)
abbrev TSp : TypeId := 36
theorem new_at2 (w : World) (o o' : Obj) : ((w.alloc o).alloc o').heap[w.heap.size + 1]? = some o' := by
  have := blk_new (w.alloc o) o'
  simpa using this
theorem step_ids {i n f u : Int} {ks : List Int} (hi : idP i) (hl : ks.length ≤ 2048) (b : Bool) (h : (decide (n = 0 ∧ f = 0 ∧ u = 0) && !ks.any idBad) = b) : stepB ⟨2, i, n, f, u, ks⟩ = b := by
  rw [← h, any_ids, Bool.eq_iff_iff]
  simp only [stepB, stepP, decide_eq_true_eq, Bool.and_eq_true, Bool.not_not]
  constructor
  · rintro ⟨_, h | h | h | h⟩
    · exact absurd h.1 (by decide)
    · exact absurd h.1 (by decide)
    · exact ⟨h.2.2, h.2.1.2⟩
    · exact absurd h.1 (by decide)
  · rintro ⟨h1, h2⟩
    exact ⟨hi, .inr (.inr (.inl ⟨by trivial, ⟨hl, h2⟩, h1⟩))⟩
set_option maxHeartbeats 8000000 in
set_option maxRecDepth 100000 in
theorem step_any (s : StepD) (kv : Value) (w : World) (hx : SlR 1 intR w s.kids kv) : Calls Tryz.prog 46 #[aggS s kv] w fun e w' => e = .returned (.bool (stepB s)) ∧ Step No w w' := by
  obtain ⟨k, i, n, f, u, ks⟩ := s
  unfold aggS
  simp only at *
  obtain ⟨A, c, rfl, h1, h2⟩ := ints_len hx
  have HX := Lib.hid hx
  clear hx h1 h2
  by_cases hi : idP i
  · have hid : idBad i = false := by simp [idBad, hi]
    by_cases k0 : k = 0
    · subst k0
      by_cases q4 : ks.length = 0
      · have q4b := len_eq q4
        by_cases q3 : n = 0
        · subst q3
          by_cases q2 : f = 0
          · subst q2
            by_cases q1 : u = 0
            · subst q1
              have hm : stepB ⟨0, i, 0, 0, 0, ks⟩ = true := by simp [stepB, stepP, *] <;> omega
              rw [hm]
              clear hm
              go_enter Tryz.func46, Tryz.ntmps46
              go_wp2_with (go_at_call 74; refine (idNot_any i _).mono ?_; rintro e w' ⟨rfl, rfl⟩)
              go_ret
              exact ⟨rfl, (by repeat' (first | exact Step.refl _ _ | with_reducible assumption | refine Step.drew ?_ | refine Step.drewN ?_ _ | refine Step.alloc ?_ _))⟩
            · have q1b : (u == 0) = false := beq_eq_false_iff_ne.2 q1
              have hm : stepB ⟨0, i, 0, 0, u, ks⟩ = false := by simp [stepB, stepP, *] <;> omega
              rw [hm]
              clear hm
              go_enter Tryz.func46, Tryz.ntmps46
              go_wp2_with (go_at_call 74; refine (idNot_any i _).mono ?_; rintro e w' ⟨rfl, rfl⟩)
              go_ret
              exact ⟨rfl, (by repeat' (first | exact Step.refl _ _ | with_reducible assumption | refine Step.drew ?_ | refine Step.drewN ?_ _ | refine Step.alloc ?_ _))⟩
          · have q2b : (f == 0) = false := beq_eq_false_iff_ne.2 q2
            have hm : stepB ⟨0, i, 0, f, u, ks⟩ = false := by simp [stepB, stepP, *] <;> omega
            rw [hm]
            clear hm
            go_enter Tryz.func46, Tryz.ntmps46
            go_wp2_with (go_at_call 74; refine (idNot_any i _).mono ?_; rintro e w' ⟨rfl, rfl⟩)
            go_ret
            exact ⟨rfl, (by repeat' (first | exact Step.refl _ _ | with_reducible assumption | refine Step.drew ?_ | refine Step.drewN ?_ _ | refine Step.alloc ?_ _))⟩
        · have q3b : (n == 0) = false := beq_eq_false_iff_ne.2 q3
          have hm : stepB ⟨0, i, n, f, u, ks⟩ = false := by simp [stepB, stepP, *] <;> omega
          rw [hm]
          clear hm
          go_enter Tryz.func46, Tryz.ntmps46
          go_wp2_with (go_at_call 74; refine (idNot_any i _).mono ?_; rintro e w' ⟨rfl, rfl⟩)
          go_ret
          exact ⟨rfl, (by repeat' (first | exact Step.refl _ _ | with_reducible assumption | refine Step.drew ?_ | refine Step.drewN ?_ _ | refine Step.alloc ?_ _))⟩
      · have q4b := len_ne q4
        have hm : stepB ⟨0, i, n, f, u, ks⟩ = false := by simp [stepB, stepP, *] <;> omega
        rw [hm]
        clear hm
        go_enter Tryz.func46, Tryz.ntmps46
        go_wp2_with (go_at_call 74; refine (idNot_any i _).mono ?_; rintro e w' ⟨rfl, rfl⟩)
        go_ret
        exact ⟨rfl, (by repeat' (first | exact Step.refl _ _ | with_reducible assumption | refine Step.drew ?_ | refine Step.drewN ?_ _ | refine Step.alloc ?_ _))⟩
    · have k0b : (k == 0) = false := beq_eq_false_iff_ne.2 k0
      by_cases k1 : k = 1
      · subst k1
        by_cases q5 : ks.length = 0
        · have q5b := len_eq q5
          by_cases q4 : 0 ≤ n
          · have q4b : decide (0 ≤ n) = true := decide_eq_true q4
            by_cases q3 : n ≤ 7
            · have q3b : decide (n ≤ 7) = true := decide_eq_true q3
              by_cases q2 : f = 0
              · subst q2
                by_cases q1 : u = 0
                · subst q1
                  have hm : stepB ⟨1, i, n, 0, 0, ks⟩ = true := by simp [stepB, stepP, *] <;> omega
                  rw [hm]
                  clear hm
                  go_enter Tryz.func46, Tryz.ntmps46
                  go_wp2_with (go_at_call 74; refine (idNot_any i _).mono ?_; rintro e w' ⟨rfl, rfl⟩)
                  go_ret
                  exact ⟨rfl, (by repeat' (first | exact Step.refl _ _ | with_reducible assumption | refine Step.drew ?_ | refine Step.drewN ?_ _ | refine Step.alloc ?_ _))⟩
                · have q1b : (u == 0) = false := beq_eq_false_iff_ne.2 q1
                  have hm : stepB ⟨1, i, n, 0, u, ks⟩ = false := by simp [stepB, stepP, *] <;> omega
                  rw [hm]
                  clear hm
                  go_enter Tryz.func46, Tryz.ntmps46
                  go_wp2_with (go_at_call 74; refine (idNot_any i _).mono ?_; rintro e w' ⟨rfl, rfl⟩)
                  go_ret
                  exact ⟨rfl, (by repeat' (first | exact Step.refl _ _ | with_reducible assumption | refine Step.drew ?_ | refine Step.drewN ?_ _ | refine Step.alloc ?_ _))⟩
              · have q2b : (f == 0) = false := beq_eq_false_iff_ne.2 q2
                have hm : stepB ⟨1, i, n, f, u, ks⟩ = false := by simp [stepB, stepP, *] <;> omega
                rw [hm]
                clear hm
                go_enter Tryz.func46, Tryz.ntmps46
                go_wp2_with (go_at_call 74; refine (idNot_any i _).mono ?_; rintro e w' ⟨rfl, rfl⟩)
                go_ret
                exact ⟨rfl, (by repeat' (first | exact Step.refl _ _ | with_reducible assumption | refine Step.drew ?_ | refine Step.drewN ?_ _ | refine Step.alloc ?_ _))⟩
            · have q3b : decide (n ≤ 7) = false := decide_eq_false q3
              have hm : stepB ⟨1, i, n, f, u, ks⟩ = false := by simp [stepB, stepP, *] <;> omega
              rw [hm]
              clear hm
              go_enter Tryz.func46, Tryz.ntmps46
              go_wp2_with (go_at_call 74; refine (idNot_any i _).mono ?_; rintro e w' ⟨rfl, rfl⟩)
              go_ret
              exact ⟨rfl, (by repeat' (first | exact Step.refl _ _ | with_reducible assumption | refine Step.drew ?_ | refine Step.drewN ?_ _ | refine Step.alloc ?_ _))⟩
          · have q4b : decide (0 ≤ n) = false := decide_eq_false q4
            have hm : stepB ⟨1, i, n, f, u, ks⟩ = false := by simp [stepB, stepP, *] <;> omega
            rw [hm]
            clear hm
            go_enter Tryz.func46, Tryz.ntmps46
            go_wp2_with (go_at_call 74; refine (idNot_any i _).mono ?_; rintro e w' ⟨rfl, rfl⟩)
            go_ret
            exact ⟨rfl, (by repeat' (first | exact Step.refl _ _ | with_reducible assumption | refine Step.drew ?_ | refine Step.drewN ?_ _ | refine Step.alloc ?_ _))⟩
        · have q5b := len_ne q5
          have hm : stepB ⟨1, i, n, f, u, ks⟩ = false := by simp [stepB, stepP, *] <;> omega
          rw [hm]
          clear hm
          go_enter Tryz.func46, Tryz.ntmps46
          go_wp2_with (go_at_call 74; refine (idNot_any i _).mono ?_; rintro e w' ⟨rfl, rfl⟩)
          go_ret
          exact ⟨rfl, (by repeat' (first | exact Step.refl _ _ | with_reducible assumption | refine Step.drew ?_ | refine Step.drewN ?_ _ | refine Step.alloc ?_ _))⟩
      · have k1b : (k == 1) = false := beq_eq_false_iff_ne.2 k1
        by_cases k2 : k = 2
        · subst k2
          by_cases q5 : ks.length ≤ 2048
          · have q5b : decide ((ks.length : Int) ≤ 2048) = true := decide_eq_true (by omega)
            by_cases q4 : ∀ k ∈ ks, idP k
            · have q4b : Hid (ks.any idBad = false) := Lib.hid (by rw [any_ids, decide_eq_true q4]; rfl)
              have HK := Lib.hid q4
              clear q4
              by_cases q3 : n = 0
              · subst q3
                by_cases q2 : f = 0
                · subst q2
                  by_cases q1 : u = 0
                  · subst q1
                    have HM : Hid (stepB ⟨2, i, 0, 0, 0, ks⟩ = true) := Lib.hid (step_ids hi (by assumption) true (by rw [q4b.out]; simp [*]))
                    rw [HM.out]
                    clear HM
                    go_enter Tryz.func46, Tryz.ntmps46
                    go_wp2_with fail
                    refine (idNot_any i _).mono ?_
                    rintro e w' ⟨rfl, rfl⟩
                    go_wp2_with fail
                    refine (containsInts_any ks _ _ (ints_to HX.out (by repeat' (first | exact Step.refl _ _ | with_reducible assumption | refine Step.drew ?_ | refine Step.drewN ?_ _ | refine Step.alloc ?_ _)))).mono ?_
                    rintro e w1 ⟨rfl, hs1⟩
                    rw [q4b.out]
                    have e2 := hs1.cell (show ((w.alloc (.cells #[.int .i64 2, .int .i64 i, .int .i64 0, .int .i64 0, .int .i64 0, .slice A ks.length c] TSp)).alloc (.cells #[.int .i64 2, .int .i64 i, .int .i64 0, .int .i64 0, .int .i64 0, .slice none 0 0] TSp)).cell? ⟨w.heap.size + 1, 2, none⟩ = _ from blk_cell (new_at2 w _ _) 2) (fun f => f)
                    have e3 := hs1.cell (show ((w.alloc (.cells #[.int .i64 2, .int .i64 i, .int .i64 0, .int .i64 0, .int .i64 0, .slice A ks.length c] TSp)).alloc (.cells #[.int .i64 2, .int .i64 i, .int .i64 0, .int .i64 0, .int .i64 0, .slice none 0 0] TSp)).cell? ⟨w.heap.size + 1, 3, none⟩ = _ from blk_cell (new_at2 w _ _) 3) (fun f => f)
                    have e4 := hs1.cell (show ((w.alloc (.cells #[.int .i64 2, .int .i64 i, .int .i64 0, .int .i64 0, .int .i64 0, .slice A ks.length c] TSp)).alloc (.cells #[.int .i64 2, .int .i64 i, .int .i64 0, .int .i64 0, .int .i64 0, .slice none 0 0] TSp)).cell? ⟨w.heap.size + 1, 4, none⟩ = _ from blk_cell (new_at2 w _ _) 4) (fun f => f)
                    simp at e2 e3 e4
                    have Hhs1 := Lib.hid hs1
                    clear hs1
                    go_wp2
                    go_ret
                    exact ⟨rfl, Step.trans (F := No) (G := No) (by repeat' (first | exact Step.refl _ _ | with_reducible assumption | refine Step.drew ?_ | refine Step.drewN ?_ _ | refine Step.alloc ?_ _)) Hhs1.out (fun _ f _ => f)⟩
                  · have q1b : (u == 0) = false := beq_eq_false_iff_ne.2 q1
                    have HM : Hid (stepB ⟨2, i, 0, 0, u, ks⟩ = false) := Lib.hid (step_ids hi (by assumption) false (by rw [q4b.out]; simp [*]))
                    rw [HM.out]
                    clear HM
                    go_enter Tryz.func46, Tryz.ntmps46
                    go_wp2_with fail
                    refine (idNot_any i _).mono ?_
                    rintro e w' ⟨rfl, rfl⟩
                    go_wp2_with fail
                    refine (containsInts_any ks _ _ (ints_to HX.out (by repeat' (first | exact Step.refl _ _ | with_reducible assumption | refine Step.drew ?_ | refine Step.drewN ?_ _ | refine Step.alloc ?_ _)))).mono ?_
                    rintro e w1 ⟨rfl, hs1⟩
                    rw [q4b.out]
                    have e2 := hs1.cell (show ((w.alloc (.cells #[.int .i64 2, .int .i64 i, .int .i64 0, .int .i64 0, .int .i64 u, .slice A ks.length c] TSp)).alloc (.cells #[.int .i64 2, .int .i64 i, .int .i64 0, .int .i64 0, .int .i64 u, .slice none 0 0] TSp)).cell? ⟨w.heap.size + 1, 2, none⟩ = _ from blk_cell (new_at2 w _ _) 2) (fun f => f)
                    have e3 := hs1.cell (show ((w.alloc (.cells #[.int .i64 2, .int .i64 i, .int .i64 0, .int .i64 0, .int .i64 u, .slice A ks.length c] TSp)).alloc (.cells #[.int .i64 2, .int .i64 i, .int .i64 0, .int .i64 0, .int .i64 u, .slice none 0 0] TSp)).cell? ⟨w.heap.size + 1, 3, none⟩ = _ from blk_cell (new_at2 w _ _) 3) (fun f => f)
                    have e4 := hs1.cell (show ((w.alloc (.cells #[.int .i64 2, .int .i64 i, .int .i64 0, .int .i64 0, .int .i64 u, .slice A ks.length c] TSp)).alloc (.cells #[.int .i64 2, .int .i64 i, .int .i64 0, .int .i64 0, .int .i64 u, .slice none 0 0] TSp)).cell? ⟨w.heap.size + 1, 4, none⟩ = _ from blk_cell (new_at2 w _ _) 4) (fun f => f)
                    simp at e2 e3 e4
                    have Hhs1 := Lib.hid hs1
                    clear hs1
                    go_wp2
                    go_ret
                    exact ⟨rfl, Step.trans (F := No) (G := No) (by repeat' (first | exact Step.refl _ _ | with_reducible assumption | refine Step.drew ?_ | refine Step.drewN ?_ _ | refine Step.alloc ?_ _)) Hhs1.out (fun _ f _ => f)⟩
                · have q2b : (f == 0) = false := beq_eq_false_iff_ne.2 q2
                  have HM : Hid (stepB ⟨2, i, 0, f, u, ks⟩ = false) := Lib.hid (step_ids hi (by assumption) false (by rw [q4b.out]; simp [*]))
                  rw [HM.out]
                  clear HM
                  go_enter Tryz.func46, Tryz.ntmps46
                  go_wp2_with fail
                  refine (idNot_any i _).mono ?_
                  rintro e w' ⟨rfl, rfl⟩
                  go_wp2_with fail
                  refine (containsInts_any ks _ _ (ints_to HX.out (by repeat' (first | exact Step.refl _ _ | with_reducible assumption | refine Step.drew ?_ | refine Step.drewN ?_ _ | refine Step.alloc ?_ _)))).mono ?_
                  rintro e w1 ⟨rfl, hs1⟩
                  rw [q4b.out]
                  have e2 := hs1.cell (show ((w.alloc (.cells #[.int .i64 2, .int .i64 i, .int .i64 0, .int .i64 f, .int .i64 u, .slice A ks.length c] TSp)).alloc (.cells #[.int .i64 2, .int .i64 i, .int .i64 0, .int .i64 f, .int .i64 u, .slice none 0 0] TSp)).cell? ⟨w.heap.size + 1, 2, none⟩ = _ from blk_cell (new_at2 w _ _) 2) (fun f => f)
                  have e3 := hs1.cell (show ((w.alloc (.cells #[.int .i64 2, .int .i64 i, .int .i64 0, .int .i64 f, .int .i64 u, .slice A ks.length c] TSp)).alloc (.cells #[.int .i64 2, .int .i64 i, .int .i64 0, .int .i64 f, .int .i64 u, .slice none 0 0] TSp)).cell? ⟨w.heap.size + 1, 3, none⟩ = _ from blk_cell (new_at2 w _ _) 3) (fun f => f)
                  have e4 := hs1.cell (show ((w.alloc (.cells #[.int .i64 2, .int .i64 i, .int .i64 0, .int .i64 f, .int .i64 u, .slice A ks.length c] TSp)).alloc (.cells #[.int .i64 2, .int .i64 i, .int .i64 0, .int .i64 f, .int .i64 u, .slice none 0 0] TSp)).cell? ⟨w.heap.size + 1, 4, none⟩ = _ from blk_cell (new_at2 w _ _) 4) (fun f => f)
                  simp at e2 e3 e4
                  have Hhs1 := Lib.hid hs1
                  clear hs1
                  go_wp2
                  go_ret
                  exact ⟨rfl, Step.trans (F := No) (G := No) (by repeat' (first | exact Step.refl _ _ | with_reducible assumption | refine Step.drew ?_ | refine Step.drewN ?_ _ | refine Step.alloc ?_ _)) Hhs1.out (fun _ f _ => f)⟩
              · have q3b : (n == 0) = false := beq_eq_false_iff_ne.2 q3
                have HM : Hid (stepB ⟨2, i, n, f, u, ks⟩ = false) := Lib.hid (step_ids hi (by assumption) false (by rw [q4b.out]; simp [*]))
                rw [HM.out]
                clear HM
                go_enter Tryz.func46, Tryz.ntmps46
                go_wp2_with fail
                refine (idNot_any i _).mono ?_
                rintro e w' ⟨rfl, rfl⟩
                go_wp2_with fail
                refine (containsInts_any ks _ _ (ints_to HX.out (by repeat' (first | exact Step.refl _ _ | with_reducible assumption | refine Step.drew ?_ | refine Step.drewN ?_ _ | refine Step.alloc ?_ _)))).mono ?_
                rintro e w1 ⟨rfl, hs1⟩
                rw [q4b.out]
                have e2 := hs1.cell (show ((w.alloc (.cells #[.int .i64 2, .int .i64 i, .int .i64 n, .int .i64 f, .int .i64 u, .slice A ks.length c] TSp)).alloc (.cells #[.int .i64 2, .int .i64 i, .int .i64 n, .int .i64 f, .int .i64 u, .slice none 0 0] TSp)).cell? ⟨w.heap.size + 1, 2, none⟩ = _ from blk_cell (new_at2 w _ _) 2) (fun f => f)
                have e3 := hs1.cell (show ((w.alloc (.cells #[.int .i64 2, .int .i64 i, .int .i64 n, .int .i64 f, .int .i64 u, .slice A ks.length c] TSp)).alloc (.cells #[.int .i64 2, .int .i64 i, .int .i64 n, .int .i64 f, .int .i64 u, .slice none 0 0] TSp)).cell? ⟨w.heap.size + 1, 3, none⟩ = _ from blk_cell (new_at2 w _ _) 3) (fun f => f)
                have e4 := hs1.cell (show ((w.alloc (.cells #[.int .i64 2, .int .i64 i, .int .i64 n, .int .i64 f, .int .i64 u, .slice A ks.length c] TSp)).alloc (.cells #[.int .i64 2, .int .i64 i, .int .i64 n, .int .i64 f, .int .i64 u, .slice none 0 0] TSp)).cell? ⟨w.heap.size + 1, 4, none⟩ = _ from blk_cell (new_at2 w _ _) 4) (fun f => f)
                simp at e2 e3 e4
                have Hhs1 := Lib.hid hs1
                clear hs1
                go_wp2
                go_ret
                exact ⟨rfl, Step.trans (F := No) (G := No) (by repeat' (first | exact Step.refl _ _ | with_reducible assumption | refine Step.drew ?_ | refine Step.drewN ?_ _ | refine Step.alloc ?_ _)) Hhs1.out (fun _ f _ => f)⟩
            · have q4b : Hid (ks.any idBad = true) := Lib.hid (by rw [any_ids, decide_eq_false q4]; rfl)
              have HK := Lib.hid q4
              clear q4
              have HM : Hid (stepB ⟨2, i, n, f, u, ks⟩ = false) := Lib.hid (step_ids hi (by assumption) false (by rw [q4b.out]; simp [*]))
              rw [HM.out]
              clear HM
              go_enter Tryz.func46, Tryz.ntmps46
              go_wp2_with fail
              refine (idNot_any i _).mono ?_
              rintro e w' ⟨rfl, rfl⟩
              go_wp2_with fail
              refine (containsInts_any ks _ _ (ints_to HX.out (by repeat' (first | exact Step.refl _ _ | with_reducible assumption | refine Step.drew ?_ | refine Step.drewN ?_ _ | refine Step.alloc ?_ _)))).mono ?_
              rintro e w1 ⟨rfl, hs1⟩
              rw [q4b.out]
              have e2 := hs1.cell (show ((w.alloc (.cells #[.int .i64 2, .int .i64 i, .int .i64 n, .int .i64 f, .int .i64 u, .slice A ks.length c] TSp)).alloc (.cells #[.int .i64 2, .int .i64 i, .int .i64 n, .int .i64 f, .int .i64 u, .slice none 0 0] TSp)).cell? ⟨w.heap.size + 1, 2, none⟩ = _ from blk_cell (new_at2 w _ _) 2) (fun f => f)
              have e3 := hs1.cell (show ((w.alloc (.cells #[.int .i64 2, .int .i64 i, .int .i64 n, .int .i64 f, .int .i64 u, .slice A ks.length c] TSp)).alloc (.cells #[.int .i64 2, .int .i64 i, .int .i64 n, .int .i64 f, .int .i64 u, .slice none 0 0] TSp)).cell? ⟨w.heap.size + 1, 3, none⟩ = _ from blk_cell (new_at2 w _ _) 3) (fun f => f)
              have e4 := hs1.cell (show ((w.alloc (.cells #[.int .i64 2, .int .i64 i, .int .i64 n, .int .i64 f, .int .i64 u, .slice A ks.length c] TSp)).alloc (.cells #[.int .i64 2, .int .i64 i, .int .i64 n, .int .i64 f, .int .i64 u, .slice none 0 0] TSp)).cell? ⟨w.heap.size + 1, 4, none⟩ = _ from blk_cell (new_at2 w _ _) 4) (fun f => f)
              simp at e2 e3 e4
              have Hhs1 := Lib.hid hs1
              clear hs1
              go_wp2
              go_ret
              exact ⟨rfl, Step.trans (F := No) (G := No) (by repeat' (first | exact Step.refl _ _ | with_reducible assumption | refine Step.drew ?_ | refine Step.drewN ?_ _ | refine Step.alloc ?_ _)) Hhs1.out (fun _ f _ => f)⟩
          · have q5b : decide ((ks.length : Int) ≤ 2048) = false := decide_eq_false (by omega)
            have hm : stepB ⟨2, i, n, f, u, ks⟩ = false := by simp [stepB, stepP, *] <;> omega
            rw [hm]
            clear hm
            go_enter Tryz.func46, Tryz.ntmps46
            go_wp2_with (go_at_call 74; refine (idNot_any i _).mono ?_; rintro e w' ⟨rfl, rfl⟩)
            go_ret
            exact ⟨rfl, (by repeat' (first | exact Step.refl _ _ | with_reducible assumption | refine Step.drew ?_ | refine Step.drewN ?_ _ | refine Step.alloc ?_ _))⟩
        · have k2b : (k == 2) = false := beq_eq_false_iff_ne.2 k2
          by_cases k3 : k = 3
          · subst k3
            by_cases q5 : ks.length = 0
            · have q5b := len_eq q5
              by_cases q4 : 0 ≤ f
              · have q4b : decide (0 ≤ f) = true := decide_eq_true q4
                by_cases q3 : f ≤ u
                · have q3b : decide (f ≤ u) = true := decide_eq_true q3
                  by_cases q2 : u ≤ 4096
                  · have q2b : decide (u ≤ 4096) = true := decide_eq_true q2
                    by_cases q1 : n = 0
                    · subst q1
                      have hm : stepB ⟨3, i, 0, f, u, ks⟩ = true := by simp [stepB, stepP, *] <;> omega
                      rw [hm]
                      clear hm
                      go_enter Tryz.func46, Tryz.ntmps46
                      go_wp2_with (go_at_call 74; refine (idNot_any i _).mono ?_; rintro e w' ⟨rfl, rfl⟩)
                      go_ret
                      exact ⟨rfl, (by repeat' (first | exact Step.refl _ _ | with_reducible assumption | refine Step.drew ?_ | refine Step.drewN ?_ _ | refine Step.alloc ?_ _))⟩
                    · have q1b : (n == 0) = false := beq_eq_false_iff_ne.2 q1
                      have hm : stepB ⟨3, i, n, f, u, ks⟩ = false := by simp [stepB, stepP, *] <;> omega
                      rw [hm]
                      clear hm
                      go_enter Tryz.func46, Tryz.ntmps46
                      go_wp2_with (go_at_call 74; refine (idNot_any i _).mono ?_; rintro e w' ⟨rfl, rfl⟩)
                      go_ret
                      exact ⟨rfl, (by repeat' (first | exact Step.refl _ _ | with_reducible assumption | refine Step.drew ?_ | refine Step.drewN ?_ _ | refine Step.alloc ?_ _))⟩
                  · have q2b : decide (u ≤ 4096) = false := decide_eq_false q2
                    have hm : stepB ⟨3, i, n, f, u, ks⟩ = false := by simp [stepB, stepP, *] <;> omega
                    rw [hm]
                    clear hm
                    go_enter Tryz.func46, Tryz.ntmps46
                    go_wp2_with (go_at_call 74; refine (idNot_any i _).mono ?_; rintro e w' ⟨rfl, rfl⟩)
                    go_ret
                    exact ⟨rfl, (by repeat' (first | exact Step.refl _ _ | with_reducible assumption | refine Step.drew ?_ | refine Step.drewN ?_ _ | refine Step.alloc ?_ _))⟩
                · have q3b : decide (f ≤ u) = false := decide_eq_false q3
                  have hm : stepB ⟨3, i, n, f, u, ks⟩ = false := by simp [stepB, stepP, *] <;> omega
                  rw [hm]
                  clear hm
                  go_enter Tryz.func46, Tryz.ntmps46
                  go_wp2_with (go_at_call 74; refine (idNot_any i _).mono ?_; rintro e w' ⟨rfl, rfl⟩)
                  go_ret
                  exact ⟨rfl, (by repeat' (first | exact Step.refl _ _ | with_reducible assumption | refine Step.drew ?_ | refine Step.drewN ?_ _ | refine Step.alloc ?_ _))⟩
              · have q4b : decide (0 ≤ f) = false := decide_eq_false q4
                have hm : stepB ⟨3, i, n, f, u, ks⟩ = false := by simp [stepB, stepP, *] <;> omega
                rw [hm]
                clear hm
                go_enter Tryz.func46, Tryz.ntmps46
                go_wp2_with (go_at_call 74; refine (idNot_any i _).mono ?_; rintro e w' ⟨rfl, rfl⟩)
                go_ret
                exact ⟨rfl, (by repeat' (first | exact Step.refl _ _ | with_reducible assumption | refine Step.drew ?_ | refine Step.drewN ?_ _ | refine Step.alloc ?_ _))⟩
            · have q5b := len_ne q5
              have hm : stepB ⟨3, i, n, f, u, ks⟩ = false := by simp [stepB, stepP, *] <;> omega
              rw [hm]
              clear hm
              go_enter Tryz.func46, Tryz.ntmps46
              go_wp2_with (go_at_call 74; refine (idNot_any i _).mono ?_; rintro e w' ⟨rfl, rfl⟩)
              go_ret
              exact ⟨rfl, (by repeat' (first | exact Step.refl _ _ | with_reducible assumption | refine Step.drew ?_ | refine Step.drewN ?_ _ | refine Step.alloc ?_ _))⟩
          · have k3b : (k == 3) = false := beq_eq_false_iff_ne.2 k3
            have hm : stepB ⟨k, i, n, f, u, ks⟩ = false := by simp [stepB, stepP, *] <;> omega
            rw [hm]
            clear hm
            go_enter Tryz.func46, Tryz.ntmps46
            go_wp2_with (go_at_call 74; refine (idNot_any i _).mono ?_; rintro e w' ⟨rfl, rfl⟩)
            go_ret
            exact ⟨rfl, (by repeat' (first | exact Step.refl _ _ | with_reducible assumption | refine Step.drew ?_ | refine Step.drewN ?_ _ | refine Step.alloc ?_ _))⟩
  · have hid : idBad i = true := by simp [idBad, hi]
    by_cases k0 : k = 0
    · subst k0
      have hm : stepB ⟨0, i, n, f, u, ks⟩ = false := by simp [stepB, stepP, *] <;> omega
      rw [hm]
      clear hm
      go_enter Tryz.func46, Tryz.ntmps46
      go_wp2_with (go_at_call 74; refine (idNot_any i _).mono ?_; rintro e w' ⟨rfl, rfl⟩)
      go_ret
      exact ⟨rfl, (by repeat' (first | exact Step.refl _ _ | with_reducible assumption | refine Step.drew ?_ | refine Step.drewN ?_ _ | refine Step.alloc ?_ _))⟩
    · have k0b : (k == 0) = false := beq_eq_false_iff_ne.2 k0
      by_cases k1 : k = 1
      · subst k1
        have hm : stepB ⟨1, i, n, f, u, ks⟩ = false := by simp [stepB, stepP, *] <;> omega
        rw [hm]
        clear hm
        go_enter Tryz.func46, Tryz.ntmps46
        go_wp2_with (go_at_call 74; refine (idNot_any i _).mono ?_; rintro e w' ⟨rfl, rfl⟩)
        go_ret
        exact ⟨rfl, (by repeat' (first | exact Step.refl _ _ | with_reducible assumption | refine Step.drew ?_ | refine Step.drewN ?_ _ | refine Step.alloc ?_ _))⟩
      · have k1b : (k == 1) = false := beq_eq_false_iff_ne.2 k1
        by_cases k2 : k = 2
        · subst k2
          have hm : stepB ⟨2, i, n, f, u, ks⟩ = false := by simp [stepB, stepP, *] <;> omega
          rw [hm]
          clear hm
          go_enter Tryz.func46, Tryz.ntmps46
          go_wp2_with (go_at_call 74; refine (idNot_any i _).mono ?_; rintro e w' ⟨rfl, rfl⟩)
          go_ret
          exact ⟨rfl, (by repeat' (first | exact Step.refl _ _ | with_reducible assumption | refine Step.drew ?_ | refine Step.drewN ?_ _ | refine Step.alloc ?_ _))⟩
        · have k2b : (k == 2) = false := beq_eq_false_iff_ne.2 k2
          by_cases k3 : k = 3
          · subst k3
            have hm : stepB ⟨3, i, n, f, u, ks⟩ = false := by simp [stepB, stepP, *] <;> omega
            rw [hm]
            clear hm
            go_enter Tryz.func46, Tryz.ntmps46
            go_wp2_with (go_at_call 74; refine (idNot_any i _).mono ?_; rintro e w' ⟨rfl, rfl⟩)
            go_ret
            exact ⟨rfl, (by repeat' (first | exact Step.refl _ _ | with_reducible assumption | refine Step.drew ?_ | refine Step.drewN ?_ _ | refine Step.alloc ?_ _))⟩
          · have k3b : (k == 3) = false := beq_eq_false_iff_ne.2 k3
            have hm : stepB ⟨k, i, n, f, u, ks⟩ = false := by simp [stepB, stepP, *] <;> omega
            rw [hm]
            clear hm
            go_enter Tryz.func46, Tryz.ntmps46
            go_wp2_with (go_at_call 74; refine (idNot_any i _).mono ?_; rintro e w' ⟨rfl, rfl⟩)
            go_ret
            exact ⟨rfl, (by repeat' (first | exact Step.refl _ _ | with_reducible assumption | refine Step.drew ?_ | refine Step.drewN ?_ _ | refine Step.alloc ?_ _))⟩
end Go.Proofs.YtkamhpbfebdhjaaGreatDoor.PatMay
