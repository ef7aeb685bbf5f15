/- The laws on queues. -/
import Derived.Test.YtmhnnkifkbamoaaRefQ3
import Derived.Test.YtmhnnkifkbamoaaRead
namespace Go.Proofs.Ytmhnnkifkbamoaa.QLaw
open Go.RowKit Go.Proofs.Ytmhnnkifkbamoaa.Mem Go.Proofs.Ytmhnnkifkbamoaa.Read Go.Proofs.Ytmhnnkifkbamoaa.NetQ Go.Proofs.Ytmhnnkifkbamoaa.RefQ
set_option linter.unusedVariables false
set_option linter.unusedSimpArgs false

theorem num_any (n : Int) (w : World) : Calls Try.prog 23 #[.int .i64 n] w fun e w' => e = .returned (.int .i64 n) ∧ w = w' := by
  go_enter Try.func23, Try.ntmps23
  go_wp2
  go_ret
  exact ⟨rfl, rfl⟩
theorem str_eq {a b : ByteArray} : (a.toList == b.toList) = decide (a = b) := by
  rw [Bool.eq_iff_iff, beq_iff_eq, decide_eq_true_eq, ByteArray.toList_eq, ByteArray.toList_eq]
  exact ⟨fun e => ByteArray.ext (Array.toList_inj.1 e), fun e => by rw [e]⟩
abbrev StrS (w : World) (xs : List ByteArray) (v : Value) : Prop := SlR 1 strR w xs v
theorem strS_step {w w' : World} {xs : List ByteArray} {v : Value} (h : StrS w xs v) (hs : Step No w w') : StrS w' xs v := SlR.step (w' := w') h (fun _ _ h => h) hs
theorem str_cell {w : World} {xs : List ByteArray} {A : Option Addr} {n c : Nat} (h : StrS w xs (.slice A n c)) (k : Nat) (hk : k < xs.length) : ∃ ad, A = some ad ∧ w.cell? (ad.add k) = some (.string xs[k]) := by
  obtain ⟨A', c', he, _, _, h3⟩ := h
  injection he with he1 _ _
  subst he1
  obtain ⟨ad, cs, e, _, ⟨rfl, _⟩, hc⟩ := h3 k hk
  exact ⟨ad, e, by simpa using hc 0 _ rfl⟩
theorem sl_len {α : Type} {sz : Nat} {R : World → α → List Value → Prop} {w : World} {xs : List α} {v : Value} (h : SlR sz R w xs v) : ∃ A c, v = .slice A xs.length c ∧ xs.length ≤ c ∧ c ≤ maxLen := by
  obtain ⟨A, c, h1, h2, h3, _⟩ := h
  exact ⟨A, c, h1, h2, h3⟩
set_option maxHeartbeats 400000 in
theorem sameTexts_any (w : World) (xs ys : List ByteArray) (a b : Value) (ha : StrS w xs a) (hb : StrS w ys b) :
    Calls Try.prog 28 #[a, b] w fun e w' => e = .returned (.bool (decide (xs = ys))) ∧ Step No w w' := by
  obtain ⟨A, c, rfl, h1, h2⟩ := sl_len ha
  obtain ⟨B, d, rfl, h3, h4⟩ := sl_len hb
  unfold maxLen at h2 h4
  have HA := Lib.hid ha
  have HB := Lib.hid hb
  clear ha hb
  by_cases hl : xs.length = ys.length
  · have hne : ((xs.length : Int) != (ys.length : Int)) = false := by rw [hl]; exact bne_self_eq_false _
    have hne' : (xs.length != ys.length) = false := by rw [hl]; exact bne_self_eq_false _
    have HL := Lib.hid hl
    clear hl
    go_enter Try.func28, Try.ntmps28
    go_wp2
    go_loopw [5] (fun i wr => ∃ k : Nat, k ≤ xs.length ∧ i = .int .i64 k ∧ Step No w wr ∧ ∀ j, j < k → xs[j]? = ys[j]?) (fun i _ => xs.length - (intOf i).toNat)
    case atStart => exact ⟨0, Nat.zero_le _, rfl, Step.refl _ _, fun j h => absurd h (Nat.not_lt_zero _)⟩
    case round =>
      obtain ⟨k, hk, rfl, hs, he⟩ := hrel
      by_cases hlt : k < xs.length
      · have hlt2 : k < ys.length := by rw [← HL.out]; exact hlt
        obtain ⟨p, rfl, c1⟩ := str_cell HA.out k hlt
        obtain ⟨q, rfl, c2⟩ := str_cell HB.out k hlt2
        have c3 := hs.cell c1 (fun f => f)
        have c4 := hs.cell c2 (fun f => f)
        have hi1 : (k : Int) < xs.length := by omega
        have hi2 : (k : Int) < ys.length := by omega
        have hi0 : (0 : Int) ≤ k := by omega
        have HX : Hid (xs[k]? = some xs[k]) := Lib.hid (List.getElem?_eq_getElem hlt)
        have HY : Hid (ys[k]? = some ys[k]) := Lib.hid (List.getElem?_eq_getElem hlt2)
        clear c1 c2
        generalize xs[k] = s at *
        generalize ys[k] = t at *
        have hse := @str_eq s t
        have Hhe := Lib.hid he
        have Hhs := Lib.hid hs
        clear he hs
        by_cases hst : s = t
        · have hb : (s.toList == t.toList) = true := by rw [hse]; exact decide_eq_true hst
          clear hse
          have Hhst := Lib.hid hst
          clear hst
          go_wp2
          go_quiet (fail)
          go_wp2
          go_roundw
          case rel => exact ⟨k + 1, hlt, rfl, Hhs.out.drewN _, fun j hj => by
              rcases Nat.lt_succ_iff_lt_or_eq.1 hj with h | rfl
              · exact Hhe.out j h
              · rw [HX.out, HY.out, Hhst.out]⟩
          case measure => simp [intOf]; omega
        · have hb : (s.toList == t.toList) = false := by rw [hse]; exact decide_eq_false hst
          have HF : Hid (decide (xs = ys) = false) := Lib.hid (decide_eq_false (fun e => hst (by have := HX.out; rw [e, HY.out] at this; injection this with this; exact this.symm)))
          clear hse hst
          go_wp2
          go_quiet (fail)
          go_wp2
          go_ret
          exact ⟨by rw [HF.out]; rfl, Hhs.out.drewN _⟩
      · have hke : k = xs.length := by omega
        subst hke
        have HT : Hid (decide (xs = ys) = true) := Lib.hid (decide_eq_true (by
          apply List.ext_getElem?
          intro j
          by_cases hj : j < xs.length
          · exact he j hj
          · rw [List.getElem?_eq_none (by omega), List.getElem?_eq_none (by rw [← HL.out]; omega)]))
        have Hhe := Lib.hid he
        have Hhs := Lib.hid hs
        clear he hs
        go_wp2
        go_ret
        exact ⟨by rw [HT.out]; rfl, Hhs.out⟩
  · have hne : ((xs.length : Int) != (ys.length : Int)) = true := by rw [bne_iff_ne]; omega
    have hne' : (xs.length != ys.length) = true := by rw [bne_iff_ne]; exact hl
    have hd : decide (xs = ys) = false := decide_eq_false (fun e => hl (by rw [e]))
    rw [hd]
    clear hd hl
    go_enter Try.func28, Try.ntmps28
    go_wp2
    go_ret
    exact ⟨rfl, (by repeat' (first | exact Step.refl _ _ | with_reducible assumption | refine Step.drew ?_ | refine Step.drewN ?_ _ | refine Step.alloc ?_ _))⟩
end Go.Proofs.Ytmhnnkifkbamoaa.QLaw
