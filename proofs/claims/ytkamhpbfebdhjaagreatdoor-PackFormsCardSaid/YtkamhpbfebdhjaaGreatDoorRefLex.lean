/- The document's tokens: its functions on bytes, digits, numbers, quotes, remarks. -/
import Derived.Test.YtkamhpbfebdhjaaGreatDoorLexS
import Derived.Test.YtkamhpbfebdhjaaGreatDoorTr
import Derived.IntWalk
namespace Go.Proofs.YtkamhpbfebdhjaaGreatDoor.RefLex
open Go.RowKit Go.Lib Go.Proofs.YtkamhpbfebdhjaaGreatDoor.Mem Go.Proofs.YtkamhpbfebdhjaaGreatDoor.Read Go.Proofs.YtkamhpbfebdhjaaGreatDoor.Tree Go.Proofs.YtkamhpbfebdhjaaGreatDoor.Data Go.Proofs.YtkamhpbfebdhjaaGreatDoor.OwnR Go.Proofs.YtkamhpbfebdhjaaGreatDoor.Tr Go.Proofs.YtkamhpbfebdhjaaGreatDoor.ParS Go.Proofs.YtkamhpbfebdhjaaGreatDoor.LexS
set_option linter.unusedVariables false
set_option linter.unusedSimpArgs false
theorem digit_any (b : UInt8) (w : World) : Calls Tryz.prog 88 #[.int .u8 (b.toNat : Int)] w fun e w' => e = .returned (.bool (isDigit b)) ∧ w = w' := by
  have H : Hid (isDigit b = (decide (48 ≤ b.toNat) && decide (b.toNat ≤ 57))) := Lib.hid rfl
  by_cases h1 : 48 ≤ b.toNat
  · by_cases h2 : b.toNat ≤ 57
    · go_enter Tryz.func88, Tryz.ntmps88
      go_wp2
      go_ret
      exact ⟨by rw [H.out]; simp [h1, h2] <;> omega, rfl⟩
    · go_enter Tryz.func88, Tryz.ntmps88
      go_wp2
      go_ret
      exact ⟨by rw [H.out]; simp [h1, h2] <;> omega, rfl⟩
  · go_enter Tryz.func88, Tryz.ntmps88
    go_wp2
    go_ret
    exact ⟨by rw [H.out]; simp [h1], rfl⟩
theorem byte_eq (b : UInt8) (n : Nat) (m : Int) (hm : m = n) (hn : n < 256) : ((b.toNat : Int) == m) = (b == UInt8.ofNat n) := by
  subst hm
  rw [Bool.eq_iff_iff, beq_iff_eq, beq_iff_eq, ← UInt8.toNat_inj, UInt8.toNat_ofNat']
  omega
theorem blank_any (b : UInt8) (w : World) : Calls Tryz.prog 67 #[.int .u8 (b.toNat : Int)] w fun e w' => e = .returned (.bool (isBlank b)) ∧ w = w' := by
  have e1 := byte_eq b 32 32 rfl (by decide)
  have e2 := byte_eq b 9 9 rfl (by decide)
  have e3 := byte_eq b 10 10 rfl (by decide)
  have e4 := byte_eq b 13 13 rfl (by decide)
  have H : Hid (isBlank b = (b == 32 || b == 9 || b == 10 || b == 13)) := Lib.hid rfl
  have key : ∀ c1 c2 c3 c4 : Bool, (b == UInt8.ofNat 32) = c1 → (b == UInt8.ofNat 9) = c2 → (b == UInt8.ofNat 10) = c3 → (b == UInt8.ofNat 13) = c4 → Calls Tryz.prog 67 #[.int .u8 (b.toNat : Int)] w fun e w' => e = .returned (.bool (c1 || c2 || c3 || c4)) ∧ w = w' := by
    intro c1 c2 c3 c4 h1 h2 h3 h4
    rw [h1] at e1
    rw [h2] at e2
    rw [h3] at e3
    rw [h4] at e4
    clear h1 h2 h3 h4 H
    go_enter Tryz.func67, Tryz.ntmps67
    cases c1
    · cases c2
      · cases c3
        · go_wp2
          go_ret
          exact ⟨rfl, rfl⟩
        · go_wp2
          go_ret
          exact ⟨rfl, rfl⟩
      · go_wp2
        go_ret
        exact ⟨rfl, rfl⟩
    · go_wp2
      go_ret
      exact ⟨rfl, rfl⟩
  rw [H.out]
  exact key _ _ _ _ rfl rfl rfl rfl
theorem letter_any (b : UInt8) (w : World) : Calls Tryz.prog 70 #[.int .u8 (b.toNat : Int)] w fun e w' => e = .returned (.bool (isLetter b)) ∧ w = w' := by
  have e1 := byte_eq b 95 95 rfl (by decide)
  have H : Hid (isLetter b = ((decide (97 ≤ b.toNat) && decide (b.toNat ≤ 122)) || (decide (65 ≤ b.toNat) && decide (b.toNat ≤ 90)) || b == 95)) := Lib.hid rfl
  by_cases h1 : 97 ≤ b.toNat ∧ b.toNat ≤ 122
  · obtain ⟨h1, h2⟩ := h1
    go_enter Tryz.func70, Tryz.ntmps70
    go_wp2
    go_ret
    exact ⟨by rw [H.out]; simp [h1, h2], rfl⟩
  · by_cases h2 : 65 ≤ b.toNat ∧ b.toNat ≤ 90
    · obtain ⟨h2, h3⟩ := h2
      have h4 : ¬ 97 ≤ b.toNat := by omega
      go_enter Tryz.func70, Tryz.ntmps70
      go_wp2
      go_ret
      exact ⟨by rw [H.out]; simp [h2, h3], rfl⟩
    · have key : ∀ c : Bool, (b == UInt8.ofNat 95) = c → Calls Tryz.prog 70 #[.int .u8 (b.toNat : Int)] w fun e w' => e = .returned (.bool c) ∧ w = w' := by
        intro c hc
        rw [hc] at e1
        clear hc H
        go_enter Tryz.func70, Tryz.ntmps70
        by_cases h3 : 97 ≤ b.toNat
        · have h4 : ¬ b.toNat ≤ 122 := by omega
          have h5 : 65 ≤ b.toNat := by omega
          have h6 : ¬ b.toNat ≤ 90 := by omega
          cases c <;> (go_wp2; go_ret; first | exact ⟨rfl, rfl⟩ | exact ⟨by simp <;> omega, rfl⟩)
        · by_cases h5 : 65 ≤ b.toNat
          · have h6 : ¬ b.toNat ≤ 90 := by omega
            cases c <;> (go_wp2; go_ret; first | exact ⟨rfl, rfl⟩ | exact ⟨by simp <;> omega, rfl⟩)
          · cases c <;> (go_wp2; go_ret; first | exact ⟨rfl, rfl⟩ | exact ⟨by simp <;> omega, rfl⟩)
      have hH : isLetter b = (b == UInt8.ofNat 95) := by
        rw [H.out]
        have a1 : (decide (97 ≤ b.toNat) && decide (b.toNat ≤ 122)) = false := by rw [Bool.and_eq_false_iff, decide_eq_false_iff_not, decide_eq_false_iff_not]; omega
        have a2 : (decide (65 ≤ b.toNat) && decide (b.toNat ≤ 90)) = false := by rw [Bool.and_eq_false_iff, decide_eq_false_iff_not, decide_eq_false_iff_not]; omega
        rw [a1, a2]
        rfl
      rw [hH]
      exact key _ rfl
theorem digits_any (S : ByteArray) (hS : S.size ≤ 140737488355328) (z : Nat) (hz : z ≤ S.size) (w : World) : Calls Tryz.prog 89 #[.string S, .int .i64 (z : Nat)] w fun e w' => e = .returned (.int .i64 (spanTo isDigit S z : Nat)) ∧ w = w' := by
  go_enter Tryz.func89, Tryz.ntmps89
  go_wp2
  go_loopw [1] (fun i wr => ∃ k : Nat, k ≤ S.size ∧ i = .int .i64 k ∧ Hid (spanTo isDigit S k = spanTo isDigit S z) ∧ w = wr) (fun i _ => S.size - (RowKit.intOf i).toNat)
  case atStart => exact ⟨z, hz, rfl, Lib.hid rfl, rfl⟩
  case round =>
    obtain ⟨k, hk, rfl, hsp, rfl⟩ := hrel
    by_cases hlt : k < S.size
    · have hb := Lib.hid (bt_at S k hlt)
      go_wp2_with fail
      refine (digit_any _ _).mono ?_
      rintro e w' ⟨rfl, rfl⟩
      by_cases hd : isDigit S[k] = true
      · go_wp2
        go_roundw
        case rel => exact ⟨k + 1, hlt, by go_num, Lib.hid ((span_step hlt (by rw [hb.out]; exact hd)).symm.trans hsp.out), by first | rfl | trivial⟩
        case measure => simp [RowKit.intOf]; omega
      · have hd' : isDigit S[k] = false := by simpa using hd
        have HE : Hid (spanTo isDigit S z = k) := Lib.hid (hsp.out.symm.trans (span_stop (.inr (by rw [hb.out]; exact hd'))))
        go_wp2
        go_ret
        exact ⟨by rw [HE.out]; rfl, rfl⟩
    · have HE : Hid (spanTo isDigit S z = k) := Lib.hid (hsp.out.symm.trans (span_stop (.inl (by omega))))
      go_wp2
      go_ret
      exact ⟨by rw [HE.out]; rfl, rfl⟩
theorem bt_yes {S : ByteArray} {q : Nat} (hq : q < S.size) {n : Nat} (h : bt S q = UInt8.ofNat n) (m : Int) (hm : m = n) (hn : n < 256) : (((S[q]'hq).toNat : Int) == m) = true := by
  rw [byte_eq _ n m hm hn, ← bt_at S q hq, h]
  simp
theorem bt_no {S : ByteArray} {q : Nat} (hq : q < S.size) {n : Nat} (h : ¬ bt S q = UInt8.ofNat n) (m : Int) (hm : m = n) (hn : n < 256) : (((S[q]'hq).toNat : Int) == m) = false := by
  rw [byte_eq _ n m hm hn, ← bt_at S q hq]
  simpa using h
theorem bt_ne {S : ByteArray} {q : Nat} (hq : q < S.size) {m : Int} {b : Bool} (h : (((S[q]'hq).toNat : Int) == m) = b) : (((S[q]'hq).toNat : Int) != m) = !b := by
  rw [bne, h]
theorem num2_if {S : ByteArray} {t b : Nat} {c : Bool} (h : (decide (t + 1 < S.size ∧ bt S t = 46 ∧ isDigit (bt S (t + 1)) = true)) = c) : num2 S t = if c = true then spanTo isDigit S (t + 1) else t := by
  subst h
  unfold num2
  simp only [decide_eq_true_eq]
theorem num3_if {S : ByteArray} {t : Nat} {c : Bool} (h : (decide (t < S.size ∧ (bt S t = 43 ∨ bt S t = 45))) = c) : num3 S t = if c = true then t + 1 else t := by
  subst h
  unfold num3
  simp only [decide_eq_true_eq]
set_option maxHeartbeats 1000000 in
set_option maxRecDepth 100000 in
theorem number_any (S : ByteArray) (hS : S.size ≤ 140737488355328) (z : Nat) (hz : z < S.size) (w : World) : Calls Tryz.prog 71 #[.string S, .int .i64 (z : Nat)] w fun e w' => e = .returned (.int .i64 (numberS S z : Nat)) ∧ w = w' := by
  go_enter Tryz.func71, Tryz.ntmps71
  go_upto_if 12 with (fail)
  go_cut [5] (fun s wx => s = .int .i64 (num0 S z : Nat) ∧ w = wx)
  case first =>
    by_cases h : bt S z = 45
    · have e := bt_yes hz (n := 45) h 45 rfl (by decide)
      have H : Hid (num0 S z = z + 1) := Lib.hid (if_pos h)
      clear h
      go_wp2
      go_meet
      exact ⟨by rw [H.out]; go_num, rfl⟩
    · have e := bt_no hz (n := 45) h 45 rfl (by decide)
      have H : Hid (num0 S z = z) := Lib.hid (if_neg h)
      clear h
      go_wp2
      go_meet
      exact ⟨by rw [H.out], rfl⟩
  case rest =>
    obtain ⟨rfl, rfl⟩ := hcut
    have hi : num0 S z ≤ S.size := by unfold num0; split <;> omega
    have HF : Hid (∀ i, num0 S z = i → numberS S z = if i < S.size ∧ isDigit (bt S i) = true then num4 S (num2 S (num1 S i)) else z) := Lib.hid fun i h => by subst h; rfl
    obtain ⟨i, hie⟩ : ∃ i, num0 S z = i := ⟨_, rfl⟩
    rw [hie] at hi ⊢
    have HF := Lib.hid (HF.out i hie)
    clear hie
    by_cases hlt : i < S.size
    · have hb := Lib.hid (bt_at S i hlt)
      go_wp2_with fail
      refine (digit_any _ _).mono ?_
      rintro e w' ⟨rfl, rfl⟩
      by_cases hd : isDigit S[i] = true
      · have HF := Lib.hid (HF.out.trans (if_pos ⟨hlt, by rw [hb.out]; exact hd⟩))
        go_upto_if 32 with (fail)
        go_cut [6] (fun s wx => s = .int .i64 (num1 S i : Nat) ∧ w = wx)
        case first =>
          by_cases h : bt S i = 48
          · have e : ((S[i].toNat : Int) != 48) = false := bt_ne hlt (bt_yes hlt (n := 48) h 48 rfl (by decide))
            have H : Hid (num1 S i = i + 1) := Lib.hid (if_pos h)
            clear h
            go_wp2
            go_meet
            exact ⟨by rw [H.out]; go_num, rfl⟩
          · have e : ((S[i].toNat : Int) != 48) = true := bt_ne hlt (bt_no hlt (n := 48) h 48 rfl (by decide))
            have H : Hid (num1 S i = spanTo isDigit S i) := Lib.hid (if_neg h)
            clear h
            go_wp2_with fail
            refine (digits_any S hS _ (Nat.le_of_lt hlt) _).mono ?_
            rintro e w' ⟨rfl, rfl⟩
            go_wp2
            go_meet
            exact ⟨by rw [H.out], rfl⟩
        case rest =>
          obtain ⟨rfl, rfl⟩ := hcut
          have hi1 := num1_le hlt
          generalize num1 S i = t1 at *
          clear hb hd
          go_upto_region 9 with (fail)
          obtain ⟨c2, hc2⟩ : ∃ c2, (decide (t1 + 1 < S.size ∧ bt S t1 = 46 ∧ isDigit (bt S (t1 + 1)) = true)) = c2 := ⟨_, rfl⟩
          have HC := Lib.hid hc2
          clear hc2
          go_cut [53] (fun s wx => s = .bool c2 ∧ w = wx)
          case first =>
            by_cases h1 : t1 + 1 < S.size
            · have h1' : t1 < S.size := by omega
              by_cases h2 : bt S t1 = 46
              · have e := bt_yes h1' (n := 46) h2 46 rfl (by decide)
                have hb := Lib.hid (bt_at S (t1 + 1) h1)
                have H : Hid (c2 = isDigit (bt S (t1 + 1))) := Lib.hid (by rw [← HC.out, Bool.eq_iff_iff, decide_eq_true_eq]; exact ⟨fun hh => hh.2.2, fun hh => ⟨h1, h2, hh⟩⟩)
                clear h2
                go_wp2_with fail
                refine (digit_any _ _).mono ?_
                rintro e w' ⟨rfl, rfl⟩
                rw [← hb.out, ← H.out]
                go_wp2
                go_meet
                exact ⟨rfl, rfl⟩
              · have e := bt_no h1' (n := 46) h2 46 rfl (by decide)
                have H : Hid (c2 = false) := Lib.hid (by rw [← HC.out, decide_eq_false_iff_not]; exact fun hh => h2 hh.2.1)
                clear h2
                go_wp2
                go_meet
                exact ⟨by rw [H.out], rfl⟩
            · have H : Hid (c2 = false) := Lib.hid (by rw [← HC.out, decide_eq_false_iff_not]; exact fun hh => h1 hh.1)
              go_wp2
              go_meet
              exact ⟨by rw [H.out], rfl⟩
          case rest =>
            obtain ⟨rfl, rfl⟩ := hcut
            have H2 := Lib.hid (num2_if (b := 0) HC.out)
            have hi2 := num2_le hi1.2
            have hc1 : c2 = true → t1 + 1 ≤ S.size := fun e => by rw [← HC.out] at e; have := (of_decide_eq_true e).1; omega
            generalize num2 S t1 = t2 at *
            clear HC
            go_upto_if 53 with (fail)
            go_cut [6] (fun s wx => s = .int .i64 (t2 : Nat) ∧ w = wx)
            case first =>
              cases c2
              · have Hn : Hid (t2 = t1) := Lib.hid (by have := H2.out; simpa using this)
                clear hc1
                go_wp2
                go_meet
                exact ⟨by rw [Hn.out], rfl⟩
              · have Hn : Hid (t2 = spanTo isDigit S (t1 + 1)) := Lib.hid (by have := H2.out; simpa using this)
                have hcn : t1 + 1 ≤ S.size := by first | exact hc1 trivial | exact hc1 rfl
                clear H2 hc1
                go_wp2_with fail
                refine (digits_any S hS (t1 + 1) hcn _).mono ?_
                rintro e w' ⟨rfl, rfl⟩
                go_wp2
                go_meet
                exact ⟨by rw [Hn.out], rfl⟩
            case rest =>
            obtain ⟨rfl, rfl⟩ := hcut
            clear H2 hc1
            by_cases h1 : t2 < S.size
            · by_cases h2 : bt S t2 = 101
              · have e := bt_yes h1 (n := 101) h2 101 rfl (by decide)
                have HF := Lib.hid (HF.out.trans (if_pos ⟨h1, .inl h2⟩))
                clear h2
                go_upto_region 13 with (fail)
                obtain ⟨c3, hc3⟩ : ∃ c3, (decide (t2 + 1 < S.size ∧ (bt S (t2 + 1) = 43 ∨ bt S (t2 + 1) = 45))) = c3 := ⟨_, rfl⟩
                have HC := Lib.hid hc3
                clear hc3
                go_cut [91] (fun s wx => s = .bool c3 ∧ w = wx)
                case first =>
                  by_cases g1 : t2 + 1 < S.size
                  · by_cases g2 : bt S (t2 + 1) = 43
                    · have e3 := bt_yes g1 (n := 43) g2 43 rfl (by decide)
                      have H : Hid (c3 = true) := Lib.hid (by rw [← HC.out, decide_eq_true_eq]; exact ⟨g1, .inl g2⟩)
                      clear g2
                      go_wp2
                      go_meet
                      exact ⟨by rw [H.out], rfl⟩
                    · have e3 := bt_no g1 (n := 43) g2 43 rfl (by decide)
                      by_cases g3 : bt S (t2 + 1) = 45
                      · have e4 := bt_yes g1 (n := 45) g3 45 rfl (by decide)
                        have H : Hid (c3 = true) := Lib.hid (by rw [← HC.out, decide_eq_true_eq]; exact ⟨g1, .inr g3⟩)
                        clear g2 g3
                        go_wp2
                        go_meet
                        exact ⟨by rw [H.out], rfl⟩
                      · have e4 := bt_no g1 (n := 45) g3 45 rfl (by decide)
                        have H : Hid (c3 = false) := Lib.hid (by rw [← HC.out, decide_eq_false_iff_not]; exact fun hh => hh.2.elim g2 g3)
                        clear g2 g3
                        go_wp2
                        go_meet
                        exact ⟨by rw [H.out], rfl⟩
                  · have H : Hid (c3 = false) := Lib.hid (by rw [← HC.out, decide_eq_false_iff_not]; exact fun hh => g1 hh.1)
                    go_wp2
                    go_meet
                    exact ⟨by rw [H.out], rfl⟩
                case rest =>
                  obtain ⟨rfl, rfl⟩ := hcut
                  have H3 := Lib.hid (num3_if HC.out)
                  have hi3 := num3_le (S := S) (i := t2 + 1) (by omega)
                  generalize num3 S (t2 + 1) = t3 at *
                  clear HC
                  go_upto_if 91 with (fail)
                  go_cut [7] (fun s wx => s = .int .i64 (t3 : Nat) ∧ w = wx)
                  case first =>
                    cases c3
                    · have Hn : Hid (t3 = t2 + 1) := Lib.hid (by have := H3.out; simpa using this)
                      go_wp2
                      go_meet
                      exact ⟨by rw [Hn.out]; go_num, rfl⟩
                    · have Hn : Hid (t3 = t2 + 1 + 1) := Lib.hid (by have := H3.out; simpa using this)
                      go_wp2
                      go_meet
                      exact ⟨by rw [Hn.out]; go_num, rfl⟩
                  case rest =>
                    obtain ⟨rfl, rfl⟩ := hcut
                    clear H3
                    by_cases g1 : t3 < S.size
                    · have hb := Lib.hid (bt_at S t3 g1)
                      by_cases g2 : isDigit (bt S t3) = true
                      · have HF := Lib.hid (HF.out.trans (if_pos ⟨g1, g2⟩))
                        have H3 := Lib.hid g2
                        clear g2
                        go_wp2_with fail
                        refine (digit_any _ _).mono ?_
                        rintro e w' ⟨rfl, rfl⟩
                        rw [← hb.out, H3.out]
                        go_wp2_with fail
                        refine (digits_any S hS t3 (by omega) _).mono ?_
                        rintro e w' ⟨rfl, rfl⟩
                        go_wp2
                        go_ret
                        exact ⟨by rw [HF.out]; rfl, rfl⟩
                      · have HF := Lib.hid (HF.out.trans (if_neg (fun hh => g2 hh.2)))
                        have H3 : Hid (isDigit (bt S t3) = false) := Lib.hid (by simpa using g2)
                        clear g2
                        go_wp2_with fail
                        refine (digit_any _ _).mono ?_
                        rintro e w' ⟨rfl, rfl⟩
                        rw [← hb.out, H3.out]
                        go_wp2
                        go_ret
                        exact ⟨by rw [HF.out]; rfl, rfl⟩
                    · have HF := Lib.hid (HF.out.trans (if_neg (fun hh => g1 hh.1)))
                      go_wp2
                      go_ret
                      exact ⟨by rw [HF.out]; rfl, rfl⟩
              · have e := bt_no h1 (n := 101) h2 101 rfl (by decide)
                by_cases h3 : bt S t2 = 69
                · have e2 := bt_yes h1 (n := 69) h3 69 rfl (by decide)
                  have HF := Lib.hid (HF.out.trans (if_pos ⟨h1, .inr h3⟩))
                  clear h2 h3
                  go_upto_region 13 with (fail)
                  obtain ⟨c3, hc3⟩ : ∃ c3, (decide (t2 + 1 < S.size ∧ (bt S (t2 + 1) = 43 ∨ bt S (t2 + 1) = 45))) = c3 := ⟨_, rfl⟩
                  have HC := Lib.hid hc3
                  clear hc3
                  go_cut [91] (fun s wx => s = .bool c3 ∧ w = wx)
                  case first =>
                    by_cases g1 : t2 + 1 < S.size
                    · by_cases g2 : bt S (t2 + 1) = 43
                      · have e3 := bt_yes g1 (n := 43) g2 43 rfl (by decide)
                        have H : Hid (c3 = true) := Lib.hid (by rw [← HC.out, decide_eq_true_eq]; exact ⟨g1, .inl g2⟩)
                        clear g2
                        go_wp2
                        go_meet
                        exact ⟨by rw [H.out], rfl⟩
                      · have e3 := bt_no g1 (n := 43) g2 43 rfl (by decide)
                        by_cases g3 : bt S (t2 + 1) = 45
                        · have e4 := bt_yes g1 (n := 45) g3 45 rfl (by decide)
                          have H : Hid (c3 = true) := Lib.hid (by rw [← HC.out, decide_eq_true_eq]; exact ⟨g1, .inr g3⟩)
                          clear g2 g3
                          go_wp2
                          go_meet
                          exact ⟨by rw [H.out], rfl⟩
                        · have e4 := bt_no g1 (n := 45) g3 45 rfl (by decide)
                          have H : Hid (c3 = false) := Lib.hid (by rw [← HC.out, decide_eq_false_iff_not]; exact fun hh => hh.2.elim g2 g3)
                          clear g2 g3
                          go_wp2
                          go_meet
                          exact ⟨by rw [H.out], rfl⟩
                    · have H : Hid (c3 = false) := Lib.hid (by rw [← HC.out, decide_eq_false_iff_not]; exact fun hh => g1 hh.1)
                      go_wp2
                      go_meet
                      exact ⟨by rw [H.out], rfl⟩
                  case rest =>
                    obtain ⟨rfl, rfl⟩ := hcut
                    have H3 := Lib.hid (num3_if HC.out)
                    have hi3 := num3_le (S := S) (i := t2 + 1) (by omega)
                    generalize num3 S (t2 + 1) = t3 at *
                    clear HC
                    go_upto_if 91 with (fail)
                    go_cut [7] (fun s wx => s = .int .i64 (t3 : Nat) ∧ w = wx)
                    case first =>
                      cases c3
                      · have Hn : Hid (t3 = t2 + 1) := Lib.hid (by have := H3.out; simpa using this)
                        go_wp2
                        go_meet
                        exact ⟨by rw [Hn.out]; go_num, rfl⟩
                      · have Hn : Hid (t3 = t2 + 1 + 1) := Lib.hid (by have := H3.out; simpa using this)
                        go_wp2
                        go_meet
                        exact ⟨by rw [Hn.out]; go_num, rfl⟩
                    case rest =>
                      obtain ⟨rfl, rfl⟩ := hcut
                      clear H3
                      by_cases g1 : t3 < S.size
                      · have hb := Lib.hid (bt_at S t3 g1)
                        by_cases g2 : isDigit (bt S t3) = true
                        · have HF := Lib.hid (HF.out.trans (if_pos ⟨g1, g2⟩))
                          have H3 := Lib.hid g2
                          clear g2
                          go_wp2_with fail
                          refine (digit_any _ _).mono ?_
                          rintro e w' ⟨rfl, rfl⟩
                          rw [← hb.out, H3.out]
                          go_wp2_with fail
                          refine (digits_any S hS t3 (by omega) _).mono ?_
                          rintro e w' ⟨rfl, rfl⟩
                          go_wp2
                          go_ret
                          exact ⟨by rw [HF.out]; rfl, rfl⟩
                        · have HF := Lib.hid (HF.out.trans (if_neg (fun hh => g2 hh.2)))
                          have H3 : Hid (isDigit (bt S t3) = false) := Lib.hid (by simpa using g2)
                          clear g2
                          go_wp2_with fail
                          refine (digit_any _ _).mono ?_
                          rintro e w' ⟨rfl, rfl⟩
                          rw [← hb.out, H3.out]
                          go_wp2
                          go_ret
                          exact ⟨by rw [HF.out]; rfl, rfl⟩
                      · have HF := Lib.hid (HF.out.trans (if_neg (fun hh => g1 hh.1)))
                        go_wp2
                        go_ret
                        exact ⟨by rw [HF.out]; rfl, rfl⟩
                · have e2 := bt_no h1 (n := 69) h3 69 rfl (by decide)
                  have HF := Lib.hid (HF.out.trans (if_neg (fun hh => hh.2.elim h2 h3)))
                  clear h2 h3
                  go_wp2
                  go_ret
                  exact ⟨by rw [HF.out]; rfl, rfl⟩
            · have HF := Lib.hid (HF.out.trans (if_neg (fun hh => h1 hh.1)))
              go_wp2
              go_ret
              exact ⟨by rw [HF.out]; rfl, rfl⟩
      · have hd' : isDigit S[i] = false := by simpa using hd
        have HF := Lib.hid (HF.out.trans (if_neg (fun h => hd (by rw [← hb.out]; exact h.2))))
        go_wp2
        go_ret
        exact ⟨by rw [HF.out]; rfl, rfl⟩
    · have HF := Lib.hid (HF.out.trans (if_neg (fun h => hlt h.1)))
      go_wp2
      go_ret
      exact ⟨by rw [HF.out]; rfl, rfl⟩
end Go.Proofs.YtkamhpbfebdhjaaGreatDoor.RefLex
