/- The document's tokens: texts in quotes, remarks. -/
import Derived.Test.YtkamhpbfebdhjaaGreatDoorRefLex
namespace Go.Proofs.YtkamhpbfebdhjaaGreatDoor.RefLex2
open Go.RowKit Go.Lib Go.Proofs.YtkamhpbfebdhjaaGreatDoor.Mem Go.Proofs.YtkamhpbfebdhjaaGreatDoor.Read Go.Proofs.YtkamhpbfebdhjaaGreatDoor.Tree Go.Proofs.YtkamhpbfebdhjaaGreatDoor.Data Go.Proofs.YtkamhpbfebdhjaaGreatDoor.OwnR Go.Proofs.YtkamhpbfebdhjaaGreatDoor.Tr Go.Proofs.YtkamhpbfebdhjaaGreatDoor.ParS Go.Proofs.YtkamhpbfebdhjaaGreatDoor.LexS Go.Proofs.YtkamhpbfebdhjaaGreatDoor.RefLex
set_option linter.unusedVariables false
set_option linter.unusedSimpArgs false
/-- Where a search stands: its rounds left. -/
theorem quote_go {S : ByteArray} {k f : Nat} {r : Nat × Bool} (hf : S.size < k + f) (h : quoteF S f k = r) (hk : k < S.size) : ∃ g, f = g + 1 ∧ S.size < k + 1 + g ∧ r = (if bt S k ≠ 10 then (if bt S k = 34 then (k + 1, true) else if bt S k = 92 ∧ k + 1 < S.size ∧ bt S (k + 1) ≠ 10 then quoteF S g (k + 2) else quoteF S g (k + 1)) else (k, false)) := by
  obtain ⟨g, rfl⟩ : ∃ g, f = g + 1 := ⟨f - 1, by omega⟩
  refine ⟨g, rfl, by omega, ?_⟩
  rw [← h]
  simp only [quoteF, hk, true_and]
theorem quote_end {S : ByteArray} {k f : Nat} {r : Nat × Bool} (h : quoteF S f k = r) (hk : ¬ k < S.size) : r = (k, false) := by
  rw [← h]
  cases f with
  | zero => rfl
  | succ f => simp only [quoteF]; rw [if_neg (fun hh => hk hh.1)]
set_option maxHeartbeats 1000000 in
theorem quoted_any (S : ByteArray) (hS : S.size ≤ 140737488355328) (z : Nat) (hz : z < S.size) (w : World) : Calls Tryz.prog 68 #[.string S, .int .i64 (z : Nat)] w fun e w' => e = .returned (.tuple #[.int .i64 ((quoteS S z).1 : Nat), .bool (quoteS S z).2]) ∧ w = w' := by
  obtain ⟨r, hr⟩ : ∃ r, quoteS S z = r := ⟨_, rfl⟩
  rw [hr]
  have HR := Lib.hid hr
  clear hr
  go_enter Tryz.func68, Tryz.ntmps68
  go_wp2
  go_loopw [6] (fun i wr => ∃ k f : Nat, z < k ∧ k ≤ S.size ∧ S.size < k + f ∧ i = .int .i64 k ∧ Hid (quoteF S f k = r) ∧ w = wr) (fun i _ => S.size - (RowKit.intOf i).toNat)
  case atStart => exact ⟨z + 1, S.size, by omega, by omega, by omega, by go_num, HR, rfl⟩
  case round =>
    obtain ⟨k, f, hzk, hk, hf, rfl, hq, rfl⟩ := hrel
    by_cases hlt : k < S.size
    · obtain ⟨g, rfl, hg, hq⟩ := quote_go hf hq.out hlt
      by_cases h10 : bt S k = 10
      · have hn : ((S[k].toNat : Int) != 10) = false := bt_ne hlt (bt_yes hlt (n := 10) h10 10 rfl (by decide))
        have HE : Hid (r = (k, false)) := Lib.hid (by rw [hq, if_neg (by simpa using h10)])
        clear hq h10
        go_wp2
        go_ret2
        exact ⟨by rw [HE.out]; rfl, rfl⟩
      · have hn : ((S[k].toNat : Int) != 10) = true := bt_ne hlt (bt_no hlt (n := 10) h10 10 rfl (by decide))
        rw [if_pos h10] at hq
        by_cases h34 : bt S k = 34
        · have e := bt_yes hlt (n := 34) h34 34 rfl (by decide)
          have HE : Hid (r = (k + 1, true)) := Lib.hid (by rw [hq, if_pos h34])
          clear hq h10 h34
          go_wp2
          go_ret2
          exact ⟨by rw [HE.out]; rfl, rfl⟩
        · have e := bt_no hlt (n := 34) h34 34 rfl (by decide)
          rw [if_neg h34] at hq
          by_cases h92 : bt S k = 92
          · have e2 := bt_yes hlt (n := 92) h92 92 rfl (by decide)
            by_cases hl2 : k + 1 < S.size
            · by_cases h2 : bt S (k + 1) = 10
              · have e3 : ((S[k + 1].toNat : Int) != 10) = false := bt_ne hl2 (bt_yes hl2 (n := 10) h2 10 rfl (by decide))
                have HE : Hid (quoteF S g (k + 1) = r) := Lib.hid (by rw [hq, if_neg (fun hh => hh.2.2 h2)])
                clear hq h10 h34 h92 h2
                go_wp2
                go_roundw
                case rel => exact ⟨k + 1, g, by omega, by omega, by omega, by go_num, HE, by first | rfl | trivial⟩
                case measure => simp [RowKit.intOf]; omega
              · have e3 : ((S[k + 1].toNat : Int) != 10) = true := bt_ne hl2 (bt_no hl2 (n := 10) h2 10 rfl (by decide))
                have HE : Hid (quoteF S g (k + 2) = r) := Lib.hid (by rw [hq, if_pos ⟨h92, hl2, h2⟩])
                clear hq h10 h34 h92 h2
                go_wp2
                go_roundw
                case rel => exact ⟨k + 2, g, by omega, by omega, by omega, by go_num, HE, by first | rfl | trivial⟩
                case measure => simp [RowKit.intOf]; omega
            · have HE : Hid (quoteF S g (k + 1) = r) := Lib.hid (by rw [hq, if_neg (fun hh => hl2 hh.2.1)])
              clear hq h10 h34 h92
              go_wp2
              go_roundw
              case rel => exact ⟨k + 1, g, by omega, by omega, by omega, by go_num, HE, by first | rfl | trivial⟩
              case measure => simp [RowKit.intOf]; omega
          · have e2 := bt_no hlt (n := 92) h92 92 rfl (by decide)
            have HE : Hid (quoteF S g (k + 1) = r) := Lib.hid (by rw [hq, if_neg (fun hh => h92 hh.1)])
            clear hq h10 h34 h92
            go_wp2
            go_roundw
            case rel => exact ⟨k + 1, g, by omega, by omega, by omega, by go_num, HE, by first | rfl | trivial⟩
            case measure => simp [RowKit.intOf]; omega
    · have HE : Hid (r = (k, false)) := Lib.hid (quote_end hq.out hlt)
      clear hq
      go_wp2
      go_ret2
      exact ⟨by rw [HE.out]; rfl, rfl⟩
theorem star_go {S : ByteArray} {k f : Nat} {r : Nat × Bool} (hf : S.size < k + f) (h : starF S f k = r) (hk : k + 1 < S.size) : ∃ g, f = g + 1 ∧ S.size < k + 1 + g ∧ r = (if bt S k = 42 ∧ bt S (k + 1) = 47 then (k + 2, true) else starF S g (k + 1)) := by
  obtain ⟨g, rfl⟩ : ∃ g, f = g + 1 := ⟨f - 1, by omega⟩
  refine ⟨g, rfl, by omega, ?_⟩
  rw [← h]
  simp only [starF]
  rw [if_pos hk]
theorem star_end {S : ByteArray} {k f : Nat} {r : Nat × Bool} (h : starF S f k = r) (hk : ¬ k + 1 < S.size) : r = (S.size, false) := by
  rw [← h]
  cases f with
  | zero => rfl
  | succ f => simp only [starF]; rw [if_neg hk]
theorem notNL_at {S : ByteArray} {k : Nat} {c : Bool} (h : notNL (bt S k) = c) (hk : k < S.size) : (((S[k]'hk).toNat : Int) != 10) = c := by
  rw [← h]
  unfold notNL
  rw [bne, bne, byte_eq _ 10 10 rfl (by decide), ← bt_at S k hk]
  rfl
set_option maxHeartbeats 1000000 in
theorem remark_any (S : ByteArray) (hS : S.size ≤ 140737488355328) (z : Nat) (hz : z < S.size) (w : World) : Calls Tryz.prog 69 #[.string S, .int .i64 (z : Nat)] w fun e w' => e = .returned (.tuple #[.int .i64 ((remarkS S z).1 : Nat), .bool (remarkS S z).2]) ∧ w = w' := by
  obtain ⟨r, hr⟩ : ∃ r, remarkS S z = r := ⟨_, rfl⟩
  rw [hr]
  unfold remarkS at hr
  by_cases hl : z + 1 < S.size
  · by_cases h47 : bt S (z + 1) = 47
    · have e := bt_yes hl (n := 47) h47 47 rfl (by decide)
      rw [if_pos ⟨hl, h47⟩] at hr
      have HR := Lib.hid hr
      clear hr h47
      go_enter Tryz.func69, Tryz.ntmps69
      go_wp2
      go_loopw [6] (fun i wr => ∃ k : Nat, k ≤ S.size ∧ i = .int .i64 k ∧ Hid (spanTo notNL S k = spanTo notNL S z) ∧ w = wr) (fun i _ => S.size - (RowKit.intOf i).toNat)
      case atStart => exact ⟨z, Nat.le_of_lt hz, rfl, Lib.hid rfl, rfl⟩
      case round =>
        obtain ⟨k, hk, rfl, hsp, rfl⟩ := hrel
        by_cases hlt : k < S.size
        · by_cases hn : notNL (bt S k) = true
          · have e3 := notNL_at hn hlt
            have HE := Lib.hid ((span_step hlt hn).symm.trans hsp.out)
            clear hn
            go_wp2
            go_roundw
            case rel => exact ⟨k + 1, hlt, by go_num, HE, by first | rfl | trivial⟩
            case measure => simp [RowKit.intOf]; omega
          · have hn' : notNL (bt S k) = false := by simpa using hn
            have e3 := notNL_at hn' hlt
            have HE : Hid (r = (k, true)) := Lib.hid (by rw [← HR.out, ← hsp.out, span_stop (.inr hn')])
            clear hn hn'
            go_wp2
            go_ret2
            exact ⟨by rw [HE.out]; rfl, rfl⟩
        · have HE : Hid (r = (k, true)) := Lib.hid (by rw [← HR.out, ← hsp.out, span_stop (.inl (by omega))])
          go_wp2
          go_ret2
          exact ⟨by rw [HE.out]; rfl, rfl⟩
    · have e := bt_no hl (n := 47) h47 47 rfl (by decide)
      rw [if_neg (fun hh => h47 hh.2)] at hr
      by_cases h42 : bt S (z + 1) = 42
      · have e2 := bt_yes hl (n := 42) h42 42 rfl (by decide)
        rw [if_pos ⟨hl, h42⟩] at hr
        have HR := Lib.hid hr
        clear hr h47 h42
        go_enter Tryz.func69, Tryz.ntmps69
        go_wp2
        go_loopw [7] (fun i wr => ∃ k f : Nat, k ≤ S.size ∧ S.size < k + f ∧ i = .int .i64 k ∧ Hid (starF S f k = r) ∧ w = wr) (fun i _ => S.size - (RowKit.intOf i).toNat)
        case atStart => exact ⟨z + 2, S.size, by omega, by omega, by go_num, HR, rfl⟩
        case round =>
          obtain ⟨k, f, hk, hf, rfl, hq, rfl⟩ := hrel
          by_cases hlt : k + 1 < S.size
          · obtain ⟨g, rfl, hg, hq⟩ := star_go hf hq.out hlt
            have hlt' : k < S.size := by omega
            by_cases h42 : bt S k = 42
            · have e3 := bt_yes hlt' (n := 42) h42 42 rfl (by decide)
              by_cases h47 : bt S (k + 1) = 47
              · have e4 := bt_yes hlt (n := 47) h47 47 rfl (by decide)
                have HE : Hid (r = (k + 2, true)) := Lib.hid (by rw [hq, if_pos ⟨h42, h47⟩])
                clear hq h42 h47
                go_wp2
                go_ret2
                exact ⟨by rw [HE.out]; rfl, rfl⟩
              · have e4 := bt_no hlt (n := 47) h47 47 rfl (by decide)
                have HE : Hid (starF S g (k + 1) = r) := Lib.hid (by rw [hq, if_neg (fun hh => h47 hh.2)])
                clear hq h42 h47
                go_wp2
                go_roundw
                case rel => exact ⟨k + 1, g, by omega, by omega, by go_num, HE, by first | rfl | trivial⟩
                case measure => simp [RowKit.intOf]; omega
            · have e3 := bt_no hlt' (n := 42) h42 42 rfl (by decide)
              have HE : Hid (starF S g (k + 1) = r) := Lib.hid (by rw [hq, if_neg (fun hh => h42 hh.1)])
              clear hq h42
              go_wp2
              go_roundw
              case rel => exact ⟨k + 1, g, by omega, by omega, by go_num, HE, by first | rfl | trivial⟩
              case measure => simp [RowKit.intOf]; omega
          · have HE : Hid (r = (S.size, false)) := Lib.hid (star_end hq.out hlt)
            clear hq
            go_wp2
            go_ret2
            exact ⟨by rw [HE.out]; rfl, rfl⟩
      · have e2 := bt_no hl (n := 42) h42 42 rfl (by decide)
        rw [if_neg (fun hh => h42 hh.2)] at hr
        have HR := Lib.hid hr
        clear hr h47 h42
        go_enter Tryz.func69, Tryz.ntmps69
        go_wp2
        go_ret2
        exact ⟨by rw [← HR.out]; rfl, rfl⟩
  · rw [if_neg (fun hh => hl hh.1), if_neg (fun hh => hl hh.1)] at hr
    have HR := Lib.hid hr
    clear hr
    go_enter Tryz.func69, Tryz.ntmps69
    go_wp2
    go_ret2
    exact ⟨by rw [← HR.out]; rfl, rfl⟩
end Go.Proofs.YtkamhpbfebdhjaaGreatDoor.RefLex2
