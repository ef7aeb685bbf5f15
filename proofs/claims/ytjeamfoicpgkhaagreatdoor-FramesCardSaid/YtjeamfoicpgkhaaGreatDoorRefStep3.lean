/- May a step be? The reference's answer: children; all. -/
import Derived.Test.YtjeamfoicpgkhaaGreatDoorRefStep2
namespace Go.Proofs.YtjeamfoicpgkhaaGreatDoor.RefStep
open Go.RowKit Go.Lib Go.Proofs.YtjeamfoicpgkhaaGreatDoor.Mem Go.Proofs.YtjeamfoicpgkhaaGreatDoor.Read Go.Proofs.YtjeamfoicpgkhaaGreatDoor.Tree Go.Proofs.YtjeamfoicpgkhaaGreatDoor.Data Go.Proofs.YtjeamfoicpgkhaaGreatDoor.CompR Go.Proofs.YtjeamfoicpgkhaaGreatDoor.MsgR Go.Proofs.YtjeamfoicpgkhaaGreatDoor.May
open Go.Proofs.YtjeamfoicpgkhaaGreatDoor.Same (ints_cell)
set_option linter.unusedVariables false
set_option linter.unusedSimpArgs false
def idB (i : Int) : Bool := decide (idP i)
def kidsB (id : Int) (ks : List Int) : Bool := idB id && ks.all idB
theorem kids_next {id : Int} {ks : List Int} {k : Nat} (h : k < ks.length) : kidsB id (ks.take (k + 1)) = (kidsB id (ks.take k) && idB ks[k]) := by
  unfold kidsB
  rw [List.take_succ_eq_append_getElem h, List.all_append]
  simp only [List.all_cons, List.all_nil, Bool.and_true, Bool.and_assoc]
theorem step_no2 {id no fr up : Int} {ks : List Int} (h : kidsB id ks = false) : stepB ⟨2, id, no, fr, up, ks⟩ = false := by
  rw [← Bool.not_eq_true]
  intro hh
  obtain ⟨g1, g⟩ := of_decide_eq_true hh
  have g2 : ∀ k ∈ ks, idP k := by
    rcases g with ⟨q, -⟩ | ⟨q, -⟩ | ⟨-, ⟨-, g2⟩, -⟩ | ⟨q, -⟩
    · exact absurd (show (2 : Int) = 0 from q) (by decide)
    · exact absurd (show (2 : Int) = 1 from q) (by decide)
    · exact g2
    · exact absurd (show (2 : Int) = 3 from q) (by decide)
  rw [← Bool.not_eq_true] at h
  apply h
  unfold kidsB
  rw [Bool.and_eq_true, List.all_eq_true]
  exact ⟨decide_eq_true g1, fun x hx => decide_eq_true (g2 x hx)⟩
theorem step_yes2 {id : Int} {ks : List Int} (h : kidsB id ks = true) (hn : ks.length ≤ 2048) : stepB ⟨2, id, 0, 0, 0, ks⟩ = true := by
  unfold kidsB at h
  rw [Bool.and_eq_true, List.all_eq_true] at h
  exact decide_eq_true ⟨of_decide_eq_true h.1, .inr (.inr (.inl ⟨rfl, ⟨hn, fun x hx => of_decide_eq_true (h.2 x hx)⟩, rfl, rfl, rfl⟩))⟩
set_option maxHeartbeats 16000000 in
set_option maxRecDepth 100000 in
theorem step2 (w : World) (id no fr up : Int) (ks : List Int) (A : Option Addr) (n c : Nat) (hn : ks.length = n) (hk : SlR 1 intR w ks (.slice A n c)) : Calls Tryz.prog 111 #[.agg #[.int .i64 2, .int .i64 id, .int .i64 no, .int .i64 fr, .int .i64 up, .slice A n c]] w (StepMayPost ⟨2, id, no, fr, up, ks⟩ w) := by
  obtain ⟨A', c', he, hc1, hc2⟩ := sl_len hk
  have hcc : c' = c := by
    injection he with _ _ h
    exact h.symm
  rw [hcc] at hc1 hc2
  rw [hn] at hc1
  unfold maxLen at hc2
  clear he hcc
  have HK := Lib.hid hk
  have HNn := Lib.hid hn
  clear hk hn
  go_enter Tryz.func111, Tryz.ntmps111
  go_upto_region 2 with (fail)
  generalize hW : World.alloc (World.alloc w _) _ = W at *
  have HS : Hid (Step No w W) := Lib.hid (by rw [← hW]; exact ((Step.refl No w).alloc _).alloc _)
  have HBs : Hid (W.heap[w.heap.size]? = some (.cells #[.int .i64 2, .int .i64 id, .int .i64 no, .int .i64 fr, .int .i64 up, .slice A n c] TS (0, 0))) := Lib.hid (by rw [← hW]; exact blk_alloc (blk_new _ _) _)
  have HBy : Hid (W.heap[w.heap.size + 1]? = some (.cells #[.int .i64 2, .int .i64 id, .int .i64 0, .int .i64 0, .int .i64 0, .slice none 0 0] TS (0, 0))) := Lib.hid (by rw [← hW]; simpa using blk_new (w.alloc _) _)
  clear hW
  obtain ⟨b1, hb1⟩ : ∃ b, w.heap.size + 1 = b := ⟨_, rfl⟩
  have hne : w.heap.size ≠ b1 := by omega
  have hge : w.heap.size ≤ b1 := by omega
  rw [hb1] at HBy ⊢
  clear hb1
  obtain ⟨s0, s1, s2, s3, s4, s5⟩ := cells6 HBs.out
  obtain ⟨y0, y1, y2, y3, y4, y5⟩ := cells6 HBy.out
  have HKW := Lib.hid (ints_to HK.out HS.out)
  by_cases h1 : 0 ≤ id
  · by_cases h2 : id < 16777216
    · have H0 : Hid (kidsB id [] = true) := Lib.hid (by unfold kidsB idB idP; simp [h1, h2])
      go_wp2
      clear h1
      go_loopw [5, 4] (fun i o wr => ∃ (k : Nat) (b : Bool), k ≤ n ∧ i = .int .i64 k ∧ o = .bool b ∧ kidsB id (ks.take k) = b ∧ wr = W) (fun i _ _ => n - (RowKit.intOf i).toNat)
      case atStart => exact ⟨0, true, Nat.zero_le _, rfl, rfl, H0.out, rfl⟩
      case round =>
        obtain ⟨k, b, hkn, rfl, rfl, hb, rfl⟩ := hrel
        have HB := Lib.hid hb
        clear hb
        by_cases hlt : k < n
        · have hlt' : k < ks.length := by rw [HNn.out]; exact hlt
          obtain ⟨ad, rfl, x0⟩ := ints_cell (show Same.IntsS wr ks _ from HKW.out) k hlt'
          have hi0 : (0 : Int) ≤ k := by omega
          have hi1 : (k : Int) < n := by omega
          have HN := Lib.hid (kids_next (id := id) hlt')
          generalize ks[k] = x at *
          cases b with
          | false =>
            go_wp2
            go_roundw
            case rel => exact ⟨k + 1, false, hlt, rfl, rfl, by rw [HN.out, HB.out]; rfl, by first | rfl | trivial⟩
            case measure => simp [RowKit.intOf]; omega
          | true =>
            by_cases g1 : 0 ≤ x
            · by_cases g2 : x < 16777216
              · have HI : Hid (idB x = true) := Lib.hid (decide_eq_true ⟨g1, g2⟩)
                go_wp2
                go_roundw
                case rel => exact ⟨k + 1, true, hlt, rfl, rfl, by rw [HN.out, HB.out, HI.out]; rfl, by first | rfl | trivial⟩
                case measure => simp [RowKit.intOf]; omega
              · have HI : Hid (idB x = false) := Lib.hid (decide_eq_false fun h => g2 h.2)
                go_wp2
                go_roundw
                case rel => exact ⟨k + 1, false, hlt, rfl, rfl, by rw [HN.out, HB.out, HI.out]; rfl, by first | rfl | trivial⟩
                case measure => simp [RowKit.intOf]; omega
            · have HI : Hid (idB x = false) := Lib.hid (decide_eq_false fun h => g1 h.1)
              go_wp2
              go_roundw
              case rel => exact ⟨k + 1, false, hlt, rfl, rfl, by rw [HN.out, HB.out, HI.out]; rfl, by first | rfl | trivial⟩
              case measure => simp [RowKit.intOf]; omega
        · have hkk : k = n := by omega
          subst hkk
          have hb := HB.out
          rw [List.take_of_length_le (by rw [HNn.out]; exact Nat.le_refl _)] at hb
          clear HB
          have HB := Lib.hid hb
          clear hb
          cases b with
          | false =>
            have HR : Hid (stepB ⟨2, id, no, fr, up, ks⟩ = false) := Lib.hid (by (exact step_no2 HB.out))
            skip
            go_wp2
            go_ret
            exact ⟨by rw [HR.out]; rfl, HS.out⟩
          | true =>
            by_cases e1 : k ≤ 2048
            · have f1 : (k : Int) ≤ 2048 := by omega
              by_cases e2 : no = 0
              · have q2 : (no == 0) = true := by rw [e2]; rfl
                by_cases e3 : fr = 0
                · have q3 : (fr == 0) = true := by rw [e3]; rfl
                  by_cases e4 : up = 0
                  · have q4 : (up == 0) = true := by rw [e4]; rfl
                    have HR : Hid (stepB ⟨2, id, no, fr, up, ks⟩ = true) := Lib.hid (by (rw [e2, e3, e4]; exact step_yes2 HB.out (by rw [HNn.out]; exact e1)))
                    clear e1 e2 e3 e4
                    go_wp2
                    go_ret
                    exact ⟨by rw [HR.out]; rfl, HS.out⟩
                  · have q4 : (up == 0) = false := beq_eq_false_iff_ne.2 e4
                    have HR : Hid (stepB ⟨2, id, no, fr, up, ks⟩ = false) := Lib.hid (by (simp [stepB, stepP, e4]))
                    clear e1 e2 e3 e4
                    go_wp2
                    go_ret
                    exact ⟨by rw [HR.out]; rfl, HS.out⟩
                · have q3 : (fr == 0) = false := beq_eq_false_iff_ne.2 e3
                  have HR : Hid (stepB ⟨2, id, no, fr, up, ks⟩ = false) := Lib.hid (by (simp [stepB, stepP, e3]))
                  clear e1 e2 e3
                  go_wp2
                  go_ret
                  exact ⟨by rw [HR.out]; rfl, HS.out⟩
              · have q2 : (no == 0) = false := beq_eq_false_iff_ne.2 e2
                have HR : Hid (stepB ⟨2, id, no, fr, up, ks⟩ = false) := Lib.hid (by (simp [stepB, stepP, e2]))
                clear e1 e2
                go_wp2
                go_ret
                exact ⟨by rw [HR.out]; rfl, HS.out⟩
            · have f1 : ¬ (k : Int) ≤ 2048 := by omega
              have HR : Hid (stepB ⟨2, id, no, fr, up, ks⟩ = false) := Lib.hid (by (simp [stepB, stepP]; intro _ g; rw [HNn.out] at g; omega))
              clear e1
              go_wp2
              go_ret
              exact ⟨by rw [HR.out]; rfl, HS.out⟩
    · have H0 : Hid (kidsB id [] = false) := Lib.hid (by unfold kidsB idB idP; simp [h2])
      go_wp2
      clear h1
      go_loopw [5, 4] (fun i o wr => ∃ (k : Nat) (b : Bool), k ≤ n ∧ i = .int .i64 k ∧ o = .bool b ∧ kidsB id (ks.take k) = b ∧ wr = W) (fun i _ _ => n - (RowKit.intOf i).toNat)
      case atStart => exact ⟨0, false, Nat.zero_le _, rfl, rfl, H0.out, rfl⟩
      case round =>
        obtain ⟨k, b, hkn, rfl, rfl, hb, rfl⟩ := hrel
        have HB := Lib.hid hb
        clear hb
        by_cases hlt : k < n
        · have hlt' : k < ks.length := by rw [HNn.out]; exact hlt
          obtain ⟨ad, rfl, x0⟩ := ints_cell (show Same.IntsS wr ks _ from HKW.out) k hlt'
          have hi0 : (0 : Int) ≤ k := by omega
          have hi1 : (k : Int) < n := by omega
          have HN := Lib.hid (kids_next (id := id) hlt')
          generalize ks[k] = x at *
          cases b with
          | false =>
            go_wp2
            go_roundw
            case rel => exact ⟨k + 1, false, hlt, rfl, rfl, by rw [HN.out, HB.out]; rfl, by first | rfl | trivial⟩
            case measure => simp [RowKit.intOf]; omega
          | true =>
            by_cases g1 : 0 ≤ x
            · by_cases g2 : x < 16777216
              · have HI : Hid (idB x = true) := Lib.hid (decide_eq_true ⟨g1, g2⟩)
                go_wp2
                go_roundw
                case rel => exact ⟨k + 1, true, hlt, rfl, rfl, by rw [HN.out, HB.out, HI.out]; rfl, by first | rfl | trivial⟩
                case measure => simp [RowKit.intOf]; omega
              · have HI : Hid (idB x = false) := Lib.hid (decide_eq_false fun h => g2 h.2)
                go_wp2
                go_roundw
                case rel => exact ⟨k + 1, false, hlt, rfl, rfl, by rw [HN.out, HB.out, HI.out]; rfl, by first | rfl | trivial⟩
                case measure => simp [RowKit.intOf]; omega
            · have HI : Hid (idB x = false) := Lib.hid (decide_eq_false fun h => g1 h.1)
              go_wp2
              go_roundw
              case rel => exact ⟨k + 1, false, hlt, rfl, rfl, by rw [HN.out, HB.out, HI.out]; rfl, by first | rfl | trivial⟩
              case measure => simp [RowKit.intOf]; omega
        · have hkk : k = n := by omega
          subst hkk
          have hb := HB.out
          rw [List.take_of_length_le (by rw [HNn.out]; exact Nat.le_refl _)] at hb
          clear HB
          have HB := Lib.hid hb
          clear hb
          cases b with
          | false =>
            have HR : Hid (stepB ⟨2, id, no, fr, up, ks⟩ = false) := Lib.hid (by (exact step_no2 HB.out))
            skip
            go_wp2
            go_ret
            exact ⟨by rw [HR.out]; rfl, HS.out⟩
          | true =>
            by_cases e1 : k ≤ 2048
            · have f1 : (k : Int) ≤ 2048 := by omega
              by_cases e2 : no = 0
              · have q2 : (no == 0) = true := by rw [e2]; rfl
                by_cases e3 : fr = 0
                · have q3 : (fr == 0) = true := by rw [e3]; rfl
                  by_cases e4 : up = 0
                  · have q4 : (up == 0) = true := by rw [e4]; rfl
                    have HR : Hid (stepB ⟨2, id, no, fr, up, ks⟩ = true) := Lib.hid (by (rw [e2, e3, e4]; exact step_yes2 HB.out (by rw [HNn.out]; exact e1)))
                    clear e1 e2 e3 e4
                    go_wp2
                    go_ret
                    exact ⟨by rw [HR.out]; rfl, HS.out⟩
                  · have q4 : (up == 0) = false := beq_eq_false_iff_ne.2 e4
                    have HR : Hid (stepB ⟨2, id, no, fr, up, ks⟩ = false) := Lib.hid (by (simp [stepB, stepP, e4]))
                    clear e1 e2 e3 e4
                    go_wp2
                    go_ret
                    exact ⟨by rw [HR.out]; rfl, HS.out⟩
                · have q3 : (fr == 0) = false := beq_eq_false_iff_ne.2 e3
                  have HR : Hid (stepB ⟨2, id, no, fr, up, ks⟩ = false) := Lib.hid (by (simp [stepB, stepP, e3]))
                  clear e1 e2 e3
                  go_wp2
                  go_ret
                  exact ⟨by rw [HR.out]; rfl, HS.out⟩
              · have q2 : (no == 0) = false := beq_eq_false_iff_ne.2 e2
                have HR : Hid (stepB ⟨2, id, no, fr, up, ks⟩ = false) := Lib.hid (by (simp [stepB, stepP, e2]))
                clear e1 e2
                go_wp2
                go_ret
                exact ⟨by rw [HR.out]; rfl, HS.out⟩
            · have f1 : ¬ (k : Int) ≤ 2048 := by omega
              have HR : Hid (stepB ⟨2, id, no, fr, up, ks⟩ = false) := Lib.hid (by (simp [stepB, stepP]; intro _ g; rw [HNn.out] at g; omega))
              clear e1
              go_wp2
              go_ret
              exact ⟨by rw [HR.out]; rfl, HS.out⟩
  · have H0 : Hid (kidsB id [] = false) := Lib.hid (by unfold kidsB idB idP; simp [h1])
    go_wp2
    clear h1
    go_loopw [5, 4] (fun i o wr => ∃ (k : Nat) (b : Bool), k ≤ n ∧ i = .int .i64 k ∧ o = .bool b ∧ kidsB id (ks.take k) = b ∧ wr = W) (fun i _ _ => n - (RowKit.intOf i).toNat)
    case atStart => exact ⟨0, false, Nat.zero_le _, rfl, rfl, H0.out, rfl⟩
    case round =>
      obtain ⟨k, b, hkn, rfl, rfl, hb, rfl⟩ := hrel
      have HB := Lib.hid hb
      clear hb
      by_cases hlt : k < n
      · have hlt' : k < ks.length := by rw [HNn.out]; exact hlt
        obtain ⟨ad, rfl, x0⟩ := ints_cell (show Same.IntsS wr ks _ from HKW.out) k hlt'
        have hi0 : (0 : Int) ≤ k := by omega
        have hi1 : (k : Int) < n := by omega
        have HN := Lib.hid (kids_next (id := id) hlt')
        generalize ks[k] = x at *
        cases b with
        | false =>
          go_wp2
          go_roundw
          case rel => exact ⟨k + 1, false, hlt, rfl, rfl, by rw [HN.out, HB.out]; rfl, by first | rfl | trivial⟩
          case measure => simp [RowKit.intOf]; omega
        | true =>
          by_cases g1 : 0 ≤ x
          · by_cases g2 : x < 16777216
            · have HI : Hid (idB x = true) := Lib.hid (decide_eq_true ⟨g1, g2⟩)
              go_wp2
              go_roundw
              case rel => exact ⟨k + 1, true, hlt, rfl, rfl, by rw [HN.out, HB.out, HI.out]; rfl, by first | rfl | trivial⟩
              case measure => simp [RowKit.intOf]; omega
            · have HI : Hid (idB x = false) := Lib.hid (decide_eq_false fun h => g2 h.2)
              go_wp2
              go_roundw
              case rel => exact ⟨k + 1, false, hlt, rfl, rfl, by rw [HN.out, HB.out, HI.out]; rfl, by first | rfl | trivial⟩
              case measure => simp [RowKit.intOf]; omega
          · have HI : Hid (idB x = false) := Lib.hid (decide_eq_false fun h => g1 h.1)
            go_wp2
            go_roundw
            case rel => exact ⟨k + 1, false, hlt, rfl, rfl, by rw [HN.out, HB.out, HI.out]; rfl, by first | rfl | trivial⟩
            case measure => simp [RowKit.intOf]; omega
      · have hkk : k = n := by omega
        subst hkk
        have hb := HB.out
        rw [List.take_of_length_le (by rw [HNn.out]; exact Nat.le_refl _)] at hb
        clear HB
        have HB := Lib.hid hb
        clear hb
        cases b with
        | false =>
          have HR : Hid (stepB ⟨2, id, no, fr, up, ks⟩ = false) := Lib.hid (by (exact step_no2 HB.out))
          skip
          go_wp2
          go_ret
          exact ⟨by rw [HR.out]; rfl, HS.out⟩
        | true =>
          by_cases e1 : k ≤ 2048
          · have f1 : (k : Int) ≤ 2048 := by omega
            by_cases e2 : no = 0
            · have q2 : (no == 0) = true := by rw [e2]; rfl
              by_cases e3 : fr = 0
              · have q3 : (fr == 0) = true := by rw [e3]; rfl
                by_cases e4 : up = 0
                · have q4 : (up == 0) = true := by rw [e4]; rfl
                  have HR : Hid (stepB ⟨2, id, no, fr, up, ks⟩ = true) := Lib.hid (by (rw [e2, e3, e4]; exact step_yes2 HB.out (by rw [HNn.out]; exact e1)))
                  clear e1 e2 e3 e4
                  go_wp2
                  go_ret
                  exact ⟨by rw [HR.out]; rfl, HS.out⟩
                · have q4 : (up == 0) = false := beq_eq_false_iff_ne.2 e4
                  have HR : Hid (stepB ⟨2, id, no, fr, up, ks⟩ = false) := Lib.hid (by (simp [stepB, stepP, e4]))
                  clear e1 e2 e3 e4
                  go_wp2
                  go_ret
                  exact ⟨by rw [HR.out]; rfl, HS.out⟩
              · have q3 : (fr == 0) = false := beq_eq_false_iff_ne.2 e3
                have HR : Hid (stepB ⟨2, id, no, fr, up, ks⟩ = false) := Lib.hid (by (simp [stepB, stepP, e3]))
                clear e1 e2 e3
                go_wp2
                go_ret
                exact ⟨by rw [HR.out]; rfl, HS.out⟩
            · have q2 : (no == 0) = false := beq_eq_false_iff_ne.2 e2
              have HR : Hid (stepB ⟨2, id, no, fr, up, ks⟩ = false) := Lib.hid (by (simp [stepB, stepP, e2]))
              clear e1 e2
              go_wp2
              go_ret
              exact ⟨by rw [HR.out]; rfl, HS.out⟩
          · have f1 : ¬ (k : Int) ≤ 2048 := by omega
            have HR : Hid (stepB ⟨2, id, no, fr, up, ks⟩ = false) := Lib.hid (by (simp [stepB, stepP]; intro _ g; rw [HNn.out] at g; omega))
            clear e1
            go_wp2
            go_ret
            exact ⟨by rw [HR.out]; rfl, HS.out⟩
theorem StepMay_ref (s : StepD) (kv : Value) (w : World) (hk : SlR 1 intR w s.kids kv) : Calls Tryz.prog 111 #[aggS s kv] w fun e w' => e = .returned (.bool (stepB s)) ∧ Step No w w' := by
  obtain ⟨A, c, rfl, -, -⟩ := sl_len hk
  obtain ⟨kd, id, no, fr, up, ks⟩ := s
  by_cases h0 : kd = 0
  · subst h0
    exact step0 w id no fr up ks A ks.length c rfl
  · by_cases h1 : kd = 1
    · subst h1
      exact step1 w id no fr up ks A ks.length c rfl
    · by_cases h2 : kd = 2
      · subst h2
        exact step2 w id no fr up ks A ks.length c rfl hk
      · by_cases h3 : kd = 3
        · subst h3
          exact step3 w id no fr up ks A ks.length c rfl
        · exact step_no w kd id no fr up ks A ks.length c h0 h1 h2 h3
end Go.Proofs.YtjeamfoicpgkhaaGreatDoor.RefStep
