/- The law on a queue's bounds. -/
import Derived.Test.YtmhnnkifkbamoaaQLaw2
import Derived.WalkLawsBesides
namespace Go.Proofs.Ytmhnnkifkbamoaa.QLaw
open Go.RowKit Go.Proofs.Ytmhnnkifkbamoaa.Mem Go.Proofs.Ytmhnnkifkbamoaa.Read Go.Proofs.Ytmhnnkifkbamoaa.NetQ
set_option linter.unusedVariables false
set_option linter.unusedSimpArgs false
set_option maxHeartbeats 20000000 in
set_option maxRecDepth 100000 in
theorem bounds_any (w : World) (v : Value) (ss : List ByteArray) (ha : StrS w ss v) :
    Calls Try.prog 8 #[v] w fun e w' => e = .returned (.bool true) ∧ Below w.heap.size w w' := by
  obtain ⟨A, c, rfl, h1, h2⟩ := sl_len ha
  unfold maxLen at h2
  have HA := Lib.hid ha
  clear ha
  go_enter Try.func8, Try.ntmps8
  go_wp2_with fail
  refine (awake_any _).mono ?_
  rintro e w1 ⟨rfl, h0⟩
  obtain ⟨hq, hs⟩ := new_q w1
  have Hh0 := Lib.hid h0
  have Hhq := Lib.hid hq
  have Hhs := Lib.hid hs
  clear h0 hq hs
  go_wp2_with fail
  refine (new_any _).mono ?_
  rintro e w2 ⟨rfl, h3⟩
  rw [← h3] at Hhq Hhs
  clear h3
  go_wp2
  go_loopw [4] (fun i wr => ∃ k : Nat, k ≤ ss.length ∧ k ≤ 20 ∧ i = .int .i64 k ∧ Step No w1 wr ∧ PQ w1.heap.size wr w1.heap.size (whole ((ss.take k).take 8)) ∧ ∀ j (h : j < ss.length), j < k → (ss[j]).size ≤ 1000064) (fun i _ => ss.length - (intOf i).toNat)
  case atStart => exact ⟨0, Nat.zero_le _, Nat.zero_le _, rfl, Hhs.out, Hhq.out, fun j _ h => absurd h (Nat.not_lt_zero _)⟩
  case round =>
    obtain ⟨k, hk, hk2, rfl, hs, hq, hz⟩ := hrel
    by_cases hlt : k < ss.length ∧ k < 20
    · obtain ⟨hl1, hl2⟩ := hlt
      obtain ⟨ad, rfl, c0⟩ := str_cell (strS_step HA.out (Hh0.out.trans hs (fun _ f _ => f))) k hl1
      have hi0 : (0 : Int) ≤ k := by omega
      have hi1 : (k : Int) < ss.length := by omega
      have hi2 : (k : Int) < 20 := by omega
      by_cases hb : (ss[k]).size ≤ 1000000
      · have hb1 : decide ((1000000 : Int) < (ss[k]).size) = false := decide_eq_false (by omega)
        obtain ⟨f1, f2⟩ := put_more ss k hl1 (by omega)
        have Hz : Hid (∀ j (h : j < ss.length), j < k + 1 → (ss[j]).size ≤ 1000064) := Lib.hid (fun j h hj => by
          rcases Nat.lt_succ_iff_lt_or_eq.1 hj with h' | rfl
          · exact hz j h h'
          · omega)
        clear hz hb
        generalize ss[k] = s at *
        have Hhs := Lib.hid hs
        have Hhq := Lib.hid hq
        have Hf1 := Lib.hid f1
        have Hf2 := Lib.hid f2
        clear hs hq f1 f2
        by_cases h8 : k < 8
        · have h8' : (k : Int) < 8 := by omega
          have ht : decide (k < 8) = true := decide_eq_true h8
          rw [ht] at Hf1
          go_wp2_with fail
          refine (ans (w0 := w1) (v' := .bool _) (xs' := whole ((ss.take (k + 1)).take 8)) Hhs.out (Put_any _ wr w1.heap.size _ s Hhq.out) (by rw [Hf1.out]) Hf2.out).mono ?_
          rintro e w3 ⟨rfl, hq, hs⟩
          clear Hhs Hhq
          have Hhq := Lib.hid hq
          have Hhs := Lib.hid hs
          clear hq hs
          go_wp2
          go_roundw
          case rel => exact ⟨k + 1, hl1, hl2, rfl, Hhs.out, Hhq.out, Hz.out⟩
          case measure => simp [intOf]; omega
        · have h8' : ¬ (k : Int) < 8 := by omega
          have ht : decide (k < 8) = false := decide_eq_false h8
          rw [ht] at Hf1
          go_wp2_with fail
          refine (ans (w0 := w1) (v' := .bool _) (xs' := whole ((ss.take (k + 1)).take 8)) Hhs.out (Put_any _ wr w1.heap.size _ s Hhq.out) (by rw [Hf1.out]) Hf2.out).mono ?_
          rintro e w3 ⟨rfl, hq, hs⟩
          clear Hhs Hhq
          have Hhq := Lib.hid hq
          have Hhs := Lib.hid hs
          clear hq hs
          go_wp2
          go_roundw
          case rel => exact ⟨k + 1, hl1, hl2, rfl, Hhs.out, Hhq.out, Hz.out⟩
          case measure => simp [intOf]; omega
      · have hb1 : decide ((1000000 : Int) < (ss[k]).size) = true := decide_eq_true (by omega)
        generalize ss[k] = s at *
        clear hz hb
        have Hhs := Lib.hid hs
        have Hhq := Lib.hid hq
        clear hs hq
        go_wp2_with fail
        go_ret
        exact ⟨rfl, (Hh0.out.trans Hhs.out (fun _ f _ => f)).below⟩
    · have hT : (ss.take k).take 8 = ss.take 8 := by rw [List.take_take, List.take_eq_take_iff]; omega
      rw [hT] at hq
      have hz' : ∀ s ∈ ss.take 8, s.size ≤ 1000064 := fun s hs => by
        obtain ⟨j, hj, rfl⟩ := List.getElem_of_mem hs
        rw [List.getElem_take]
        rw [List.length_take] at hj
        have := hz j (by omega) (by omega)
        omega
      obtain ⟨b, n, ys, e1, e2, hF, l1, l2, hg⟩ := bound_after ss hz'
      have hlw : (whole (ss.take 8)).length = min ss.length 8 := by unfold whole; rw [List.length_map, List.length_take]; omega
      rw [hlw] at l1 l2
      have hm : (if (8 : Int) < (if (20 : Int) < ss.length then 20 else (ss.length : Int)) then 8 else (if (20 : Int) < ss.length then 20 else (ss.length : Int))) = ((min ss.length 8 : Nat) : Int) := by split <;> split <;> omega
      have hm1 : min ss.length 8 ≤ ss.length := by omega
      have hm2 : min ss.length 8 ≤ 8 := by omega
      generalize min ss.length 8 = m at *
      clear hz hz' hT hlw
      have Hhs := Lib.hid hs
      have Hhq := Lib.hid hq
      have He1 := Lib.hid e1
      have He2 := Lib.hid e2
      have Hhg := Lib.hid hg
      have HhF := Lib.hid hF
      have Hl1 := Lib.hid l1
      have Hl2 := Lib.hid l2
      clear hs hq e1 e2 hg hF l1 l2
      by_cases h1 : k < ss.length
      · have h3 : (k : Int) < ss.length := by omega
        have h2 : ¬ (k : Int) < 20 := fun h => hlt ⟨h1, by omega⟩
        clear hlt
        go_wp2_with fail
        refine (ans (w0 := w1) (v' := .tuple #[.bool b, .int .i64 n]) (xs' := ys) Hhs.out (Copy_any _ wr w1.heap.size _ 0 Hhq.out) (by rw [He1.out]) (by rw [He1.out])).mono ?_
        rintro e w3 ⟨rfl, hq, hs⟩
        clear Hhq Hhs He1
        have Hhq := Lib.hid hq
        have Hhs := Lib.hid hs
        clear hq hs
        go_wp2
        have hi0 : (0 : Int) < ss.length ∨ (ss.length : Int) = 0 := by omega
        have HI := Lib.hid hi0
        clear hi0 h1 h2 h3 hk hk2
        go_loopw [7] (fun i wr => ∃ k : Nat, k ≤ m ∧ i = .int .i64 k ∧ Step No w1 wr ∧ PQ w1.heap.size wr w1.heap.size (ys.drop k)) (fun i _ => m - (intOf i).toNat)
        case atStart => exact ⟨0, Nat.zero_le _, rfl, Hhs.out, Hhq.out⟩
        case round =>
          obtain ⟨k, hk, rfl, hs, hq⟩ := hrel
          clear Hhs Hhq
          by_cases hlt : k < m
          · obtain ⟨h3, h4, h5⟩ := Hhg.out k hlt
            have htd := take_drop ys k h3
            rw [h5] at htd
            obtain ⟨ad, rfl, c0⟩ := str_cell (strS_step HA.out (Hh0.out.trans hs (fun _ f _ => f))) k h4
            have hi0 : (0 : Int) ≤ k := by omega
            have hi1 : (k : Int) < ss.length := by omega
            have hi2 : (k : Int) < m := by omega
            clear h5 c0
            have HC : Hid (∀ w', Step No w1 w' → w'.cell? (ad.add k) = some (.string ss[k])) := Lib.hid (fun w' h => by
              obtain ⟨ad', e, c0⟩ := str_cell (strS_step HA.out (Hh0.out.trans h (fun _ f _ => f))) k h4
              injection e with e
              subst e
              exact c0)
            have hse : ((ss[k]).toList == (ss[k]).toList) = true := beq_self_eq_true _
            have hl8 : (ys.drop k).length ≤ 8 := by rw [List.length_drop]; have := HhF.out.1; omega
            generalize ss[k] = s at *
            have Hhs := Lib.hid hs
            have Hhq := Lib.hid hq
            have Hhtd := Lib.hid htd
            have Hh3 := Lib.hid h3
            have Hhl8 := Lib.hid hl8
            clear hs hq htd h3 hl8
            go_wp2_with fail
            refine (ans (w0 := w1) (v' := .tuple #[.string s, .int .i64 0]) (xs' := ys.drop (k + 1)) Hhs.out (Take_any _ wr w1.heap.size _ 0 Hhl8.out Hhq.out) (by rw [Hhtd.out]) (by rw [Hhtd.out])).mono ?_
            rintro e w4 ⟨rfl, hq, hs⟩
            clear Hhs Hhq
            have c1 := HC.out w4 hs
            have Hhq := Lib.hid hq
            have Hhs := Lib.hid hs
            clear hq hs
            go_wp2_with fail
            refine (num_any _ _).mono ?_
            rintro e w' ⟨rfl, rfl⟩
            go_wp2
            go_roundw
            case rel => exact ⟨k + 1, hlt, rfl, Hhs.out, Hhq.out⟩
            case measure => simp [intOf]; omega
          · obtain rfl : k = m := by omega
            have hl1 : (ys.drop k).length ≤ 1 := by rw [List.length_drop]; have := Hl2.out; omega
            have hz : ∀ s ∈ (ys.drop k).map (·.1), s.size ≤ maxLen := all_texts ⟨by omega, fun x hx => HhF.out.2 x (List.mem_of_mem_drop hx)⟩
            have Hhs := Lib.hid hs
            have Hhq := Lib.hid hq
            have Hhl1 := Lib.hid hl1
            have Hhz := Lib.hid hz
            clear hs hq hl1 hz
            rcases HI.out with hp | hp
            · have hn : (n == 0) = true := by rw [He2.out]; exact decide_eq_true hp
              go_wp2_with fail
              refine (num_any _ _).mono ?_
              rintro e w' ⟨rfl, rfl⟩
              go_wp2_with fail
              refine (All_any _ wr w1.heap.size _ (by have := Hhl1.out; omega) Hhq.out).mono ?_
              rintro e w4 h4
              obtain ⟨v, rfl, hs4, hr⟩ := all_row h4
              have hr1 := hr Hhz.out
              obtain ⟨A4, c4, rfl, -, -⟩ := sl_len hr1
              have hl4 : ((((ys.drop k).map (·.1)).length : Nat) : Int) ≤ 1 := by have := Hhl1.out; rw [List.length_map]; omega
              generalize (((ys.drop k).map (·.1)).length) = n4 at *
              clear hr hr1 h4
              have hs5 := (Hh0.out.trans Hhs.out (fun _ f _ => f)).trans hs4 (fun _ f _ => f)
              clear hs4
              have Hhs5 := Lib.hid hs5
              clear hs5
              go_wp2
              go_ret
              exact ⟨rfl, Hhs5.out.below⟩
            · have hn : (n == 0) = false := by rw [He2.out]; exact decide_eq_false (by omega)
              go_wp2_with fail
              refine (num_any _ _).mono ?_
              rintro e w' ⟨rfl, rfl⟩
              go_wp2_with fail
              refine (All_any _ wr w1.heap.size _ (by have := Hhl1.out; omega) Hhq.out).mono ?_
              rintro e w4 h4
              obtain ⟨v, rfl, hs4, hr⟩ := all_row h4
              have hr1 := hr Hhz.out
              obtain ⟨A4, c4, rfl, -, -⟩ := sl_len hr1
              have hl4 : ((((ys.drop k).map (·.1)).length : Nat) : Int) ≤ 1 := by have := Hhl1.out; rw [List.length_map]; omega
              generalize (((ys.drop k).map (·.1)).length) = n4 at *
              clear hr hr1 h4
              have hs5 := (Hh0.out.trans Hhs.out (fun _ f _ => f)).trans hs4 (fun _ f _ => f)
              clear hs4
              have Hhs5 := Lib.hid hs5
              clear hs5
              go_wp2
              go_ret
              exact ⟨rfl, Hhs5.out.below⟩
      · have h3 : ¬ (k : Int) < ss.length := by omega
        clear hlt
        go_wp2_with fail
        refine (ans (w0 := w1) (v' := .tuple #[.bool b, .int .i64 n]) (xs' := ys) Hhs.out (Copy_any _ wr w1.heap.size _ 0 Hhq.out) (by rw [He1.out]) (by rw [He1.out])).mono ?_
        rintro e w3 ⟨rfl, hq, hs⟩
        clear Hhq Hhs He1
        have Hhq := Lib.hid hq
        have Hhs := Lib.hid hs
        clear hq hs
        go_wp2
        have hi0 : (0 : Int) < ss.length ∨ (ss.length : Int) = 0 := by omega
        have HI := Lib.hid hi0
        clear hi0 h1 h2 h3 hk hk2
        go_loopw [7] (fun i wr => ∃ k : Nat, k ≤ m ∧ i = .int .i64 k ∧ Step No w1 wr ∧ PQ w1.heap.size wr w1.heap.size (ys.drop k)) (fun i _ => m - (intOf i).toNat)
        case atStart => exact ⟨0, Nat.zero_le _, rfl, Hhs.out, Hhq.out⟩
        case round =>
          obtain ⟨k, hk, rfl, hs, hq⟩ := hrel
          clear Hhs Hhq
          by_cases hlt : k < m
          · obtain ⟨h3, h4, h5⟩ := Hhg.out k hlt
            have htd := take_drop ys k h3
            rw [h5] at htd
            obtain ⟨ad, rfl, c0⟩ := str_cell (strS_step HA.out (Hh0.out.trans hs (fun _ f _ => f))) k h4
            have hi0 : (0 : Int) ≤ k := by omega
            have hi1 : (k : Int) < ss.length := by omega
            have hi2 : (k : Int) < m := by omega
            clear h5 c0
            have HC : Hid (∀ w', Step No w1 w' → w'.cell? (ad.add k) = some (.string ss[k])) := Lib.hid (fun w' h => by
              obtain ⟨ad', e, c0⟩ := str_cell (strS_step HA.out (Hh0.out.trans h (fun _ f _ => f))) k h4
              injection e with e
              subst e
              exact c0)
            have hse : ((ss[k]).toList == (ss[k]).toList) = true := beq_self_eq_true _
            have hl8 : (ys.drop k).length ≤ 8 := by rw [List.length_drop]; have := HhF.out.1; omega
            generalize ss[k] = s at *
            have Hhs := Lib.hid hs
            have Hhq := Lib.hid hq
            have Hhtd := Lib.hid htd
            have Hh3 := Lib.hid h3
            have Hhl8 := Lib.hid hl8
            clear hs hq htd h3 hl8
            go_wp2_with fail
            refine (ans (w0 := w1) (v' := .tuple #[.string s, .int .i64 0]) (xs' := ys.drop (k + 1)) Hhs.out (Take_any _ wr w1.heap.size _ 0 Hhl8.out Hhq.out) (by rw [Hhtd.out]) (by rw [Hhtd.out])).mono ?_
            rintro e w4 ⟨rfl, hq, hs⟩
            clear Hhs Hhq
            have c1 := HC.out w4 hs
            have Hhq := Lib.hid hq
            have Hhs := Lib.hid hs
            clear hq hs
            go_wp2_with fail
            refine (num_any _ _).mono ?_
            rintro e w' ⟨rfl, rfl⟩
            go_wp2
            go_roundw
            case rel => exact ⟨k + 1, hlt, rfl, Hhs.out, Hhq.out⟩
            case measure => simp [intOf]; omega
          · obtain rfl : k = m := by omega
            have hl1 : (ys.drop k).length ≤ 1 := by rw [List.length_drop]; have := Hl2.out; omega
            have hz : ∀ s ∈ (ys.drop k).map (·.1), s.size ≤ maxLen := all_texts ⟨by omega, fun x hx => HhF.out.2 x (List.mem_of_mem_drop hx)⟩
            have Hhs := Lib.hid hs
            have Hhq := Lib.hid hq
            have Hhl1 := Lib.hid hl1
            have Hhz := Lib.hid hz
            clear hs hq hl1 hz
            rcases HI.out with hp | hp
            · have hn : (n == 0) = true := by rw [He2.out]; exact decide_eq_true hp
              go_wp2_with fail
              refine (num_any _ _).mono ?_
              rintro e w' ⟨rfl, rfl⟩
              go_wp2_with fail
              refine (All_any _ wr w1.heap.size _ (by have := Hhl1.out; omega) Hhq.out).mono ?_
              rintro e w4 h4
              obtain ⟨v, rfl, hs4, hr⟩ := all_row h4
              have hr1 := hr Hhz.out
              obtain ⟨A4, c4, rfl, -, -⟩ := sl_len hr1
              have hl4 : ((((ys.drop k).map (·.1)).length : Nat) : Int) ≤ 1 := by have := Hhl1.out; rw [List.length_map]; omega
              generalize (((ys.drop k).map (·.1)).length) = n4 at *
              clear hr hr1 h4
              have hs5 := (Hh0.out.trans Hhs.out (fun _ f _ => f)).trans hs4 (fun _ f _ => f)
              clear hs4
              have Hhs5 := Lib.hid hs5
              clear hs5
              go_wp2
              go_ret
              exact ⟨rfl, Hhs5.out.below⟩
            · have hn : (n == 0) = false := by rw [He2.out]; exact decide_eq_false (by omega)
              go_wp2_with fail
              refine (num_any _ _).mono ?_
              rintro e w' ⟨rfl, rfl⟩
              go_wp2_with fail
              refine (All_any _ wr w1.heap.size _ (by have := Hhl1.out; omega) Hhq.out).mono ?_
              rintro e w4 h4
              obtain ⟨v, rfl, hs4, hr⟩ := all_row h4
              have hr1 := hr Hhz.out
              obtain ⟨A4, c4, rfl, -, -⟩ := sl_len hr1
              have hl4 : ((((ys.drop k).map (·.1)).length : Nat) : Int) ≤ 1 := by have := Hhl1.out; rw [List.length_map]; omega
              generalize (((ys.drop k).map (·.1)).length) = n4 at *
              clear hr hr1 h4
              have hs5 := (Hh0.out.trans Hhs.out (fun _ f _ => f)).trans hs4 (fun _ f _ => f)
              clear hs4
              have Hhs5 := Lib.hid hs5
              clear hs5
              go_wp2
              go_ret
              exact ⟨rfl, Hhs5.out.below⟩
end Go.Proofs.Ytmhnnkifkbamoaa.QLaw
