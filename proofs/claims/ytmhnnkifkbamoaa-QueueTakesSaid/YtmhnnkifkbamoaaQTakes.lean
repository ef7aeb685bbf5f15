/- The law on what is taken from anywhere in a queue. -/
import Derived.Test.YtmhnnkifkbamoaaQLaw2
import Derived.Test.YtmhnnkifkbamoaaBytes
import Derived.WalkLawsBesides
namespace Go.Proofs.Ytmhnnkifkbamoaa.QLaw
open Go.RowKit Go.Proofs.Ytmhnnkifkbamoaa.Mem Go.Proofs.Ytmhnnkifkbamoaa.Read Go.Proofs.Ytmhnnkifkbamoaa.NetQ Go.Proofs.Ytmhnnkifkbamoaa.RefQ
set_option linter.unusedVariables false
set_option linter.unusedSimpArgs false
theorem str_news {w : World} {xs : List ByteArray} {ad : Addr} {n c : Nat} (h : StrS w xs (.slice (some ad) n c)) (i : Nat) (hi : i ≤ xs.length) : ∀ j u, ((xs.take i).map Value.string)[j]? = some u → w.cell? (ad.add j) = some u := by
  intro j u hu
  rw [List.getElem?_map, Option.map_eq_some_iff] at hu
  obtain ⟨s, hs, rfl⟩ := hu
  obtain ⟨hj, rfl⟩ := List.getElem?_eq_some_iff.1 hs
  rw [List.length_take] at hj
  obtain ⟨ad', e, hc⟩ := str_cell h j (by omega)
  injection e with e
  subst e
  rw [hc, List.getElem_take]
theorem strs_one (l : List ByteArray) : ∀ u ∈ l.map Value.string, u.oneCell' = true := by
  intro u hu
  rw [List.mem_map] at hu
  obtain ⟨s, _, rfl⟩ := hu
  rfl
/-- What is taken together, since w0, up to the j-th. -/
def Want (w0 wr : World) (ss : List ByteArray) (k i : Nat) (v x : Value) : Prop :=
  ∃ j : Nat, i + 1 ≤ j ∧ j ≤ k ∧ x = .int .i64 j ∧ wr.ownsRow 0 9 1 v (j - 1) ((ss.take i ++ (ss.take j).drop (i + 1)).map Value.string) ∧ Step No w0 wr ∧ ∀ b, v.ownBlock = some b → w0.heap.size ≤ b
theorem whole_len (ss : List ByteArray) : (whole ss).length = ss.length := by unfold whole; rw [List.length_map]
theorem whole_get (ss : List ByteArray) (i : Nat) (h : i < (whole ss).length) (h2 : i < ss.length) : (whole ss)[i] = (ss[i], false) := by
  have e1 : (whole ss)[i] = (fun s => (s, false)) (ss[i]) := List.getElem_map ..
  exact e1
theorem whole_erase (ss : List ByteArray) (i : Nat) : (whole ss).eraseIdx i = whole (ss.eraseIdx i) := by 
  unfold whole
  rw [List.eraseIdx_eq_take_drop_succ, List.eraseIdx_eq_take_drop_succ, List.map_append, List.map_take, List.map_drop]
/-- What the law takes, and what stays. -/
theorem take_at (ss : List ByteArray) (m i : Nat) (hm : m ≤ ss.length) (hi : i < m) :
    ∃ h : i < ss.length, takeS (whole (ss.take m)) (i : Int) = (ss[i], 0, whole (ss.take i ++ (ss.take m).drop (i + 1))) := by
  refine ⟨by omega, ?_⟩
  have hl : (whole (ss.take m)).length = m := by rw [whole_len, List.length_take]; omega
  have hin : inR (whole (ss.take m)) (i : Int) := by unfold inR; omega
  unfold takeS
  rw [dif_pos hin]
  have h1 : (whole (ss.take m))[(i : Int).toNat]'(by rw [hl]; omega) = (ss[i], false) := by
    have := whole_get (ss.take m) i (by omega) (by rw [List.length_take]; omega)
    rw [List.getElem_take] at this
    exact this
  rw [h1]
  have h2 : (whole (ss.take m)).eraseIdx (i : Int).toNat = whole (ss.take i ++ (ss.take m).drop (i + 1)) := by
    rw [Int.toNat_natCast, whole_erase, List.eraseIdx_eq_take_drop_succ, List.take_take, Nat.min_eq_left (by omega)]
  rw [h2]
theorem take_none (ss : List ByteArray) (m i : Nat) (hm : m ≤ ss.length) (hi : i < m) : takeS (whole (ss.take i ++ (ss.take m).drop (i + 1))) ((m : Int) - 1) = (⟨#[]⟩, 2201, whole (ss.take i ++ (ss.take m).drop (i + 1))) := by
  unfold takeS
  rw [dif_neg]
  intro h
  have h2 := h.2
  rw [whole_len, List.length_append, List.length_take, List.length_drop, List.length_take] at h2
  omega
theorem put_some (ss : List ByteArray) (k : Nat) (hk : k < ss.length) (h8 : k < 8) (hz : (ss[k]).size ≤ 1000) : fits (whole (ss.take k)) ss[k] = true ∧ putS (whole (ss.take k)) (ss[k], false) = whole (ss.take (k + 1)) := by
  have := put_more ss k hk (by omega)
  rw [List.take_take, Nat.min_eq_right (by omega), List.take_take, Nat.min_eq_right (by omega)] at this
  exact ⟨by rw [this.1]; exact decide_eq_true h8, this.2⟩
/-- Own strings in a row, read. -/
theorem own_strs {E : TypeId} {w : World} {v : Value} {xs : List ByteArray} (h : w.ownsRow 0 E 1 v xs.length (xs.map Value.string)) (hz : ∀ s ∈ xs, s.size ≤ maxLen) : StrS w xs v := by
  have hf : ∀ l : List ByteArray, l.flatMap (fun s => [Value.string s]) = l.map Value.string := fun l => by induction l <;> simp_all
  exact SlR.ofRow (enc := fun s => [Value.string s]) (by decide) (by rw [hf]; exact h) (fun a _ => rfl) (fun a ha => ⟨rfl, hz a ha⟩)
theorem own_strs' {E : TypeId} {w : World} {v : Value} {xs : List ByteArray} {n : Nat} (h : w.ownsRow 0 E 1 v n (xs.map Value.string)) (hn : xs.length = n) (hz : ∀ s ∈ xs, s.size ≤ maxLen) : StrS w xs v := by
  subst hn
  exact own_strs h hz
theorem want_next (ss : List ByteArray) (m i j : Nat) (hm : m ≤ ss.length) (hj : j < m) (hi : i + 1 ≤ j) : (ss.take i ++ (ss.take (j + 1)).drop (i + 1)) = (ss.take i ++ (ss.take j).drop (i + 1)) ++ [ss[j]'(by omega)] := by
  rw [List.append_assoc, List.take_succ_eq_append_getElem (by omega), List.drop_append_of_le_length (by rw [List.length_take]; omega)]
set_option maxHeartbeats 20000000 in
set_option maxRecDepth 100000 in
theorem takes_any (at_ : Int) (w : World) (v : Value) (ss : List ByteArray) (ha : StrS w ss v) :
    Calls Try.prog 10 #[v, .int .i64 at_] w fun e w' => e = .returned (.bool true) ∧ Below w.heap.size w w' := by
  obtain ⟨A, c, rfl, h1, h2⟩ := sl_len ha
  unfold maxLen at h2
  have HA := Lib.hid ha
  clear ha
  have hm : (if (8 : Int) < (ss.length : Int) then 8 else (ss.length : Int)) = ((min ss.length 8 : Nat) : Int) := by split <;> omega
  have hm1 : min ss.length 8 ≤ ss.length := by omega
  have hm2 : min ss.length 8 ≤ 8 := by omega
  generalize min ss.length 8 = m at *
  go_enter Try.func10, Try.ntmps10
  go_wp2_with fail
  refine (awake_any _).mono ?_
  rintro e w1 ⟨rfl, h0⟩
  obtain ⟨hq, hs⟩ := new_q w1
  have Hh0 := Lib.hid h0
  have Hhq := Lib.hid hq
  have Hhs := Lib.hid hs
  clear h0 hq hs
  go_wp2_with fail
  refine (new_any _).mono ?_
  rintro e w2 ⟨rfl, h3⟩
  rw [← h3] at Hhq Hhs
  clear h3
  go_wp2
  go_loopw [7] (fun i wr => ∃ k : Nat, k ≤ m ∧ i = .int .i64 k ∧ Step No w1 wr ∧ PQ w1.heap.size wr w1.heap.size (whole (ss.take k)) ∧ ∀ j (h : j < ss.length), j < k → (ss[j]).size ≤ 1000) (fun i _ => m - (intOf i).toNat)
  case atStart => exact ⟨0, Nat.zero_le _, rfl, Hhs.out, Hhq.out, fun j _ h => absurd h (Nat.not_lt_zero _)⟩
  case round =>
    obtain ⟨k, hk, rfl, hs, hq, hz⟩ := hrel
    by_cases hlt : k < m
    · have hl1 : k < ss.length := by omega
      obtain ⟨ad, rfl, c0⟩ := str_cell (strS_step HA.out (Hh0.out.trans hs (fun _ f _ => f))) k hl1
      have hi0 : (0 : Int) ≤ k := by omega
      have hi1 : (k : Int) < ss.length := by omega
      have hi2 : (k : Int) < m := by omega
      by_cases hb : (ss[k]).size ≤ 1000
      · have hb1 : decide ((1000 : Int) < (ss[k]).size) = false := decide_eq_false (by omega)
        obtain ⟨f1, f2⟩ := put_some ss k hl1 (by omega) hb
        have Hz : Hid (∀ j (h : j < ss.length), j < k + 1 → (ss[j]).size ≤ 1000) := Lib.hid (fun j h hj => by
          rcases Nat.lt_succ_iff_lt_or_eq.1 hj with h' | rfl
          · exact hz j h h'
          · omega)
        clear hz hb
        generalize ss[k] = s at *
        have Hhs := Lib.hid hs
        have Hhq := Lib.hid hq
        have Hf1 := Lib.hid f1
        have Hf2 := Lib.hid f2
        clear hs hq f1 f2
        go_wp2_with fail
        refine (ans (w0 := w1) (v' := .bool true) (xs' := whole (ss.take (k + 1))) Hhs.out (Put_any _ wr w1.heap.size _ s Hhq.out) (by rw [Hf1.out]) Hf2.out).mono ?_
        rintro e w3 ⟨rfl, hq, hs⟩
        clear Hhs Hhq
        have Hhq := Lib.hid hq
        have Hhs := Lib.hid hs
        clear hq hs
        go_wp2
        go_roundw
        case rel => exact ⟨k + 1, hlt, rfl, Hhs.out, Hhq.out, Hz.out⟩
        case measure => simp [intOf]; omega
      · have hb1 : decide ((1000 : Int) < (ss[k]).size) = true := decide_eq_true (by omega)
        generalize ss[k] = s at *
        clear hz hb
        have Hhs := Lib.hid hs
        have Hhq := Lib.hid hq
        clear hs hq
        go_wp2
        go_ret
        exact ⟨rfl, (Hh0.out.trans Hhs.out (fun _ f _ => f)).below⟩
    · obtain rfl : k = m := by omega
      by_cases h0 : k = 0
      · subst h0
        clear hz
        have htz : takeS (whole (ss.take 0)) 0 = (⟨#[]⟩, 2201, []) := by simp [takeS, inR, whole]
        have Hhs := Lib.hid hs
        have Hhq := Lib.hid hq
        clear hs hq
        go_wp2_with fail
        refine (ans (w0 := w1) (v' := .tuple #[.string ⟨#[]⟩, .int .i64 2201]) (xs' := []) Hhs.out (Take_any _ wr w1.heap.size _ 0 (by simp [whole]) Hhq.out) (by rw [htz]) (by rw [htz])).mono ?_
        rintro e w3 ⟨rfl, hq, hs⟩
        clear Hhs Hhq
        have Hhq := Lib.hid hq
        have Hhs := Lib.hid hs
        clear hq hs
        go_wp2_with fail
        refine (num_any _ _).mono ?_
        rintro e w' ⟨rfl, rfl⟩
        go_wp2
        go_ret
        exact ⟨rfl, (Hh0.out.trans Hhs.out (fun _ f _ => f)).below⟩
      · obtain ⟨i, hpl, hi⟩ := Go.Proofs.Ytmhnnkifkbamoaa.Bytes.place_is at_ k (by omega) (by omega)
        have hk0 : ((k : Int) == 0) = false := beq_eq_false_iff_ne.2 (by omega)
        have hk1 : ¬ (k : Int) = 0 := by omega
        obtain ⟨hil, htk⟩ := take_at ss k i hm1 hi
        have htn := take_none ss k i hm1 hi
        have hl8 : (whole (ss.take k)).length ≤ 8 := by rw [whole_len, List.length_take]; omega
        have hz' : ∀ s ∈ ss.take k, s.size ≤ maxLen := fun s hs => by
          obtain ⟨j, hj, rfl⟩ := List.getElem_of_mem hs
          rw [List.getElem_take]
          rw [List.length_take] at hj
          have := hz j (by omega) (by omega)
          simp only [maxLen]
          omega
        clear hz
        have Hhs := Lib.hid hs
        have Hhq := Lib.hid hq
        have Hhtk := Lib.hid htk
        have Hhtn := Lib.hid htn
        have Hhl8 := Lib.hid hl8
        have Hhz' := Lib.hid hz'
        clear hs hq htk htn hl8 hz'
        go_wp2_with fail
        refine (ans (w0 := w1) (v' := .tuple #[.string ss[i], .int .i64 0]) (xs' := whole (ss.take i ++ (ss.take k).drop (i + 1))) Hhs.out (Take_any _ wr w1.heap.size _ _ Hhl8.out Hhq.out) (by rw [Hhtk.out]) (by rw [Hhtk.out])).mono ?_
        rintro e w3 ⟨rfl, hq, hs⟩
        clear Hhs Hhq Hhtk
        have HQ3 : Hid (QRep 83 86 (fun k => w1.heap.size ≤ k ∧ k < w3.heap.size) w3 w1.heap.size (whole (ss.take i ++ (ss.take k).drop (i + 1)))) := Lib.hid (hq.mono (fun k hk h => ⟨h, hk⟩))
        have HA3 : Hid (StrS w3 ss (.slice A ss.length c)) := Lib.hid (strS_step HA.out (Hh0.out.trans hs (fun _ f _ => f)))
        obtain ⟨ad, rfl, -⟩ := str_cell HA3.out i hil
        have HZ : Hid (∀ s ∈ ss.take i ++ (ss.take k).drop (i + 1), s.size ≤ maxLen) := Lib.hid (fun s hs => by
          rw [List.mem_append] at hs
          rcases hs with hs | hs
          · exact Hhz'.out s (by have e := List.take_append_drop i (ss.take k); rw [List.take_take, Nat.min_eq_left (by omega)] at e; rw [← e]; exact List.mem_append_left _ hs)
          · exact Hhz'.out s (List.mem_of_mem_drop hs))
        clear hq
        have HS3 : Hid (Step No w1 w3) := Lib.hid hs
        have hi0 : (0 : Int) ≤ i := by omega
        have hi1 : (i : Int) ≤ c := by omega
        have hi2 : i ≤ c := by omega
        have hi3 : (i : Int) < k := by omega
        have hi4 : (i : Int) < 8 := by omega
        have Hhs := Lib.hid hs
        clear hs
        go_upto_region 16 with (at_builtin; (refine list_append_own _ rfl (.tmp 71) (.tmp 74) 51 9 (.string ⟨#[]⟩) 1 16 rfl Try.underlying51 infoS rfl (by decide) (.slice (some ⟨w3.heap.size, 0, none⟩) 0 0) 0 [] rfl (World.ownsRow_made w3 #[] 0 (Nat.zero_le _) (by decide) rfl) ad i c ((ss.take i).map Value.string) rfl (by rw [List.length_map, List.length_take]; omega) (by exact str_news (strS_step HA3.out (by repeat' (first | exact Step.refl _ _ | with_reducible assumption | refine Step.drew ?_ | refine Step.drewN ?_ _ | refine Step.alloc ?_ _))) i (by omega)) (strs_one _) (by simp only [maxLen]; omega) (by omega) ?_); intro v1 w4 hown hg hat)
        have HW : Hid (Want w3 w4 ss k i v1 (.int .i64 ((i + 1 : Nat) : Int))) := Lib.hid ⟨i + 1, Nat.le_refl _, hi, rfl, (by
            have e : (ss.take (i + 1)).drop (i + 1) = [] := List.drop_eq_nil_of_le (by rw [List.length_take]; omega)
            rw [e, List.append_nil]
            rw [Nat.zero_add, List.nil_append] at hown
            exact hown), step_grown (w0 := w3.alloc (.cells #[] 9)) (by repeat' (first | exact Step.refl _ _ | with_reducible assumption | refine Step.drew ?_ | refine Step.drewN ?_ _ | refine Step.alloc ?_ _)) (fun b hb => by injection hb with hb; exact Nat.le_of_eq hb) hg, fresh_grown (w0 := w3.alloc (.cells #[] 9)) (by repeat' (first | exact Step.refl _ _ | with_reducible assumption | refine Step.drew ?_ | refine Step.drewN ?_ _ | refine Step.alloc ?_ _)) (fun b hb => by injection hb with hb; exact Nat.le_of_eq hb) hat⟩
        clear hown hg hat
        go_wp2
        go_loopw [13, 14] (fun v x wr => Want w3 wr ss k i v x) (fun _ x _ => k - (intOf x).toNat)
        case atStart => exact HW.out
        case round =>
          obtain ⟨j, hj0, hj1, rfl, hown, hs, hb⟩ := hrel
          by_cases hlt : j < k
          · obtain ⟨ad', e, c0⟩ := str_cell (strS_step HA3.out hs) j (by omega)
            injection e with e
            subst e
            have hj2 : (0 : Int) ≤ j := by omega
            have hj3 : (j : Int) < ss.length := by omega
            have hj4 : (j : Int) < k := by omega
            have HX : Hid (ss[j]? = some (ss[j]'(by omega))) := Lib.hid (List.getElem?_eq_getElem _)
            have HN : Hid ((ss.take i ++ (ss.take (j + 1)).drop (i + 1)) = (ss.take i ++ (ss.take j).drop (i + 1)) ++ [ss[j]'(by omega)]) := Lib.hid (want_next ss k i j hm1 hlt hj0)
            generalize ss[j]'(by omega) = s at *
            obtain ⟨Av, cv, rfl, hcv1, hcv2⟩ := row_slice hown
            have Hhown := Lib.hid hown
            have Hhs := Lib.hid hs
            have Hhb := Lib.hid hb
            clear hown hs hb
            go_wp2_with (at_builtin; refine list_append_own _ rfl (.tmp 83) (.tmp 88) 51 9 (.string ⟨#[]⟩) 1 16 rfl Try.underlying51 infoS rfl (by decide) (.slice Av (j - 1) cv) (j - 1) _ rfl (by exact Hhown.out.alloc _) ⟨wr.heap.size, 0, none⟩ 1 1 [.string s] rfl rfl (by exact cells_new wr #[.string s] 9) (by simp [Value.oneCell']) (by simp only [maxLen]; omega) (by omega) ?_; intro v2 w5 hown hg hat; have H1 := Lib.hid hown; have H2 := Lib.hid hg; have H3 := Lib.hid hat; clear hown hg hat)
            go_roundw
            case rel => exact ⟨j + 1, by omega, hlt, rfl, (by
                rw [HN.out, List.map_append]
                have e : j + 1 - 1 = j - 1 + 1 := by omega
                rw [e]
                exact H1.out), step_grown (by exact Hhs.out.alloc _) Hhb.out H2.out, fresh_grown (by exact Hhs.out.alloc _) Hhb.out H3.out⟩
            case measure => simp [intOf]; omega
          · obtain rfl : j = k := by omega
            obtain ⟨Av, cv, rfl, hcv1, hcv2⟩ := row_slice hown
            have hlen : (ss.take i ++ (ss.take j).drop (i + 1)).length = j - 1 := by rw [List.length_append, List.length_take, List.length_drop, List.length_take]; omega
            have hl9 : (whole (ss.take i ++ (ss.take j).drop (i + 1))).length ≤ 8 := by rw [whole_len, hlen]; omega
            have hwt := whole_texts (ss.take i ++ (ss.take j).drop (i + 1))
            have c9 : wr.cell? (ad.add i) = some (.string ss[i]) := by
              obtain ⟨ad', e, c0⟩ := str_cell (strS_step HA3.out hs) i hil
              injection e with e
              subst e
              exact c0
            have hlt0 : (ad.add i).block < w.heap.size := by
              obtain ⟨ad', e, c0⟩ := str_cell HA.out i hil
              injection e with e
              subst e
              exact World.block_lt_of_cell? w _ c0
            generalize ss[i] = s at *
            generalize ss.take i ++ (ss.take j).drop (i + 1) = ys at *
            have HQ5 := Lib.hid (HQ3.out.step hs (fun _ _ _ f => f))
            have Hhown := Lib.hid hown
            have Hhs := Lib.hid hs
            have Hhb := Lib.hid hb
            have Hhl9 := Lib.hid hl9
            have Hhwt := Lib.hid hwt
            have Hhlen := Lib.hid hlen
            clear hown hs hb hl9 hwt hlen
            go_wp2_with fail
            refine (Take_any _ wr w1.heap.size _ _ Hhl9.out HQ5.out).mono ?_
            rw [Hhtn.out]
            rintro e w6 ⟨rfl, hq6, hs6⟩
            have HO6 : Hid (w6.ownsRow 0 9 1 (.slice Av (j - 1) cv) (j - 1) (ys.map Value.string)) := Lib.hid (row_step Hhown.out hs6 (fun b hb' hok => by have := Hhb.out b hb'; have := hok.2; omega))
            have HS6 : Hid (Step No w1 w6) := Lib.hid ((HS3.out.trans Hhs.out (fun _ f _ => f)).trans hs6 (fun b hok hlt => by have := hok.1; omega))
            have c10 : w6.cell? (ad.add i) = some (.string s) := hs6.cell c9 (fun hok => by have := Hh0.out.size; have := hok.1; omega)
            have Hhq6 := Lib.hid hq6
            clear hq6
            clear c9 hs6 hlt0
            go_wp2_with fail
            refine (num_any _ _).mono ?_
            rintro e w' ⟨rfl, rfl⟩
            go_wp2_with fail
            refine (All_any _ w6 w1.heap.size _ Hhl9.out Hhq6.out).mono ?_
            rintro e w7 h7
            obtain ⟨v7, rfl, hs7, hr7⟩ := all_row h7
            rw [Hhwt.out] at hr7
            have hr8 := hr7 HZ.out
            have hr9 := own_strs' (row_step HO6.out hs7 (fun _ _ f => f)) Hhlen.out HZ.out
            have HS7 := Lib.hid (HS6.out.trans hs7 (fun _ f _ => f))
            clear hr7 h7 hs7
            have Hhr8 := Lib.hid hr8
            have Hhr9 := Lib.hid hr9
            clear hr8 hr9
            go_wp2_with fail
            refine (sameTexts_any w7 ys ys v7 _ Hhr8.out Hhr9.out).mono ?_
            rw [decide_eq_true rfl]
            rintro e w8 ⟨rfl, hs8⟩
            have HS8 := Lib.hid ((Hh0.out.trans HS7.out (fun _ f _ => f)).trans hs8 (fun _ f _ => f))
            clear hs8
            go_wp2_with fail
            refine (num_any _ _).mono ?_
            rintro e w' ⟨rfl, rfl⟩
            go_wp2
            go_ret
            exact ⟨rfl, HS8.out.below⟩
end Go.Proofs.Ytmhnnkifkbamoaa.QLaw
