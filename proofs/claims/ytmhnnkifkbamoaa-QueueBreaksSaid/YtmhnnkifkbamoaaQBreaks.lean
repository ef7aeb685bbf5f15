/- The law on turned bytes in a queue. -/
import Derived.Test.YtmhnnkifkbamoaaQLaw2
import Derived.Test.YtmhnnkifkbamoaaBytes
import Derived.Laws.Bits128
import Derived.WalkLawsBesides
namespace Go.Proofs.Ytmhnnkifkbamoaa.QLaw
open Go.RowKit Go.Proofs.Ytmhnnkifkbamoaa.Mem Go.Proofs.Ytmhnnkifkbamoaa.Read Go.Proofs.Ytmhnnkifkbamoaa.NetQ Go.Proofs.Ytmhnnkifkbamoaa.Bytes
set_option linter.unusedVariables false
set_option linter.unusedSimpArgs false
theorem i64_and1023 (n : Int) : bits .and .i64 n 1023 = n % 1024 := by
  have h127 : (BitVec.ofInt 64 1023).toNat = 2 ^ 10 - 1 := by decide
  have key : (BitVec.ofInt 64 n &&& BitVec.ofInt 64 1023).toNat = (n % ((2 ^ 64 : Nat) : Int)).toNat % 2 ^ 10 := by
    rw [BitVec.toNat_and, BitVec.toNat_ofInt, h127, Nat.and_two_pow_sub_one_eq_mod]
  show IntKind.i64.wrap ((BitVec.ofInt 64 n &&& BitVec.ofInt 64 1023).toNat : Nat) = n % 1024
  rw [key, IntKind.wrap_i64]
  omega
theorem b_put (xs : List Fr) (s : ByteArray) (h : xs.length < 8) (hz : s.size ≤ 1000) : fits xs s = true ∧ putS xs (s, false) = xs ++ [(s, false)] := by
  have hf : fits xs s = true := by
    unfold fits
    rw [decide_eq_true h, decide_eq_true (by omega)]
    rfl
  refine ⟨hf, ?_⟩
  unfold putS
  rw [hf, if_pos rfl]
theorem b_turn (s : ByteArray) (i : Nat) (k : Int) (hi : i < s.size) (hk : 1 ≤ k ∧ k ≤ 255) : breakS [(s, false)] 0 (i : Int) k = (0, [(turn s i k, true)]) := by
  unfold breakS
  rw [dif_pos ⟨by omega, by simp⟩]
  rw [if_neg]
  · rfl
  · simp
    omega
theorem b_copy (t : ByteArray) (hz : t.size ≤ 1000) : copyS [(t, true)] 0 = (true, 0, [(t, true), (t, true)]) := by
  have hf : fits [(t, true)] t = true := by
    unfold fits
    rw [decide_eq_true (by simp), decide_eq_true (by omega)]
    rfl
  unfold copyS
  rw [dif_pos ⟨by omega, by simp⟩]
  unfold putS
  show (fits [(t, true)] t, (0 : Int), if fits [(t, true)] t = true then _ else _) = _
  rw [hf, if_pos rfl]
  rfl
theorem b_form (xs : List Fr) (j : Nat) (i k b : Int) (hi : i = j) (hj : j < xs.length) (h : (xs[j]).2 = true ∨ k < 0 ∨ (xs[j]).1.size ≤ k ∨ b < 1 ∨ 255 < b) : breakS xs i k b = (2200, xs) := by
  subst hi
  unfold breakS
  rw [dif_pos ⟨by omega, by omega⟩, if_pos]
  simpa using h
theorem b_none (xs : List Fr) (i k b : Int) (h : ¬ (0 ≤ i ∧ i < xs.length)) : breakS xs i k b = (2201, xs) := by
  unfold breakS
  rw [dif_neg h]
set_option maxHeartbeats 20000000 in
set_option maxRecDepth 100000 in
theorem breaks_any (s : ByteArray) (at_ by_ x : Int) (w : World) (hsz : s.size ≤ 140737488351232) :
    Calls Try.prog 9 #[.string s, .int .i64 at_, .int .i64 by_, .int .i64 x] w fun e w' => e = .returned (.bool true) ∧ Below w.heap.size w w' := by
  by_cases hl0 : s.size < 1
  · go_enter Try.func9, Try.ntmps9
    go_wp2_with fail
    refine (awake_any _).mono ?_
    rintro e w1 ⟨rfl, h0⟩
    have Hh0 := Lib.hid h0
    clear h0
    go_wp2
    go_ret
    exact ⟨rfl, Hh0.out.below⟩
  by_cases hl1 : 1000 < s.size
  · go_enter Try.func9, Try.ntmps9
    go_wp2_with fail
    refine (awake_any _).mono ?_
    rintro e w1 ⟨rfl, h0⟩
    have Hh0 := Lib.hid h0
    clear h0
    go_wp2
    go_ret
    exact ⟨rfl, Hh0.out.below⟩
  clear hsz
  obtain ⟨d, hd, hd0, hd1⟩ : ∃ d : Int, 1 + bits .and .i64 x 1023 = d ∧ 1 ≤ d ∧ d ≤ 1024 := ⟨_, rfl, by rw [i64_and1023]; omega, by rw [i64_and1023]; omega⟩
  obtain ⟨k, hk, hk0, hk1⟩ : ∃ k : Int, 1 + bits .and .i64 by_ 127 = k ∧ 1 ≤ k ∧ k ≤ 128 := ⟨_, rfl, by rw [i64_and127]; omega, by rw [i64_and127]; omega⟩
  obtain ⟨i, hpl, hi⟩ := place_is at_ s.size (by omega) (by omega)
  have ht := turn_size s i k
  have HT1 := Lib.hid (b_put [] s (by simp) (by omega))
  have HT2 := Lib.hid (b_turn s i k hi ⟨hk0, by omega⟩)
  have HT3 := Lib.hid (b_copy (turn s i k) (by omega))
  have HT4 := Lib.hid (b_form [(turn s i k, true), (turn s i k, true)] 0 0 i k rfl (by simp) (.inl rfl))
  have HT5 := Lib.hid (b_form [(turn s i k, true), (turn s i k, true)] 1 1 i k rfl (by simp) (.inl rfl))
  have HT6 := Lib.hid (b_put [(turn s i k, true), (turn s i k, true)] s (by simp) (by omega))
  have HT7 := Lib.hid (b_form [(turn s i k, true), (turn s i k, true), (s, false)] 2 2 ((s.size : Int) - 1 + d) k rfl (by simp) (by right; right; left; show (s.size : Int) ≤ _; omega))
  have HT8 := Lib.hid (b_form [(turn s i k, true), (turn s i k, true), (s, false)] 2 2 (-d) k rfl (by simp) (by right; left; omega))
  have HT9 := Lib.hid (b_form [(turn s i k, true), (turn s i k, true), (s, false)] 2 2 i 0 rfl (by simp) (by right; right; right; left; omega))
  have HT10 := Lib.hid (b_form [(turn s i k, true), (turn s i k, true), (s, false)] 2 2 i (255 + d) rfl (by simp) (by right; right; right; right; omega))
  have HT11 := Lib.hid (b_none [(turn s i k, true), (turn s i k, true), (s, false)] 3 i k (by simp))
  have HT12 := Lib.hid (b_none [(turn s i k, true), (turn s i k, true), (s, false)] (-d) i k (by omega))
  have HZ2 : Hid (∀ x ∈ [((turn s i k), true), ((turn s i k), true)], x.1.size ≤ 1000064) := Lib.hid (by simp; omega)
  have HZ1 : Hid (∀ x ∈ [(s, false)], x.1.size ≤ 1000064) := Lib.hid (by simp; omega)
  have HZ3 : Hid (∀ x ∈ [((turn s i k), true), ((turn s i k), true), (s, false)], x.1.size ≤ 1000064) := Lib.hid (by simp; omega)
  have HD := Lib.hid (turn_def s i k)
  have HTE := Lib.hid (turn_eq s i k hi hk0 (by omega))
  have hsz : (s.size : Int) ≤ 1000 := by omega
  have hsz0 : (1 : Int) ≤ s.size := by omega
  have hi1 : (i : Int) < s.size := by omega
  generalize turn s i k = t at *
  go_enter Try.func9, Try.ntmps9
  go_wp2_with fail
  refine (awake_any _).mono ?_
  rintro e w1 ⟨rfl, h0⟩
  obtain ⟨hq, hs⟩ := new_q w1
  have Hh0 := Lib.hid h0
  have Hhq := Lib.hid hq
  have Hhs := Lib.hid hs
  clear h0 hq hs
  go_wp2_with fail
  refine (new_any _).mono ?_
  rintro e w2 ⟨rfl, h3⟩
  rw [← h3] at Hhq Hhs
  clear h3
  go_wp2_with fail
  refine (ans (w0 := w1) (v' := .bool true) (xs' := [(s, false)]) Hhs.out (Put_any _ w2 w1.heap.size _ s Hhq.out) (by rw [HT1.out.1]) HT1.out.2).mono ?_
  rintro e w3 ⟨rfl, hq, hs⟩
  clear Hhs Hhq
  have Hhq := Lib.hid hq
  have Hhs := Lib.hid hs
  clear hq hs
  go_wp2_with fail
  refine (ans (w0 := w1) (v' := .int .i64 0) (xs' := [(t, true)]) Hhs.out (Break_any _ w3 w1.heap.size _ 0 i k HZ1.out Hhq.out) (by rw [HT2.out]) (by rw [HT2.out])).mono ?_
  rintro e w4 ⟨rfl, hq, hs⟩
  clear Hhs Hhq
  have Hhq := Lib.hid hq
  have Hhs := Lib.hid hs
  clear hq hs
  go_wp2_with fail
  refine (ans (w0 := w1) (v' := .tuple #[.bool true, .int .i64 0]) (xs' := [(t, true), (t, true)]) Hhs.out (Copy_any _ w4 w1.heap.size _ 0 Hhq.out) (by rw [HT3.out]) (by rw [HT3.out])).mono ?_
  rintro e w5 ⟨rfl, hq, hs⟩
  clear Hhs Hhq
  have Hhq := Lib.hid hq
  have Hhs := Lib.hid hs
  clear hq hs
  go_wp2_with fail
  refine (ans (w0 := w1) (v' := .int .i64 2200) (xs' := [(t, true), (t, true)]) Hhs.out (Break_any _ w5 w1.heap.size _ 0 i k HZ2.out Hhq.out) (by rw [HT4.out]) (by rw [HT4.out])).mono ?_
  rintro e w6 ⟨rfl, hq, hs⟩
  clear Hhs Hhq
  have Hhq := Lib.hid hq
  have Hhs := Lib.hid hs
  clear hq hs
  go_wp2_with fail
  refine (ans (w0 := w1) (v' := .int .i64 2200) (xs' := [(t, true), (t, true)]) Hhs.out (Break_any _ w6 w1.heap.size _ 1 i k HZ2.out Hhq.out) (by rw [HT5.out]) (by rw [HT5.out])).mono ?_
  rintro e w7 ⟨rfl, hq, hs⟩
  clear Hhs Hhq
  have Hhq := Lib.hid hq
  have Hhs := Lib.hid hs
  clear hq hs
  go_wp2_with fail
  refine (ans (w0 := w1) (v' := .bool true) (xs' := [(t, true), (t, true), (s, false)]) Hhs.out (Put_any _ w7 w1.heap.size _ s Hhq.out) (by rw [HT6.out.1]) HT6.out.2).mono ?_
  rintro e w8 ⟨rfl, hq, hs⟩
  clear Hhs Hhq
  have Hhq := Lib.hid hq
  have Hhs := Lib.hid hs
  clear hq hs
  go_wp2_with fail
  refine (ans (w0 := w1) (v' := .int .i64 2200) (xs' := [(t, true), (t, true), (s, false)]) Hhs.out (Break_any _ w8 w1.heap.size _ 2 _ k HZ3.out Hhq.out) (by rw [HT7.out]) (by rw [HT7.out])).mono ?_
  rintro e w9 ⟨rfl, hq, hs⟩
  clear Hhs Hhq
  have Hhq := Lib.hid hq
  have Hhs := Lib.hid hs
  clear hq hs
  go_wp2_with fail
  refine (ans (w0 := w1) (v' := .int .i64 2200) (xs' := [(t, true), (t, true), (s, false)]) Hhs.out (Break_any _ w9 w1.heap.size _ 2 _ k HZ3.out Hhq.out) (by rw [HT8.out]) (by rw [HT8.out])).mono ?_
  rintro e w10 ⟨rfl, hq, hs⟩
  clear Hhs Hhq
  have Hhq := Lib.hid hq
  have Hhs := Lib.hid hs
  clear hq hs
  go_wp2_with fail
  refine (ans (w0 := w1) (v' := .int .i64 2200) (xs' := [(t, true), (t, true), (s, false)]) Hhs.out (Break_any _ w10 w1.heap.size _ 2 i 0 HZ3.out Hhq.out) (by rw [HT9.out]) (by rw [HT9.out])).mono ?_
  rintro e w11 ⟨rfl, hq, hs⟩
  clear Hhs Hhq
  have Hhq := Lib.hid hq
  have Hhs := Lib.hid hs
  clear hq hs
  go_wp2_with fail
  refine (ans (w0 := w1) (v' := .int .i64 2200) (xs' := [(t, true), (t, true), (s, false)]) Hhs.out (Break_any _ w11 w1.heap.size _ 2 i _ HZ3.out Hhq.out) (by rw [HT10.out]) (by rw [HT10.out])).mono ?_
  rintro e w12 ⟨rfl, hq, hs⟩
  clear Hhs Hhq
  have Hhq := Lib.hid hq
  have Hhs := Lib.hid hs
  clear hq hs
  go_wp2_with fail
  refine (ans (w0 := w1) (v' := .int .i64 2201) (xs' := [(t, true), (t, true), (s, false)]) Hhs.out (Break_any _ w12 w1.heap.size _ 3 i k HZ3.out Hhq.out) (by rw [HT11.out]) (by rw [HT11.out])).mono ?_
  rintro e w13 ⟨rfl, hq, hs⟩
  clear Hhs Hhq
  have Hhq := Lib.hid hq
  have Hhs := Lib.hid hs
  clear hq hs
  go_wp2_with fail
  refine (ans (w0 := w1) (v' := .int .i64 2201) (xs' := [(t, true), (t, true), (s, false)]) Hhs.out (Break_any _ w13 w1.heap.size _ _ i k HZ3.out Hhq.out) (by rw [HT12.out]) (by rw [HT12.out])).mono ?_
  rintro e w14 ⟨rfl, hq, hs⟩
  clear Hhs Hhq
  have Hhq := Lib.hid hq
  have Hhs := Lib.hid hs
  clear hq hs
  clear HT1 HT2 HT3 HT4 HT5 HT6 HT7 HT8 HT9 HT10 HT11 HT12 HZ1 HZ2 HZ3
  go_wp2_with fail
  refine (All_any _ w14 w1.heap.size _ (by simp) Hhq.out).mono ?_
  rintro e w15 h15
  obtain ⟨v, rfl, hs15, hr⟩ := all_row h15
  have hr1 := hr (by simp only [List.map, List.mem_cons, List.not_mem_nil, or_false, maxLen]; rintro _ (rfl | rfl | rfl) <;> omega)
  obtain ⟨A, c, rfl, -, -⟩ := sl_len hr1
  obtain ⟨ad, rfl, c0⟩ := str_cell hr1 0 (by simp)
  obtain ⟨ad1, e1, c1⟩ := str_cell hr1 1 (by simp)
  obtain ⟨ad2, e2, c2⟩ := str_cell hr1 2 (by simp)
  injection e1 with e1
  injection e2 with e2
  subst e1 e2
  have c0 : w15.cell? ad = some (.string t) := c0
  have c00 : w15.cell? (ad.add 0) = some (.string t) := c0
  have c1 : w15.cell? (ad.add 1) = some (.string t) := c1
  have c2 : w15.cell? (ad.add 2) = some (.string s) := c2
  have hts : (t.size : Int) = s.size := by omega
  have hs16 := (Hh0.out.trans Hhs.out (fun _ f _ => f)).trans hs15 (fun _ f _ => f)
  clear hr hr1 h15 hs15 Hhq Hhs
  have Hhs16 := Lib.hid hs16
  clear hs16
  have kb := fun W : World => Lib.run_convert_string_bytes (P := Try.prog) W 9 25 5 s Try.underlying9 Try.underlying25 Try.underlying5
  go_upto_region 19 with (fail)
  generalize hcc : grownCap _ s.size 0 5 = cc
  have hf : BytesNew w15.heap.size w15 (Lib.bytesWorld w15 5 s) s.data.toList s.size := bytesNew w15 0 5 s
  have hst : Step No w15 (Lib.bytesWorld w15 5 s) := Step.ofBelow hf.below
  generalize Lib.bytesWorld w15 5 s = w16 at *
  have hl := (Array.length_toList : s.data.toList.length = s.data.size)
  have cx := hf.cell i hi
  have fx := hf.free i hi
  have hte := HTE.out
  have hd2 := HD.out
  clear HTE HD hcc kb
  generalize s.data.toList.getD i 0 = p at *
  generalize p ^^^ UInt8.ofNat k.toNat = X at *
  have HL := Lib.hid hl
  have hst2 : Step No w15 (w16.setCell ⟨w15.heap.size, i, none⟩ (.int .u8 X.toNat)) := hst.setCell (fun h => absurd h (Nat.lt_irrefl _)) _
  have hf2 := hf.put hl i X hi
  have hk := fun q : Nat => bytes_read (P := Try.prog) ((w16.setCell ⟨w15.heap.size, i, none⟩ (.int .u8 X.toNat)).drewN q) w15.heap.size _ s.size cc (by rw [List.length_set]; exact HL.out) hf2.cell 25 5 9 Try.underlying25 Try.underlying5 Try.underlying9
  rw [← hd2] at hk
  have htt : (t.toList == t.toList) = true := beq_self_eq_true _
  have hss : (s.toList == s.toList) = true := beq_self_eq_true _
  have d0 := hst2.cell c00 (fun f => f)
  have d0' := hst2.cell c0 (fun f => f)
  have d1 := hst2.cell c1 (fun f => f)
  have d2 := hst2.cell c2 (fun f => f)
  clear c00 c0 c1 c2 hd2 hl
  have Hhf := Lib.hid hf
  have Hhf2 := Lib.hid hf2
  have Hhst := Lib.hid hst
  clear hf hf2 hst
  go_wp2_with fail
  clear cx fx
  generalize w16.setCell ⟨w15.heap.size, i, none⟩ (.int .u8 X.toNat) = w17 at *
  have Hhst2 := Lib.hid hst2
  clear hst2
  clear HL Hhf Hhst Hhf2 c0 c1 c2 hts hte hd hpl hk0 hk1 hd0 hd1 hi1 hi hsz hsz0 hl0 hl1 ht
  simp only [List.append]
  go_region_held3 (fun w' => w'.cell? ad = some (.string t) ∧ w'.cell? (ad.add 0) = some (.string t) ∧ w'.cell? ⟨ad.block, ad.off + 1, none⟩ = some (.string t) ∧ w'.cell? ⟨ad.block, ad.off + 2, none⟩ = some (.string s) ∧ (convert 25 9 (.slice (some ⟨w15.heap.size, 0, none⟩) s.size cc)).run Try.prog w' = .ok (.string t) w') (first | exact ⟨d0', d0, d1, d2, hk _⟩ | (trace_state; fail)) (first | (go_at_call 23; refine (num_any _ _).mono ?_; rintro e w' ⟨rfl, rfl⟩))
  all_goals
    go_wp2
    go_ret
    exact ⟨rfl, ((Hhs16.out.trans Hhst2.out (fun _ f _ => f)).drewN _).below⟩
end Go.Proofs.Ytmhnnkifkbamoaa.QLaw
