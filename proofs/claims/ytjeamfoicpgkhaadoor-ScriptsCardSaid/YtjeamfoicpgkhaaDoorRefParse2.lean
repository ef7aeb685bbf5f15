/- Acts, read from a text: the reference's walk. -/
import Derived.Test.YtjeamfoicpgkhaaDoorRefParse
namespace Go.Proofs.YtjeamfoicpgkhaaDoor.ScrW
open Go.RowKit Go.Lib Go.Proofs.YtjeamfoicpgkhaaDoor.Mem Go.Proofs.YtjeamfoicpgkhaaDoor.Scr Go.Proofs.YtjeamfoicpgkhaaDoor.Read Go.Proofs.YtjeamfoicpgkhaaDoor.Take Go.Proofs.YtjeamfoicpgkhaaDoor.RefTaker
set_option linter.unusedVariables false
set_option linter.unusedSimpArgs false
theorem actF_text (l : List UInt8) (p : SF) : (actF l p).1.text.size ≤ l.length := by
  have key : ∀ m : List UInt8, (⟨m.toArray⟩ : ByteArray).size = m.length := fun m => RefDec.str_size m
  have hs : ∀ q : SF, (strF l q).1.length ≤ l.length := by
    intro q
    unfold strF
    simp only
    split
    · simp
    · simp only [List.length_take, List.length_drop]; omega
  unfold actF
  simp only [key]
  split
  · exact hs _
  · exact Nat.zero_le _
theorem strF_le (l : List UInt8) (p : SF) : (strF l p).2.1 ≤ max p.1 l.length + 1 := by
  have h1 := digF_le 58 l p
  have h2 := digF_num 58 l p
  unfold strF
  simp only
  split
  · exact h1
  · rename_i hc
    simp only [Bool.or_eq_true, not_or, decide_eq_true_eq] at hc
    simp only
    omega
theorem actF_le (l : List UInt8) (p : SF) (h : p.1 ≤ l.length) : (actF l p).2.1 ≤ l.length + 20 := by
  have h1 : (digF 44 l (p.1 + 3, p.2)).2.1 ≤ max (p.1 + 3) l.length + 1 := digF_le 44 l (p.1 + 3, p.2)
  have key : ∀ q : SF, q.1 ≤ l.length + 5 → (strF l (digF 44 l q).2).2.1 ≤ l.length + 12 := by
    intro q hq
    have h2 := digF_le 44 l q
    have h3 := strF_le l (digF 44 l q).2
    omega
  have k1 := key (digF 44 l (p.1 + 3, p.2)).2 (by omega)
  have k2 : (strF l (digF 44 l (p.1 + 2, p.2)).2).2.1 ≤ l.length + 12 := key (p.1 + 2, p.2) (show p.1 + 2 ≤ _ by omega)
  unfold actF
  simp only
  cases (isMove (idx (l.getD p.1 0)) || isEdit (idx (l.getD p.1 0))) <;> cases (isEdit (idx (l.getD p.1 0)) || isBreak (idx (l.getD p.1 0))) <;> simp only [if_true, if_false, Bool.false_eq_true] <;> omega
theorem actF_de {t : List UInt8} {q q6 : Nat} {C1 C2 : UInt8} {K m4 m5 : Int} {u x6 : Bool} {p4 p5 : SF} {t6 : List UInt8} (h1 : t.getD q 0 = C1) (hK : idx C1 = K) (h2 : t.getD (q + 1) 0 = C2) (hD : (isMove K || isEdit K) = true) (hU : (t[q + 2]? == some 117) = u)
    (h4 : digF 44 t (q + 3, false) = (m4, p4)) (hE : (isEdit K || isBreak K) = true) (h5 : digF 44 t p4 = (m5, p5)) (h6 : strF t p5 = (t6, q6, x6)) : actF t (q, false) = (⟨K, (C2.toNat : Int) - 48, u, m4, m5, ⟨t6.toArray⟩⟩, (q6 + 1, x6)) := by
  unfold actF
  simp only [h1, hK, h2, hD, hU, h4, hE, h5, h6, if_true]
theorem actF_d {t : List UInt8} {q q4 : Nat} {C1 C2 : UInt8} {K m4 : Int} {u x4 : Bool} (h1 : t.getD q 0 = C1) (hK : idx C1 = K) (h2 : t.getD (q + 1) 0 = C2) (hD : (isMove K || isEdit K) = true) (hU : (t[q + 2]? == some 117) = u)
    (h4 : digF 44 t (q + 3, false) = (m4, q4, x4)) (hE : (isEdit K || isBreak K) = false) : actF t (q, false) = (⟨K, (C2.toNat : Int) - 48, u, m4, 0, ⟨#[]⟩⟩, (q4 + 1, x4)) := by
  unfold actF
  simp only [h1, hK, h2, hD, hU, h4, hE, if_true, Bool.false_eq_true, if_false]
theorem actF_n {t : List UInt8} {q : Nat} {C1 C2 : UInt8} {K : Int} (h1 : t.getD q 0 = C1) (hK : idx C1 = K) (h2 : t.getD (q + 1) 0 = C2) (hD : (isMove K || isEdit K) = false) (hE : (isEdit K || isBreak K) = false) :
    actF t (q, false) = (⟨K, (C2.toNat : Int) - 48, false, 0, 0, ⟨#[]⟩⟩, (q + 2 + 1, false)) := by
  unfold actF
  simp only [h1, hK, h2, hD, hE, Bool.false_eq_true, if_false]
set_option maxHeartbeats 8000000 in
set_option maxRecDepth 100000 in
theorem ParseActs_any (w : World) (s : ByteArray) (hs : s.size ≤ 140737488355328) : Calls Tryd.prog 11 #[.string s] w (ParsePost w s) := by
  have h0 : Hid (PF s w w.heap.size (.slice none 0 0) [] (0, false) (w.alloc (.cells #[.string s, .int .i64 0, .bool false] 69))) :=
    Lib.hid ⟨World.ownsRow_nil _ _ _ _, fun k hk => by simp [Value.ownBlock] at hk, fun a ha => by simp at ha, blk_new w _, invF_start _, Step.alloc (Step.refl _ _) _, Nat.le_refl _, by simp, by simp⟩
  go_enter Tryd.func11, Tryd.ntmps11
  go_wp2_with fail
  go_loopw [4] (fun v wr => ∃ out p, PF s w w.heap.size v out p wr) (fun v _ => 1026 - lenV v)
  case atStart => exact ⟨_, _, h0.out⟩
  case round =>
    obtain ⟨out, p, h⟩ := hrel
    obtain ⟨A, c, rfl, -, -⟩ := row_slice h.1
    obtain ⟨q, x⟩ := p
    obtain ⟨c0, c1, c2, f1, f2⟩ := f_cells h.2.2.2.1
    have hq0 : (0 : Int) ≤ q := by omega
    have hq9 : (q : Int) ≤ 281474976710000 := by have := h.2.2.2.2.2.2.2.2; simp only at this; omega
    have HP := Lib.hid h
    clear h
    have hsl : s.data.toList.length = s.size := Array.length_toList
    by_cases hlt : q + 1 < s.size
    · have t1 : decide ((q : Int) + 1 < s.size) = true := decide_eq_true (by omega)
      cases x
      · by_cases hlen : 1024 < out.length
        · have HH := Lib.hid (show EndedF s out (q, false) from .inr (.inr hlen))
          have hb : decide ((out.length : Int) ≤ 1024) = false := decide_eq_false (by omega)
          clear hsl
          obtain ⟨U, ee, HU⟩ : ∃ U ee, Hid (showS out = (U, ee)) := ⟨_, _, Lib.hid rfl⟩
          go_wp2_with fail
          refine (ShowActs_any _ _ out HP.out.acts).mono ?_
          rintro e w1 ⟨rfl, hs1⟩
          rw [HU.out]
          have d2 := hs1.cell c2 (fun f => f)
          clear c0 c1 c2 f1 f2
          have Hhs1 := Lib.hid hs1
          clear hs1
          by_cases h0 : ee = 0
          · subst h0
            by_cases hU : U = s
            · subst hU
              have hb : (U.toList == U.toList) = true := beq_self_eq_true _
              go_wp2
              go_ret2
              exact parseF_good HP.out HH.out HU.out rfl Hhs1.out
            · have hb : (U.toList == s.toList) = false := beq_eq_false_iff_ne.2 (fun h => hU (ByteArray.ext (Array.ext' (by rw [← ByteArray.toList_eq, ← ByteArray.toList_eq]; exact h))))
              have HN := Lib.hid hU
              clear hU
              go_wp2
              go_ret2
              exact parseF_bad HP.out HH.out HU.out (.inr (.inr HN.out)) Hhs1.out
          · have hb : (ee == 0) = false := beq_eq_false_iff_ne.2 h0
            have hb2 : (ee != 0) = true := bne_iff_ne.2 h0
            have HN := Lib.hid h0
            clear h0
            go_wp2
            go_ret2
            exact parseF_bad HP.out HH.out HU.out (.inr (.inl HN.out)) Hhs1.out
        · have hb : decide ((out.length : Int) ≤ 1024) = true := decide_eq_true (by omega)
          clear hsl
          go_wp2_with fail
          obtain ⟨C1, hC1, HC1⟩ : ∃ c : UInt8, s[q]'(by omega) = c ∧ Hid (s.data.toList.getD q 0 = c) := ⟨_, rfl, Lib.hid (Go.Proofs.YtjeamfoicpgkhaaDoor.RefTaker.byte_at s q (by omega))⟩
          have HA0 : Hid (AF s wr w.heap.size wr.heap.size #[.int .i64 (-1), .int .i64 0, .bool false, .int .i64 0, .int .i64 0, .string ⟨#[]⟩] (q, false) (wr.alloc (.cells #[.int .i64 (-1), .int .i64 0, .bool false, .int .i64 0, .int .i64 0, .string ⟨#[]⟩] TA))) :=
            Lib.hid ⟨blk_new wr _, blk_alloc HP.out.2.2.2.1 _, Step.alloc (Step.refl _ _) _, blk_lt HP.out.2.2.2.1, Nat.le_refl _⟩
          have hlt1 : (q : Int) < s.size := by omega
          have hlt2 : (q : Int) + 1 < s.size := by omega
          clear c0 c1 c2 f1 f2
          obtain ⟨wo, rfl⟩ : ∃ wo : World, wo = wr := ⟨_, rfl⟩
          go_loopw [7] (fun i w' => ∃ k : Nat, k ≤ 8 ∧ i = .int .i64 k ∧ AF s wo w.heap.size wo.heap.size #[.int .i64 (pk C1 k), .int .i64 0, .bool false, .int .i64 0, .int .i64 0, .string ⟨#[]⟩] (q, false) w') (fun i _ => 8 - (RowKit.intOf i).toNat)
          case atStart => exact ⟨0, by omega, rfl, HA0.out⟩
          case round =>
            obtain ⟨k, hk, rfl, ha⟩ := hrel
            obtain ⟨⟨a0, -, -, -, -, -⟩, ⟨g0, -, -, -, -, -⟩, c0, c1, c2, f1, f2⟩ := ha.six
            by_cases hk8 : k < 8
            · obtain ⟨L, hL, HL⟩ : ∃ L : UInt8, (({ data := #[101, 116, 100, 108, 99, 98, 120, 106] } : ByteArray)[k]'(show k < 8 from hk8)) = L ∧ Hid (letters.getD k 0 = L) := ⟨_, letter_at k hk8, Lib.hid rfl⟩
              have hk0 : (0 : Int) ≤ k := by omega
              have hk1 : (k : Int) < 8 := by omega
              have HAK := Lib.hid ha
              clear ha
              by_cases hcl : C1 = L
              · have hb1 : ((C1.toNat : Int) == L.toNat) = true := beq_iff_eq.2 (by rw [hcl])
                have hb2 : (C1.toNat == L.toNat) = true := beq_iff_eq.2 (by rw [hcl])
                have HPK : Hid (pk C1 (k + 1) = (k : Int)) := Lib.hid (by simp only [pk]; rw [if_pos (by rw [HL.out, hcl])])
                clear hcl
                go_wp2
                go_quiet (fail)
                go_wp2
                go_roundw
                case rel => exact ⟨k + 1, by omega, by go_num, by rw [HPK.out]; exact (HAK.out.drewN _).set 0 (.int .i64 k)⟩
                case measure => simp [RowKit.intOf]; omega
              · have hb1 : ((C1.toNat : Int) == L.toNat) = false := beq_eq_false_iff_ne.2 (fun h => hcl (UInt8.toNat_inj.1 (by omega)))
                have hb2 : (C1.toNat == L.toNat) = false := beq_eq_false_iff_ne.2 (fun h => hcl (UInt8.toNat_inj.1 h))
                have HPK : Hid (pk C1 (k + 1) = pk C1 k) := Lib.hid (by simp only [pk]; rw [if_neg (by rw [HL.out]; exact fun h => hcl h.symm)])
                clear hcl
                go_wp2
                go_quiet (fail)
                go_wp2
                go_roundw
                case rel => exact ⟨k + 1, by omega, by go_num, by rw [HPK.out]; exact HAK.out.drewN _⟩
                case measure => simp [RowKit.intOf]; omega
            · obtain rfl : k = 8 := by omega
              rw [pk_idx] at ha a0
              clear a0 g0 c0 c1 c2 f1 f2
              obtain ⟨C2, hC2, HC2⟩ : ∃ c : UInt8, s[q + 1]'hlt = c ∧ Hid (s.data.toList.getD (q + 1) 0 = c) := ⟨_, rfl, Lib.hid (Go.Proofs.YtjeamfoicpgkhaaDoor.RefTaker.byte_at s (q + 1) hlt)⟩
              obtain ⟨r2, hr2, HR2⟩ : ∃ r : Nat, (q : Int) + 2 = r ∧ Hid (r = q + 2) := ⟨q + 2, by omega, Lib.hid rfl⟩
              obtain ⟨r1, hr1, hr1', hr1b⟩ : ∃ r : Int, (q : Int) + 1 = r ∧ r.toNat = q + 1 ∧ 0 ≤ r := ⟨_, rfl, by omega, by omega⟩
              have hc8 : (C2.toNat : Int) ≤ 255 := by have := C2.toNat_lt; omega
              have hne1 : w.heap.size ≠ wo.heap.size := by have := ha.2.2.2.1; omega
              have hne2 : wo.heap.size ≠ w.heap.size := by omega
              obtain ⟨K, HK⟩ : ∃ K, Hid (idx C1 = K) := ⟨_, Lib.hid rfl⟩
              rw [HK.out] at ha
              obtain ⟨⟨a0, a1, a2, a3, a4, a5⟩, ⟨g0, g1, g2, g3, g4, g5⟩, c0, c1, c2, f1, f2⟩ := ha.six
              have HAI := Lib.hid ha
              clear ha hk8
              go_upto_region 12 with (fail)
              generalize hW : World.setCell (World.setCell wr _ _) _ _ = W1
              have ha1 : AF s wo w.heap.size wo.heap.size #[.int .i64 K, .int .i64 ((C2.toNat : Int) - 48), .bool false, .int .i64 0, .int .i64 0, .string ⟨#[]⟩] (r2, false) W1 := by rw [← hW]; exact (HAI.out.set 1 (.int .i64 ((C2.toNat : Int) - 48))).move r2
              clear hW a0 a1 a2 a3 a4 a5 g0 g1 g2 g3 g4 g5 c0 c1 c2 f1 f2 HAI
              obtain ⟨⟨a0, a1, a2, a3, a4, a5⟩, ⟨g0, g1, g2, g3, g4, g5⟩, c0, c1, c2, f1, f2⟩ := ha1.six
              have HA1 := Lib.hid ha1
              clear ha1
              obtain ⟨r3, hr3, HR3⟩ : ∃ r : Nat, (r2 : Int) + 1 = r ∧ Hid (r = r2 + 1) := ⟨r2 + 1, by omega, Lib.hid rfl⟩
              obtain ⟨m4, q4, x4, E4⟩ : ∃ m q' x', Hid (digF 44 s.data.toList (q + 3, false) = (m, q', x')) := ⟨_, _, _, Lib.hid rfl⟩
              have hq4 : q4 ≤ s.size + 10 := by
                have := digF_le 44 s.data.toList (q + 3, false)
                rw [E4.out, Array.length_toList] at this
                have h2 : q4 ≤ max (q + 3) s.size + 1 := this
                omega
              have hr20 : (0 : Int) ≤ r2 := by omega
              have hr2b : (r2 : Int) ≤ 281474976710010 := by omega
              rcases (by omega : K = 0 ∨ (2 ≤ K ∧ K ≤ 4) ∨ K = 5 ∨ (K < 2 ∧ K ≠ 0) ∨ 5 < K) with hkk | hkk | hkk | hkk | hkk
              · subst hkk
                have HD : Hid ((isMove 0 || isEdit 0) = true ∧ (isEdit 0 || isBreak 0) = true) := Lib.hid (by decide)
                obtain ⟨m5, q5, x5, E5⟩ : ∃ m q' x', Hid (digF 44 s.data.toList (q4, x4) = (m, q', x')) := ⟨_, _, _, Lib.hid rfl⟩
                obtain ⟨t6, q6, x6, E6⟩ : ∃ m q' x', Hid (strF s.data.toList (q5, x5) = (m, q', x')) := ⟨_, _, _, Lib.hid rfl⟩
                have hq5 : q5 ≤ s.size + 15 := by
                  have := digF_le 44 s.data.toList (q4, x4)
                  rw [E5.out, Array.length_toList] at this
                  have h2 : q5 ≤ max q4 s.size + 1 := this
                  omega
                have hq6 : q6 ≤ s.size + 18 := by
                  have := strF_le s.data.toList (q5, x5)
                  rw [E6.out, Array.length_toList] at this
                  have h2 : q6 ≤ max q5 s.size + 1 := this
                  omega
                obtain ⟨r7, hr7, HR7⟩ : ∃ r : Nat, (q6 : Int) + 1 = r ∧ Hid (r = q6 + 1) := ⟨q6 + 1, by omega, Lib.hid rfl⟩
                have hq6b : (q6 : Int) ≤ 281474976710000 := by omega
                have hq60 : (0 : Int) ≤ q6 := by omega
                by_cases hr2s : r2 < s.size
                · have v1 : decide ((r2 : Int) < s.size) = true := decide_eq_true (by omega)
                  have v1n : decide (r2 < s.size) = true := decide_eq_true hr2s
                  have v2 : (r2 : Int) < s.size := by omega
                  obtain ⟨C3, hC3, HC3⟩ : ∃ c : UInt8, s[r2]'hr2s = c ∧ Hid (s.data.toList.getD r2 0 = c) := ⟨_, rfl, Lib.hid (Go.Proofs.YtjeamfoicpgkhaaDoor.RefTaker.byte_at s r2 hr2s)⟩
                  have hb3 : ((C3.toNat : Int) == 117) = (C3 == 117) := b_eq C3 117
                  have HU : Hid ((s.data.toList[q + 2]? == some 117) = (C3 == 117)) := Lib.hid (by
                    have h := HC3.out
                    rw [HR2.out] at h hr2s
                    rw [List.getD_eq_getElem?_getD, List.getElem?_eq_getElem (by rw [Array.length_toList]; exact hr2s)] at h
                    rw [List.getElem?_eq_getElem (by rw [Array.length_toList]; exact hr2s)]
                    rw [show s.data.toList[q + 2]'(by rw [Array.length_toList]; exact hr2s) = C3 from h]
                    rfl)
                  generalize (C3 == 117) = u at *
                  have HTX : Hid ((⟨0, (C2.toNat : Int) - 48, u, m4, m5, ⟨t6.toArray⟩⟩ : ActD).text.size ≤ maxLen) := Lib.hid (by
                    have := actF_text s.data.toList (q, false)
                    rw [(actF_de HC1.out HK.out HC2.out HD.out.1 HU.out E4.out HD.out.2 E5.out E6.out), Array.length_toList] at this
                    exact Nat.le_trans this (Nat.le_trans hs (by decide)))
                  have HACT : Hid (actF s.data.toList (q, false) = (⟨0, (C2.toNat : Int) - 48, u, m4, m5, ⟨t6.toArray⟩⟩, (r7, x6))) := Lib.hid (by rw [HR7.out]; exact (actF_de HC1.out HK.out HC2.out HD.out.1 HU.out E4.out HD.out.2 E5.out E6.out))
                  have HBD : Hid (((r7, x6) : SF).1 ≤ 281474976710000) := Lib.hid (by
                    have := actF_le s.data.toList (q, false) (by rw [Array.length_toList]; show q ≤ s.size; omega)
                    rw [HACT.out, Array.length_toList] at this
                    have h2 : r7 ≤ s.size + 20 := this
                    show r7 ≤ _
                    omega)
                  go_upto_region 15 with (fail)
                  generalize hW : World.setCell (World.setCell W1 _ _) _ _ = W2
                  have ha2 : AF s wo w.heap.size wo.heap.size #[.int .i64 0, .int .i64 ((C2.toNat : Int) - 48), .bool u, .int .i64 0, .int .i64 0, .string ⟨#[]⟩] (r3, false) W2 := by rw [← hW]; exact (HA1.out.set 2 (.bool u)).move r3
                  have HA2 := Lib.hid ha2
                  clear hW ha2 a0 a1 a2 a3 a4 a5 g0 g1 g2 g3 g4 g5 c0 c1 c2 f1 f2
                  go_wp2_with fail
                  refine (Go.Proofs.YtjeamfoicpgkhaaDoor.RefTaker.num_any s hs _ w.heap.size (r3, false) HA2.out.2.1 (by show r3 ≤ _; have := HR3.out; have := HR2.out; omega)).mono ?_
                  rintro e w4 hp
                  rw [show digF 44 s.data.toList (r3, false) = (m4, q4, x4) from by rw [HR3.out, HR2.out]; exact E4.out] at hp
                  obtain ⟨rfl, ha4⟩ := AF.take HA2.out hp
                  obtain ⟨⟨a0, a1, a2, a3, a4, a5⟩, ⟨g0, g1, g2, g3, g4, g5⟩, c0, c1, c2, f1, f2⟩ := ha4.six
                  have HA3 := Lib.hid ha4
                  clear ha4 hp
                  go_upto_region 16 with (fail)
                  generalize hW : World.setCell w4 _ _ = W4
                  have ha5 : AF s wo w.heap.size wo.heap.size #[.int .i64 0, .int .i64 ((C2.toNat : Int) - 48), .bool u, .int .i64 m4, .int .i64 0, .string ⟨#[]⟩] (q4, x4) W4 := by rw [← hW]; exact HA3.out.set 3 (.int .i64 m4)
                  clear hW a0 a1 a2 a3 a4 a5 g0 g1 g2 g3 g4 g5 c0 c1 c2 f1 f2
                  obtain ⟨⟨a0, a1, a2, a3, a4, a5⟩, ⟨g0, g1, g2, g3, g4, g5⟩, c0, c1, c2, f1, f2⟩ := ha5.six
                  have HA4 := Lib.hid ha5
                  clear ha5 HA3 HA2
                  go_wp2_with fail
                  refine (Go.Proofs.YtjeamfoicpgkhaaDoor.RefTaker.num_any s hs _ w.heap.size (q4, x4) HA4.out.2.1 (by show q4 ≤ _; omega)).mono ?_
                  rintro e w5 hp
                  rw [E5.out] at hp
                  obtain ⟨rfl, ha4⟩ := AF.take HA4.out hp
                  clear a0 a1 a2 a3 a4 a5 g0 g1 g2 g3 g4 g5 c0 c1 c2 f1 f2
                  obtain ⟨⟨a0, a1, a2, a3, a4, a5⟩, ⟨g0, g1, g2, g3, g4, g5⟩, c0, c1, c2, f1, f2⟩ := ha4.six
                  have HA5 := Lib.hid ha4
                  clear ha4 hp
                  go_upto_region 18 with (fail)
                  generalize hW : World.setCell w5 _ _ = W5
                  have ha5 : AF s wo w.heap.size wo.heap.size #[.int .i64 0, .int .i64 ((C2.toNat : Int) - 48), .bool u, .int .i64 m4, .int .i64 m5, .string ⟨#[]⟩] (q5, x5) W5 := by rw [← hW]; exact HA5.out.set 4 (.int .i64 m5)
                  have HA6 := Lib.hid ha5
                  clear hW ha5 a0 a1 a2 a3 a4 a5 g0 g1 g2 g3 g4 g5 c0 c1 c2 f1 f2
                  go_wp2_with fail
                  refine (Go.Proofs.YtjeamfoicpgkhaaDoor.RefTaker.str_any s hs _ w.heap.size (q5, x5) HA6.out.2.1 (by show q5 ≤ _; omega)).mono ?_
                  rintro e w6 hp
                  rw [E6.out] at hp
                  obtain ⟨rfl, ha4⟩ := AF.take HA6.out hp
                  obtain ⟨⟨a0, a1, a2, a3, a4, a5⟩, ⟨g0, g1, g2, g3, g4, g5⟩, c0, c1, c2, f1, f2⟩ := ha4.six
                  have HA7 := Lib.hid ha4
                  clear ha4 hp
                  go_upto_region 19 with (fail)
                  generalize hW : World.setCell w6 _ _ = W6
                  have ha5 : AF s wo w.heap.size wo.heap.size #[.int .i64 0, .int .i64 ((C2.toNat : Int) - 48), .bool u, .int .i64 m4, .int .i64 m5, .string ⟨t6.toArray⟩] (q6, x6) W6 := by rw [← hW]; exact HA7.out.set 5 (.string ⟨t6.toArray⟩)
                  clear hW a0 a1 a2 a3 a4 a5 g0 g1 g2 g3 g4 g5 c0 c1 c2 f1 f2 HA4 HA5 HA6 HA7
                  obtain ⟨⟨a0, a1, a2, a3, a4, a5⟩, ⟨g0, g1, g2, g3, g4, g5⟩, c0, c1, c2, f1, f2⟩ := ha5.six
                  have HA8 := Lib.hid ha5
                  clear ha5
                  go_upto_region 20 with (fail)
                  generalize hW : World.setCell W6 _ _ = W7
                  have ha7 : AF s wo w.heap.size wo.heap.size #[.int .i64 0, .int .i64 ((C2.toNat : Int) - 48), .bool u, .int .i64 m4, .int .i64 m5, .string ⟨t6.toArray⟩] (r7, x6) W7 := by rw [← hW]; exact HA8.out.move r7
                  clear hW a0 a1 a2 a3 a4 a5 g0 g1 g2 g3 g4 g5 c0 c1 c2 f1 f2
                  obtain ⟨⟨a0, a1, a2, a3, a4, a5⟩, -, -⟩ := ha7.six
                  have HA9 := Lib.hid ha7
                  clear ha7
                  have hlen2 : out.length ≤ 1024 := by omega
                  go_wp2_with (at_builtin; refine list_append_own _ rfl (.tmp 128) (.tmp 130) 22 37 (.agg #[.int .i64 0, .int .i64 0, .bool false, .int .i64 0, .int .i64 0, .string ⟨#[]⟩]) 6 56 rfl Tryd.underlying22 infoA rfl (by decide) (.slice A out.length c) out.length (out.flatMap actCells) rfl (by exact row_move (HP.out.row HA9.out.2.2.1) (fun k hk => (Step.alloc (Step.refl No W7) _).block k ((HP.out.row HA9.out.2.2.1).lt k hk).2 (fun f => f))) ⟨W7.heap.size, 0, none⟩ 1 1 [.int .i64 0, .int .i64 ((C2.toNat : Int) - 48), .bool u, .int .i64 m4, .int .i64 m5, .string ⟨t6.toArray⟩] rfl rfl (by exact cells_new W7 #[.int .i64 0, .int .i64 ((C2.toNat : Int) - 48), .bool u, .int .i64 m4, .int .i64 m5, .string ⟨t6.toArray⟩] 37) (by simp [Value.oneCell']) (by simp only [maxLen]; omega) (by omega) ?_; intro v1 w2 hown hg hat; have HQ := Lib.hid (HP.out.turn hlt hlen2 HACT.out HTX.out HBD.out HA9.out.2.1 HA9.out.2.2.1 hown _ hg hat); clear hown hg hat; obtain ⟨A2, c2, rfl, -, -⟩ := row_slice HQ.out.1)
                  go_roundw
                  case rel =>
                    have h := HQ.out
                    simp only [List.length_append, List.length_cons, List.length_nil, Nat.zero_add] at h
                    exact ⟨_, _, h⟩
                  case measure => simp [lenV]; omega
                · have v1 : decide ((r2 : Int) < s.size) = false := decide_eq_false (by omega)
                  have v1n : decide (r2 < s.size) = false := decide_eq_false hr2s
                  have HU : Hid ((s.data.toList[q + 2]? == some 117) = false) := Lib.hid (by
                    rw [HR2.out] at hr2s
                    rw [List.getElem?_eq_none (by rw [Array.length_toList]; show s.size ≤ _; omega)]
                    rfl)
                  have HTX : Hid ((⟨0, (C2.toNat : Int) - 48, false, m4, m5, ⟨t6.toArray⟩⟩ : ActD).text.size ≤ maxLen) := Lib.hid (by
                    have := actF_text s.data.toList (q, false)
                    rw [(actF_de HC1.out HK.out HC2.out HD.out.1 HU.out E4.out HD.out.2 E5.out E6.out), Array.length_toList] at this
                    exact Nat.le_trans this (Nat.le_trans hs (by decide)))
                  have HACT : Hid (actF s.data.toList (q, false) = (⟨0, (C2.toNat : Int) - 48, false, m4, m5, ⟨t6.toArray⟩⟩, (r7, x6))) := Lib.hid (by rw [HR7.out]; exact (actF_de HC1.out HK.out HC2.out HD.out.1 HU.out E4.out HD.out.2 E5.out E6.out))
                  have HBD : Hid (((r7, x6) : SF).1 ≤ 281474976710000) := Lib.hid (by
                    have := actF_le s.data.toList (q, false) (by rw [Array.length_toList]; show q ≤ s.size; omega)
                    rw [HACT.out, Array.length_toList] at this
                    have h2 : r7 ≤ s.size + 20 := this
                    show r7 ≤ _
                    omega)
                  go_upto_region 15 with (fail)
                  generalize hW : World.setCell (World.setCell W1 _ _) _ _ = W2
                  have ha2 : AF s wo w.heap.size wo.heap.size #[.int .i64 0, .int .i64 ((C2.toNat : Int) - 48), .bool false, .int .i64 0, .int .i64 0, .string ⟨#[]⟩] (r3, false) W2 := by rw [← hW]; exact (HA1.out.set 2 (.bool false)).move r3
                  have HA2 := Lib.hid ha2
                  clear hW ha2 a0 a1 a2 a3 a4 a5 g0 g1 g2 g3 g4 g5 c0 c1 c2 f1 f2
                  go_wp2_with fail
                  refine (Go.Proofs.YtjeamfoicpgkhaaDoor.RefTaker.num_any s hs _ w.heap.size (r3, false) HA2.out.2.1 (by show r3 ≤ _; have := HR3.out; have := HR2.out; omega)).mono ?_
                  rintro e w4 hp
                  rw [show digF 44 s.data.toList (r3, false) = (m4, q4, x4) from by rw [HR3.out, HR2.out]; exact E4.out] at hp
                  obtain ⟨rfl, ha4⟩ := AF.take HA2.out hp
                  obtain ⟨⟨a0, a1, a2, a3, a4, a5⟩, ⟨g0, g1, g2, g3, g4, g5⟩, c0, c1, c2, f1, f2⟩ := ha4.six
                  have HA3 := Lib.hid ha4
                  clear ha4 hp
                  go_upto_region 16 with (fail)
                  generalize hW : World.setCell w4 _ _ = W4
                  have ha5 : AF s wo w.heap.size wo.heap.size #[.int .i64 0, .int .i64 ((C2.toNat : Int) - 48), .bool false, .int .i64 m4, .int .i64 0, .string ⟨#[]⟩] (q4, x4) W4 := by rw [← hW]; exact HA3.out.set 3 (.int .i64 m4)
                  clear hW a0 a1 a2 a3 a4 a5 g0 g1 g2 g3 g4 g5 c0 c1 c2 f1 f2
                  obtain ⟨⟨a0, a1, a2, a3, a4, a5⟩, ⟨g0, g1, g2, g3, g4, g5⟩, c0, c1, c2, f1, f2⟩ := ha5.six
                  have HA4 := Lib.hid ha5
                  clear ha5 HA3 HA2
                  go_wp2_with fail
                  refine (Go.Proofs.YtjeamfoicpgkhaaDoor.RefTaker.num_any s hs _ w.heap.size (q4, x4) HA4.out.2.1 (by show q4 ≤ _; omega)).mono ?_
                  rintro e w5 hp
                  rw [E5.out] at hp
                  obtain ⟨rfl, ha4⟩ := AF.take HA4.out hp
                  clear a0 a1 a2 a3 a4 a5 g0 g1 g2 g3 g4 g5 c0 c1 c2 f1 f2
                  obtain ⟨⟨a0, a1, a2, a3, a4, a5⟩, ⟨g0, g1, g2, g3, g4, g5⟩, c0, c1, c2, f1, f2⟩ := ha4.six
                  have HA5 := Lib.hid ha4
                  clear ha4 hp
                  go_upto_region 18 with (fail)
                  generalize hW : World.setCell w5 _ _ = W5
                  have ha5 : AF s wo w.heap.size wo.heap.size #[.int .i64 0, .int .i64 ((C2.toNat : Int) - 48), .bool false, .int .i64 m4, .int .i64 m5, .string ⟨#[]⟩] (q5, x5) W5 := by rw [← hW]; exact HA5.out.set 4 (.int .i64 m5)
                  have HA6 := Lib.hid ha5
                  clear hW ha5 a0 a1 a2 a3 a4 a5 g0 g1 g2 g3 g4 g5 c0 c1 c2 f1 f2
                  go_wp2_with fail
                  refine (Go.Proofs.YtjeamfoicpgkhaaDoor.RefTaker.str_any s hs _ w.heap.size (q5, x5) HA6.out.2.1 (by show q5 ≤ _; omega)).mono ?_
                  rintro e w6 hp
                  rw [E6.out] at hp
                  obtain ⟨rfl, ha4⟩ := AF.take HA6.out hp
                  obtain ⟨⟨a0, a1, a2, a3, a4, a5⟩, ⟨g0, g1, g2, g3, g4, g5⟩, c0, c1, c2, f1, f2⟩ := ha4.six
                  have HA7 := Lib.hid ha4
                  clear ha4 hp
                  go_upto_region 19 with (fail)
                  generalize hW : World.setCell w6 _ _ = W6
                  have ha5 : AF s wo w.heap.size wo.heap.size #[.int .i64 0, .int .i64 ((C2.toNat : Int) - 48), .bool false, .int .i64 m4, .int .i64 m5, .string ⟨t6.toArray⟩] (q6, x6) W6 := by rw [← hW]; exact HA7.out.set 5 (.string ⟨t6.toArray⟩)
                  clear hW a0 a1 a2 a3 a4 a5 g0 g1 g2 g3 g4 g5 c0 c1 c2 f1 f2 HA4 HA5 HA6 HA7
                  obtain ⟨⟨a0, a1, a2, a3, a4, a5⟩, ⟨g0, g1, g2, g3, g4, g5⟩, c0, c1, c2, f1, f2⟩ := ha5.six
                  have HA8 := Lib.hid ha5
                  clear ha5
                  go_upto_region 20 with (fail)
                  generalize hW : World.setCell W6 _ _ = W7
                  have ha7 : AF s wo w.heap.size wo.heap.size #[.int .i64 0, .int .i64 ((C2.toNat : Int) - 48), .bool false, .int .i64 m4, .int .i64 m5, .string ⟨t6.toArray⟩] (r7, x6) W7 := by rw [← hW]; exact HA8.out.move r7
                  clear hW a0 a1 a2 a3 a4 a5 g0 g1 g2 g3 g4 g5 c0 c1 c2 f1 f2
                  obtain ⟨⟨a0, a1, a2, a3, a4, a5⟩, -, -⟩ := ha7.six
                  have HA9 := Lib.hid ha7
                  clear ha7
                  have hlen2 : out.length ≤ 1024 := by omega
                  go_wp2_with (at_builtin; refine list_append_own _ rfl (.tmp 128) (.tmp 130) 22 37 (.agg #[.int .i64 0, .int .i64 0, .bool false, .int .i64 0, .int .i64 0, .string ⟨#[]⟩]) 6 56 rfl Tryd.underlying22 infoA rfl (by decide) (.slice A out.length c) out.length (out.flatMap actCells) rfl (by exact row_move (HP.out.row HA9.out.2.2.1) (fun k hk => (Step.alloc (Step.refl No W7) _).block k ((HP.out.row HA9.out.2.2.1).lt k hk).2 (fun f => f))) ⟨W7.heap.size, 0, none⟩ 1 1 [.int .i64 0, .int .i64 ((C2.toNat : Int) - 48), .bool false, .int .i64 m4, .int .i64 m5, .string ⟨t6.toArray⟩] rfl rfl (by exact cells_new W7 #[.int .i64 0, .int .i64 ((C2.toNat : Int) - 48), .bool false, .int .i64 m4, .int .i64 m5, .string ⟨t6.toArray⟩] 37) (by simp [Value.oneCell']) (by simp only [maxLen]; omega) (by omega) ?_; intro v1 w2 hown hg hat; have HQ := Lib.hid (HP.out.turn hlt hlen2 HACT.out HTX.out HBD.out HA9.out.2.1 HA9.out.2.2.1 hown _ hg hat); clear hown hg hat; obtain ⟨A2, c2, rfl, -, -⟩ := row_slice HQ.out.1)
                  go_roundw
                  case rel =>
                    have h := HQ.out
                    simp only [List.length_append, List.length_cons, List.length_nil, Nat.zero_add] at h
                    exact ⟨_, _, h⟩
                  case measure => simp [lenV]; omega
              · have k2 : 2 ≤ K := hkk.1
                have k5 : K ≤ 5 := by omega
                have b0 : (K == 0) = false := beq_eq_false_iff_ne.2 (by omega)
                have b5 : (K == 5) = false := beq_eq_false_iff_ne.2 (by omega)
                have HD : Hid ((isMove K || isEdit K) = true ∧ (isEdit K || isBreak K) = false) := Lib.hid (by constructor <;> simp [isMove, isEdit, isBreak, k2, k5] <;> omega)
                clear hkk
                obtain ⟨r7, hr7, HR7⟩ : ∃ r : Nat, (q4 : Int) + 1 = r ∧ Hid (r = q4 + 1) := ⟨q4 + 1, by omega, Lib.hid rfl⟩
                have hq4b : (q4 : Int) ≤ 281474976710000 := by omega
                have hq40 : (0 : Int) ≤ q4 := by omega
                by_cases hr2s : r2 < s.size
                · have v1 : decide ((r2 : Int) < s.size) = true := decide_eq_true (by omega)
                  have v1n : decide (r2 < s.size) = true := decide_eq_true hr2s
                  have v2 : (r2 : Int) < s.size := by omega
                  obtain ⟨C3, hC3, HC3⟩ : ∃ c : UInt8, s[r2]'hr2s = c ∧ Hid (s.data.toList.getD r2 0 = c) := ⟨_, rfl, Lib.hid (Go.Proofs.YtjeamfoicpgkhaaDoor.RefTaker.byte_at s r2 hr2s)⟩
                  have hb3 : ((C3.toNat : Int) == 117) = (C3 == 117) := b_eq C3 117
                  have HU : Hid ((s.data.toList[q + 2]? == some 117) = (C3 == 117)) := Lib.hid (by
                    have h := HC3.out
                    rw [HR2.out] at h hr2s
                    rw [List.getD_eq_getElem?_getD, List.getElem?_eq_getElem (by rw [Array.length_toList]; exact hr2s)] at h
                    rw [List.getElem?_eq_getElem (by rw [Array.length_toList]; exact hr2s)]
                    rw [show s.data.toList[q + 2]'(by rw [Array.length_toList]; exact hr2s) = C3 from h]
                    rfl)
                  generalize (C3 == 117) = u at *
                  have HTX : Hid ((⟨K, (C2.toNat : Int) - 48, u, m4, 0, ⟨#[]⟩⟩ : ActD).text.size ≤ maxLen) := Lib.hid (by
                    have := actF_text s.data.toList (q, false)
                    rw [(actF_d HC1.out HK.out HC2.out HD.out.1 HU.out E4.out HD.out.2), Array.length_toList] at this
                    exact Nat.le_trans this (Nat.le_trans hs (by decide)))
                  have HACT : Hid (actF s.data.toList (q, false) = (⟨K, (C2.toNat : Int) - 48, u, m4, 0, ⟨#[]⟩⟩, (r7, x4))) := Lib.hid (by rw [HR7.out]; exact (actF_d HC1.out HK.out HC2.out HD.out.1 HU.out E4.out HD.out.2))
                  have HBD : Hid (((r7, x4) : SF).1 ≤ 281474976710000) := Lib.hid (by
                    have := actF_le s.data.toList (q, false) (by rw [Array.length_toList]; show q ≤ s.size; omega)
                    rw [HACT.out, Array.length_toList] at this
                    have h2 : r7 ≤ s.size + 20 := this
                    show r7 ≤ _
                    omega)
                  go_upto_region 15 with (fail)
                  generalize hW : World.setCell (World.setCell W1 _ _) _ _ = W2
                  have ha2 : AF s wo w.heap.size wo.heap.size #[.int .i64 K, .int .i64 ((C2.toNat : Int) - 48), .bool u, .int .i64 0, .int .i64 0, .string ⟨#[]⟩] (r3, false) W2 := by rw [← hW]; exact (HA1.out.set 2 (.bool u)).move r3
                  have HA2 := Lib.hid ha2
                  clear hW ha2 a0 a1 a2 a3 a4 a5 g0 g1 g2 g3 g4 g5 c0 c1 c2 f1 f2
                  go_wp2_with fail
                  refine (Go.Proofs.YtjeamfoicpgkhaaDoor.RefTaker.num_any s hs _ w.heap.size (r3, false) HA2.out.2.1 (by show r3 ≤ _; have := HR3.out; have := HR2.out; omega)).mono ?_
                  rintro e w4 hp
                  rw [show digF 44 s.data.toList (r3, false) = (m4, q4, x4) from by rw [HR3.out, HR2.out]; exact E4.out] at hp
                  obtain ⟨rfl, ha4⟩ := AF.take HA2.out hp
                  obtain ⟨⟨a0, a1, a2, a3, a4, a5⟩, ⟨g0, g1, g2, g3, g4, g5⟩, c0, c1, c2, f1, f2⟩ := ha4.six
                  have HA3 := Lib.hid ha4
                  clear ha4 hp
                  go_upto_region 16 with (fail)
                  generalize hW : World.setCell w4 _ _ = W4
                  have ha5 : AF s wo w.heap.size wo.heap.size #[.int .i64 K, .int .i64 ((C2.toNat : Int) - 48), .bool u, .int .i64 m4, .int .i64 0, .string ⟨#[]⟩] (q4, x4) W4 := by rw [← hW]; exact HA3.out.set 3 (.int .i64 m4)
                  clear hW a0 a1 a2 a3 a4 a5 g0 g1 g2 g3 g4 g5 c0 c1 c2 f1 f2
                  obtain ⟨⟨a0, a1, a2, a3, a4, a5⟩, ⟨g0, g1, g2, g3, g4, g5⟩, c0, c1, c2, f1, f2⟩ := ha5.six
                  have HA4 := Lib.hid ha5
                  clear ha5 HA3 HA2
                  go_upto_region 20 with (fail)
                  generalize hW : World.setCell W4 _ _ = W7
                  have ha7 : AF s wo w.heap.size wo.heap.size #[.int .i64 K, .int .i64 ((C2.toNat : Int) - 48), .bool u, .int .i64 m4, .int .i64 0, .string ⟨#[]⟩] (r7, x4) W7 := by rw [← hW]; exact HA4.out.move r7
                  clear hW a0 a1 a2 a3 a4 a5 g0 g1 g2 g3 g4 g5 c0 c1 c2 f1 f2
                  obtain ⟨⟨a0, a1, a2, a3, a4, a5⟩, -, -⟩ := ha7.six
                  have HA9 := Lib.hid ha7
                  clear ha7
                  have hlen2 : out.length ≤ 1024 := by omega
                  go_wp2_with (at_builtin; refine list_append_own _ rfl (.tmp 128) (.tmp 130) 22 37 (.agg #[.int .i64 0, .int .i64 0, .bool false, .int .i64 0, .int .i64 0, .string ⟨#[]⟩]) 6 56 rfl Tryd.underlying22 infoA rfl (by decide) (.slice A out.length c) out.length (out.flatMap actCells) rfl (by exact row_move (HP.out.row HA9.out.2.2.1) (fun k hk => (Step.alloc (Step.refl No W7) _).block k ((HP.out.row HA9.out.2.2.1).lt k hk).2 (fun f => f))) ⟨W7.heap.size, 0, none⟩ 1 1 [.int .i64 K, .int .i64 ((C2.toNat : Int) - 48), .bool u, .int .i64 m4, .int .i64 0, .string ⟨#[]⟩] rfl rfl (by exact cells_new W7 #[.int .i64 K, .int .i64 ((C2.toNat : Int) - 48), .bool u, .int .i64 m4, .int .i64 0, .string ⟨#[]⟩] 37) (by simp [Value.oneCell']) (by simp only [maxLen]; omega) (by omega) ?_; intro v1 w2 hown hg hat; have HQ := Lib.hid (HP.out.turn hlt hlen2 HACT.out HTX.out HBD.out HA9.out.2.1 HA9.out.2.2.1 hown _ hg hat); clear hown hg hat; obtain ⟨A2, c2, rfl, -, -⟩ := row_slice HQ.out.1)
                  go_roundw
                  case rel =>
                    have h := HQ.out
                    simp only [List.length_append, List.length_cons, List.length_nil, Nat.zero_add] at h
                    exact ⟨_, _, h⟩
                  case measure => simp [lenV]; omega
                · have v1 : decide ((r2 : Int) < s.size) = false := decide_eq_false (by omega)
                  have v1n : decide (r2 < s.size) = false := decide_eq_false hr2s
                  have HU : Hid ((s.data.toList[q + 2]? == some 117) = false) := Lib.hid (by
                    rw [HR2.out] at hr2s
                    rw [List.getElem?_eq_none (by rw [Array.length_toList]; show s.size ≤ _; omega)]
                    rfl)
                  have HTX : Hid ((⟨K, (C2.toNat : Int) - 48, false, m4, 0, ⟨#[]⟩⟩ : ActD).text.size ≤ maxLen) := Lib.hid (by
                    have := actF_text s.data.toList (q, false)
                    rw [(actF_d HC1.out HK.out HC2.out HD.out.1 HU.out E4.out HD.out.2), Array.length_toList] at this
                    exact Nat.le_trans this (Nat.le_trans hs (by decide)))
                  have HACT : Hid (actF s.data.toList (q, false) = (⟨K, (C2.toNat : Int) - 48, false, m4, 0, ⟨#[]⟩⟩, (r7, x4))) := Lib.hid (by rw [HR7.out]; exact (actF_d HC1.out HK.out HC2.out HD.out.1 HU.out E4.out HD.out.2))
                  have HBD : Hid (((r7, x4) : SF).1 ≤ 281474976710000) := Lib.hid (by
                    have := actF_le s.data.toList (q, false) (by rw [Array.length_toList]; show q ≤ s.size; omega)
                    rw [HACT.out, Array.length_toList] at this
                    have h2 : r7 ≤ s.size + 20 := this
                    show r7 ≤ _
                    omega)
                  go_upto_region 15 with (fail)
                  generalize hW : World.setCell (World.setCell W1 _ _) _ _ = W2
                  have ha2 : AF s wo w.heap.size wo.heap.size #[.int .i64 K, .int .i64 ((C2.toNat : Int) - 48), .bool false, .int .i64 0, .int .i64 0, .string ⟨#[]⟩] (r3, false) W2 := by rw [← hW]; exact (HA1.out.set 2 (.bool false)).move r3
                  have HA2 := Lib.hid ha2
                  clear hW ha2 a0 a1 a2 a3 a4 a5 g0 g1 g2 g3 g4 g5 c0 c1 c2 f1 f2
                  go_wp2_with fail
                  refine (Go.Proofs.YtjeamfoicpgkhaaDoor.RefTaker.num_any s hs _ w.heap.size (r3, false) HA2.out.2.1 (by show r3 ≤ _; have := HR3.out; have := HR2.out; omega)).mono ?_
                  rintro e w4 hp
                  rw [show digF 44 s.data.toList (r3, false) = (m4, q4, x4) from by rw [HR3.out, HR2.out]; exact E4.out] at hp
                  obtain ⟨rfl, ha4⟩ := AF.take HA2.out hp
                  obtain ⟨⟨a0, a1, a2, a3, a4, a5⟩, ⟨g0, g1, g2, g3, g4, g5⟩, c0, c1, c2, f1, f2⟩ := ha4.six
                  have HA3 := Lib.hid ha4
                  clear ha4 hp
                  go_upto_region 16 with (fail)
                  generalize hW : World.setCell w4 _ _ = W4
                  have ha5 : AF s wo w.heap.size wo.heap.size #[.int .i64 K, .int .i64 ((C2.toNat : Int) - 48), .bool false, .int .i64 m4, .int .i64 0, .string ⟨#[]⟩] (q4, x4) W4 := by rw [← hW]; exact HA3.out.set 3 (.int .i64 m4)
                  clear hW a0 a1 a2 a3 a4 a5 g0 g1 g2 g3 g4 g5 c0 c1 c2 f1 f2
                  obtain ⟨⟨a0, a1, a2, a3, a4, a5⟩, ⟨g0, g1, g2, g3, g4, g5⟩, c0, c1, c2, f1, f2⟩ := ha5.six
                  have HA4 := Lib.hid ha5
                  clear ha5 HA3 HA2
                  go_upto_region 20 with (fail)
                  generalize hW : World.setCell W4 _ _ = W7
                  have ha7 : AF s wo w.heap.size wo.heap.size #[.int .i64 K, .int .i64 ((C2.toNat : Int) - 48), .bool false, .int .i64 m4, .int .i64 0, .string ⟨#[]⟩] (r7, x4) W7 := by rw [← hW]; exact HA4.out.move r7
                  clear hW a0 a1 a2 a3 a4 a5 g0 g1 g2 g3 g4 g5 c0 c1 c2 f1 f2
                  obtain ⟨⟨a0, a1, a2, a3, a4, a5⟩, -, -⟩ := ha7.six
                  have HA9 := Lib.hid ha7
                  clear ha7
                  have hlen2 : out.length ≤ 1024 := by omega
                  go_wp2_with (at_builtin; refine list_append_own _ rfl (.tmp 128) (.tmp 130) 22 37 (.agg #[.int .i64 0, .int .i64 0, .bool false, .int .i64 0, .int .i64 0, .string ⟨#[]⟩]) 6 56 rfl Tryd.underlying22 infoA rfl (by decide) (.slice A out.length c) out.length (out.flatMap actCells) rfl (by exact row_move (HP.out.row HA9.out.2.2.1) (fun k hk => (Step.alloc (Step.refl No W7) _).block k ((HP.out.row HA9.out.2.2.1).lt k hk).2 (fun f => f))) ⟨W7.heap.size, 0, none⟩ 1 1 [.int .i64 K, .int .i64 ((C2.toNat : Int) - 48), .bool false, .int .i64 m4, .int .i64 0, .string ⟨#[]⟩] rfl rfl (by exact cells_new W7 #[.int .i64 K, .int .i64 ((C2.toNat : Int) - 48), .bool false, .int .i64 m4, .int .i64 0, .string ⟨#[]⟩] 37) (by simp [Value.oneCell']) (by simp only [maxLen]; omega) (by omega) ?_; intro v1 w2 hown hg hat; have HQ := Lib.hid (HP.out.turn hlt hlen2 HACT.out HTX.out HBD.out HA9.out.2.1 HA9.out.2.2.1 hown _ hg hat); clear hown hg hat; obtain ⟨A2, c2, rfl, -, -⟩ := row_slice HQ.out.1)
                  go_roundw
                  case rel =>
                    have h := HQ.out
                    simp only [List.length_append, List.length_cons, List.length_nil, Nat.zero_add] at h
                    exact ⟨_, _, h⟩
                  case measure => simp [lenV]; omega
              · subst hkk
                have HD : Hid ((isMove 5 || isEdit 5) = true ∧ (isEdit 5 || isBreak 5) = true) := Lib.hid (by decide)
                obtain ⟨m5, q5, x5, E5⟩ : ∃ m q' x', Hid (digF 44 s.data.toList (q4, x4) = (m, q', x')) := ⟨_, _, _, Lib.hid rfl⟩
                obtain ⟨t6, q6, x6, E6⟩ : ∃ m q' x', Hid (strF s.data.toList (q5, x5) = (m, q', x')) := ⟨_, _, _, Lib.hid rfl⟩
                have hq5 : q5 ≤ s.size + 15 := by
                  have := digF_le 44 s.data.toList (q4, x4)
                  rw [E5.out, Array.length_toList] at this
                  have h2 : q5 ≤ max q4 s.size + 1 := this
                  omega
                have hq6 : q6 ≤ s.size + 18 := by
                  have := strF_le s.data.toList (q5, x5)
                  rw [E6.out, Array.length_toList] at this
                  have h2 : q6 ≤ max q5 s.size + 1 := this
                  omega
                obtain ⟨r7, hr7, HR7⟩ : ∃ r : Nat, (q6 : Int) + 1 = r ∧ Hid (r = q6 + 1) := ⟨q6 + 1, by omega, Lib.hid rfl⟩
                have hq6b : (q6 : Int) ≤ 281474976710000 := by omega
                have hq60 : (0 : Int) ≤ q6 := by omega
                by_cases hr2s : r2 < s.size
                · have v1 : decide ((r2 : Int) < s.size) = true := decide_eq_true (by omega)
                  have v1n : decide (r2 < s.size) = true := decide_eq_true hr2s
                  have v2 : (r2 : Int) < s.size := by omega
                  obtain ⟨C3, hC3, HC3⟩ : ∃ c : UInt8, s[r2]'hr2s = c ∧ Hid (s.data.toList.getD r2 0 = c) := ⟨_, rfl, Lib.hid (Go.Proofs.YtjeamfoicpgkhaaDoor.RefTaker.byte_at s r2 hr2s)⟩
                  have hb3 : ((C3.toNat : Int) == 117) = (C3 == 117) := b_eq C3 117
                  have HU : Hid ((s.data.toList[q + 2]? == some 117) = (C3 == 117)) := Lib.hid (by
                    have h := HC3.out
                    rw [HR2.out] at h hr2s
                    rw [List.getD_eq_getElem?_getD, List.getElem?_eq_getElem (by rw [Array.length_toList]; exact hr2s)] at h
                    rw [List.getElem?_eq_getElem (by rw [Array.length_toList]; exact hr2s)]
                    rw [show s.data.toList[q + 2]'(by rw [Array.length_toList]; exact hr2s) = C3 from h]
                    rfl)
                  generalize (C3 == 117) = u at *
                  have HTX : Hid ((⟨5, (C2.toNat : Int) - 48, u, m4, m5, ⟨t6.toArray⟩⟩ : ActD).text.size ≤ maxLen) := Lib.hid (by
                    have := actF_text s.data.toList (q, false)
                    rw [(actF_de HC1.out HK.out HC2.out HD.out.1 HU.out E4.out HD.out.2 E5.out E6.out), Array.length_toList] at this
                    exact Nat.le_trans this (Nat.le_trans hs (by decide)))
                  have HACT : Hid (actF s.data.toList (q, false) = (⟨5, (C2.toNat : Int) - 48, u, m4, m5, ⟨t6.toArray⟩⟩, (r7, x6))) := Lib.hid (by rw [HR7.out]; exact (actF_de HC1.out HK.out HC2.out HD.out.1 HU.out E4.out HD.out.2 E5.out E6.out))
                  have HBD : Hid (((r7, x6) : SF).1 ≤ 281474976710000) := Lib.hid (by
                    have := actF_le s.data.toList (q, false) (by rw [Array.length_toList]; show q ≤ s.size; omega)
                    rw [HACT.out, Array.length_toList] at this
                    have h2 : r7 ≤ s.size + 20 := this
                    show r7 ≤ _
                    omega)
                  go_upto_region 15 with (fail)
                  generalize hW : World.setCell (World.setCell W1 _ _) _ _ = W2
                  have ha2 : AF s wo w.heap.size wo.heap.size #[.int .i64 5, .int .i64 ((C2.toNat : Int) - 48), .bool u, .int .i64 0, .int .i64 0, .string ⟨#[]⟩] (r3, false) W2 := by rw [← hW]; exact (HA1.out.set 2 (.bool u)).move r3
                  have HA2 := Lib.hid ha2
                  clear hW ha2 a0 a1 a2 a3 a4 a5 g0 g1 g2 g3 g4 g5 c0 c1 c2 f1 f2
                  go_wp2_with fail
                  refine (Go.Proofs.YtjeamfoicpgkhaaDoor.RefTaker.num_any s hs _ w.heap.size (r3, false) HA2.out.2.1 (by show r3 ≤ _; have := HR3.out; have := HR2.out; omega)).mono ?_
                  rintro e w4 hp
                  rw [show digF 44 s.data.toList (r3, false) = (m4, q4, x4) from by rw [HR3.out, HR2.out]; exact E4.out] at hp
                  obtain ⟨rfl, ha4⟩ := AF.take HA2.out hp
                  obtain ⟨⟨a0, a1, a2, a3, a4, a5⟩, ⟨g0, g1, g2, g3, g4, g5⟩, c0, c1, c2, f1, f2⟩ := ha4.six
                  have HA3 := Lib.hid ha4
                  clear ha4 hp
                  go_upto_region 16 with (fail)
                  generalize hW : World.setCell w4 _ _ = W4
                  have ha5 : AF s wo w.heap.size wo.heap.size #[.int .i64 5, .int .i64 ((C2.toNat : Int) - 48), .bool u, .int .i64 m4, .int .i64 0, .string ⟨#[]⟩] (q4, x4) W4 := by rw [← hW]; exact HA3.out.set 3 (.int .i64 m4)
                  clear hW a0 a1 a2 a3 a4 a5 g0 g1 g2 g3 g4 g5 c0 c1 c2 f1 f2
                  obtain ⟨⟨a0, a1, a2, a3, a4, a5⟩, ⟨g0, g1, g2, g3, g4, g5⟩, c0, c1, c2, f1, f2⟩ := ha5.six
                  have HA4 := Lib.hid ha5
                  clear ha5 HA3 HA2
                  go_wp2_with fail
                  refine (Go.Proofs.YtjeamfoicpgkhaaDoor.RefTaker.num_any s hs _ w.heap.size (q4, x4) HA4.out.2.1 (by show q4 ≤ _; omega)).mono ?_
                  rintro e w5 hp
                  rw [E5.out] at hp
                  obtain ⟨rfl, ha4⟩ := AF.take HA4.out hp
                  clear a0 a1 a2 a3 a4 a5 g0 g1 g2 g3 g4 g5 c0 c1 c2 f1 f2
                  obtain ⟨⟨a0, a1, a2, a3, a4, a5⟩, ⟨g0, g1, g2, g3, g4, g5⟩, c0, c1, c2, f1, f2⟩ := ha4.six
                  have HA5 := Lib.hid ha4
                  clear ha4 hp
                  go_upto_region 18 with (fail)
                  generalize hW : World.setCell w5 _ _ = W5
                  have ha5 : AF s wo w.heap.size wo.heap.size #[.int .i64 5, .int .i64 ((C2.toNat : Int) - 48), .bool u, .int .i64 m4, .int .i64 m5, .string ⟨#[]⟩] (q5, x5) W5 := by rw [← hW]; exact HA5.out.set 4 (.int .i64 m5)
                  have HA6 := Lib.hid ha5
                  clear hW ha5 a0 a1 a2 a3 a4 a5 g0 g1 g2 g3 g4 g5 c0 c1 c2 f1 f2
                  go_wp2_with fail
                  refine (Go.Proofs.YtjeamfoicpgkhaaDoor.RefTaker.str_any s hs _ w.heap.size (q5, x5) HA6.out.2.1 (by show q5 ≤ _; omega)).mono ?_
                  rintro e w6 hp
                  rw [E6.out] at hp
                  obtain ⟨rfl, ha4⟩ := AF.take HA6.out hp
                  obtain ⟨⟨a0, a1, a2, a3, a4, a5⟩, ⟨g0, g1, g2, g3, g4, g5⟩, c0, c1, c2, f1, f2⟩ := ha4.six
                  have HA7 := Lib.hid ha4
                  clear ha4 hp
                  go_upto_region 19 with (fail)
                  generalize hW : World.setCell w6 _ _ = W6
                  have ha5 : AF s wo w.heap.size wo.heap.size #[.int .i64 5, .int .i64 ((C2.toNat : Int) - 48), .bool u, .int .i64 m4, .int .i64 m5, .string ⟨t6.toArray⟩] (q6, x6) W6 := by rw [← hW]; exact HA7.out.set 5 (.string ⟨t6.toArray⟩)
                  clear hW a0 a1 a2 a3 a4 a5 g0 g1 g2 g3 g4 g5 c0 c1 c2 f1 f2 HA4 HA5 HA6 HA7
                  obtain ⟨⟨a0, a1, a2, a3, a4, a5⟩, ⟨g0, g1, g2, g3, g4, g5⟩, c0, c1, c2, f1, f2⟩ := ha5.six
                  have HA8 := Lib.hid ha5
                  clear ha5
                  go_upto_region 20 with (fail)
                  generalize hW : World.setCell W6 _ _ = W7
                  have ha7 : AF s wo w.heap.size wo.heap.size #[.int .i64 5, .int .i64 ((C2.toNat : Int) - 48), .bool u, .int .i64 m4, .int .i64 m5, .string ⟨t6.toArray⟩] (r7, x6) W7 := by rw [← hW]; exact HA8.out.move r7
                  clear hW a0 a1 a2 a3 a4 a5 g0 g1 g2 g3 g4 g5 c0 c1 c2 f1 f2
                  obtain ⟨⟨a0, a1, a2, a3, a4, a5⟩, -, -⟩ := ha7.six
                  have HA9 := Lib.hid ha7
                  clear ha7
                  have hlen2 : out.length ≤ 1024 := by omega
                  go_wp2_with (at_builtin; refine list_append_own _ rfl (.tmp 128) (.tmp 130) 22 37 (.agg #[.int .i64 0, .int .i64 0, .bool false, .int .i64 0, .int .i64 0, .string ⟨#[]⟩]) 6 56 rfl Tryd.underlying22 infoA rfl (by decide) (.slice A out.length c) out.length (out.flatMap actCells) rfl (by exact row_move (HP.out.row HA9.out.2.2.1) (fun k hk => (Step.alloc (Step.refl No W7) _).block k ((HP.out.row HA9.out.2.2.1).lt k hk).2 (fun f => f))) ⟨W7.heap.size, 0, none⟩ 1 1 [.int .i64 5, .int .i64 ((C2.toNat : Int) - 48), .bool u, .int .i64 m4, .int .i64 m5, .string ⟨t6.toArray⟩] rfl rfl (by exact cells_new W7 #[.int .i64 5, .int .i64 ((C2.toNat : Int) - 48), .bool u, .int .i64 m4, .int .i64 m5, .string ⟨t6.toArray⟩] 37) (by simp [Value.oneCell']) (by simp only [maxLen]; omega) (by omega) ?_; intro v1 w2 hown hg hat; have HQ := Lib.hid (HP.out.turn hlt hlen2 HACT.out HTX.out HBD.out HA9.out.2.1 HA9.out.2.2.1 hown _ hg hat); clear hown hg hat; obtain ⟨A2, c2, rfl, -, -⟩ := row_slice HQ.out.1)
                  go_roundw
                  case rel =>
                    have h := HQ.out
                    simp only [List.length_append, List.length_cons, List.length_nil, Nat.zero_add] at h
                    exact ⟨_, _, h⟩
                  case measure => simp [lenV]; omega
                · have v1 : decide ((r2 : Int) < s.size) = false := decide_eq_false (by omega)
                  have v1n : decide (r2 < s.size) = false := decide_eq_false hr2s
                  have HU : Hid ((s.data.toList[q + 2]? == some 117) = false) := Lib.hid (by
                    rw [HR2.out] at hr2s
                    rw [List.getElem?_eq_none (by rw [Array.length_toList]; show s.size ≤ _; omega)]
                    rfl)
                  have HTX : Hid ((⟨5, (C2.toNat : Int) - 48, false, m4, m5, ⟨t6.toArray⟩⟩ : ActD).text.size ≤ maxLen) := Lib.hid (by
                    have := actF_text s.data.toList (q, false)
                    rw [(actF_de HC1.out HK.out HC2.out HD.out.1 HU.out E4.out HD.out.2 E5.out E6.out), Array.length_toList] at this
                    exact Nat.le_trans this (Nat.le_trans hs (by decide)))
                  have HACT : Hid (actF s.data.toList (q, false) = (⟨5, (C2.toNat : Int) - 48, false, m4, m5, ⟨t6.toArray⟩⟩, (r7, x6))) := Lib.hid (by rw [HR7.out]; exact (actF_de HC1.out HK.out HC2.out HD.out.1 HU.out E4.out HD.out.2 E5.out E6.out))
                  have HBD : Hid (((r7, x6) : SF).1 ≤ 281474976710000) := Lib.hid (by
                    have := actF_le s.data.toList (q, false) (by rw [Array.length_toList]; show q ≤ s.size; omega)
                    rw [HACT.out, Array.length_toList] at this
                    have h2 : r7 ≤ s.size + 20 := this
                    show r7 ≤ _
                    omega)
                  go_upto_region 15 with (fail)
                  generalize hW : World.setCell (World.setCell W1 _ _) _ _ = W2
                  have ha2 : AF s wo w.heap.size wo.heap.size #[.int .i64 5, .int .i64 ((C2.toNat : Int) - 48), .bool false, .int .i64 0, .int .i64 0, .string ⟨#[]⟩] (r3, false) W2 := by rw [← hW]; exact (HA1.out.set 2 (.bool false)).move r3
                  have HA2 := Lib.hid ha2
                  clear hW ha2 a0 a1 a2 a3 a4 a5 g0 g1 g2 g3 g4 g5 c0 c1 c2 f1 f2
                  go_wp2_with fail
                  refine (Go.Proofs.YtjeamfoicpgkhaaDoor.RefTaker.num_any s hs _ w.heap.size (r3, false) HA2.out.2.1 (by show r3 ≤ _; have := HR3.out; have := HR2.out; omega)).mono ?_
                  rintro e w4 hp
                  rw [show digF 44 s.data.toList (r3, false) = (m4, q4, x4) from by rw [HR3.out, HR2.out]; exact E4.out] at hp
                  obtain ⟨rfl, ha4⟩ := AF.take HA2.out hp
                  obtain ⟨⟨a0, a1, a2, a3, a4, a5⟩, ⟨g0, g1, g2, g3, g4, g5⟩, c0, c1, c2, f1, f2⟩ := ha4.six
                  have HA3 := Lib.hid ha4
                  clear ha4 hp
                  go_upto_region 16 with (fail)
                  generalize hW : World.setCell w4 _ _ = W4
                  have ha5 : AF s wo w.heap.size wo.heap.size #[.int .i64 5, .int .i64 ((C2.toNat : Int) - 48), .bool false, .int .i64 m4, .int .i64 0, .string ⟨#[]⟩] (q4, x4) W4 := by rw [← hW]; exact HA3.out.set 3 (.int .i64 m4)
                  clear hW a0 a1 a2 a3 a4 a5 g0 g1 g2 g3 g4 g5 c0 c1 c2 f1 f2
                  obtain ⟨⟨a0, a1, a2, a3, a4, a5⟩, ⟨g0, g1, g2, g3, g4, g5⟩, c0, c1, c2, f1, f2⟩ := ha5.six
                  have HA4 := Lib.hid ha5
                  clear ha5 HA3 HA2
                  go_wp2_with fail
                  refine (Go.Proofs.YtjeamfoicpgkhaaDoor.RefTaker.num_any s hs _ w.heap.size (q4, x4) HA4.out.2.1 (by show q4 ≤ _; omega)).mono ?_
                  rintro e w5 hp
                  rw [E5.out] at hp
                  obtain ⟨rfl, ha4⟩ := AF.take HA4.out hp
                  clear a0 a1 a2 a3 a4 a5 g0 g1 g2 g3 g4 g5 c0 c1 c2 f1 f2
                  obtain ⟨⟨a0, a1, a2, a3, a4, a5⟩, ⟨g0, g1, g2, g3, g4, g5⟩, c0, c1, c2, f1, f2⟩ := ha4.six
                  have HA5 := Lib.hid ha4
                  clear ha4 hp
                  go_upto_region 18 with (fail)
                  generalize hW : World.setCell w5 _ _ = W5
                  have ha5 : AF s wo w.heap.size wo.heap.size #[.int .i64 5, .int .i64 ((C2.toNat : Int) - 48), .bool false, .int .i64 m4, .int .i64 m5, .string ⟨#[]⟩] (q5, x5) W5 := by rw [← hW]; exact HA5.out.set 4 (.int .i64 m5)
                  have HA6 := Lib.hid ha5
                  clear hW ha5 a0 a1 a2 a3 a4 a5 g0 g1 g2 g3 g4 g5 c0 c1 c2 f1 f2
                  go_wp2_with fail
                  refine (Go.Proofs.YtjeamfoicpgkhaaDoor.RefTaker.str_any s hs _ w.heap.size (q5, x5) HA6.out.2.1 (by show q5 ≤ _; omega)).mono ?_
                  rintro e w6 hp
                  rw [E6.out] at hp
                  obtain ⟨rfl, ha4⟩ := AF.take HA6.out hp
                  obtain ⟨⟨a0, a1, a2, a3, a4, a5⟩, ⟨g0, g1, g2, g3, g4, g5⟩, c0, c1, c2, f1, f2⟩ := ha4.six
                  have HA7 := Lib.hid ha4
                  clear ha4 hp
                  go_upto_region 19 with (fail)
                  generalize hW : World.setCell w6 _ _ = W6
                  have ha5 : AF s wo w.heap.size wo.heap.size #[.int .i64 5, .int .i64 ((C2.toNat : Int) - 48), .bool false, .int .i64 m4, .int .i64 m5, .string ⟨t6.toArray⟩] (q6, x6) W6 := by rw [← hW]; exact HA7.out.set 5 (.string ⟨t6.toArray⟩)
                  clear hW a0 a1 a2 a3 a4 a5 g0 g1 g2 g3 g4 g5 c0 c1 c2 f1 f2 HA4 HA5 HA6 HA7
                  obtain ⟨⟨a0, a1, a2, a3, a4, a5⟩, ⟨g0, g1, g2, g3, g4, g5⟩, c0, c1, c2, f1, f2⟩ := ha5.six
                  have HA8 := Lib.hid ha5
                  clear ha5
                  go_upto_region 20 with (fail)
                  generalize hW : World.setCell W6 _ _ = W7
                  have ha7 : AF s wo w.heap.size wo.heap.size #[.int .i64 5, .int .i64 ((C2.toNat : Int) - 48), .bool false, .int .i64 m4, .int .i64 m5, .string ⟨t6.toArray⟩] (r7, x6) W7 := by rw [← hW]; exact HA8.out.move r7
                  clear hW a0 a1 a2 a3 a4 a5 g0 g1 g2 g3 g4 g5 c0 c1 c2 f1 f2
                  obtain ⟨⟨a0, a1, a2, a3, a4, a5⟩, -, -⟩ := ha7.six
                  have HA9 := Lib.hid ha7
                  clear ha7
                  have hlen2 : out.length ≤ 1024 := by omega
                  go_wp2_with (at_builtin; refine list_append_own _ rfl (.tmp 128) (.tmp 130) 22 37 (.agg #[.int .i64 0, .int .i64 0, .bool false, .int .i64 0, .int .i64 0, .string ⟨#[]⟩]) 6 56 rfl Tryd.underlying22 infoA rfl (by decide) (.slice A out.length c) out.length (out.flatMap actCells) rfl (by exact row_move (HP.out.row HA9.out.2.2.1) (fun k hk => (Step.alloc (Step.refl No W7) _).block k ((HP.out.row HA9.out.2.2.1).lt k hk).2 (fun f => f))) ⟨W7.heap.size, 0, none⟩ 1 1 [.int .i64 5, .int .i64 ((C2.toNat : Int) - 48), .bool false, .int .i64 m4, .int .i64 m5, .string ⟨t6.toArray⟩] rfl rfl (by exact cells_new W7 #[.int .i64 5, .int .i64 ((C2.toNat : Int) - 48), .bool false, .int .i64 m4, .int .i64 m5, .string ⟨t6.toArray⟩] 37) (by simp [Value.oneCell']) (by simp only [maxLen]; omega) (by omega) ?_; intro v1 w2 hown hg hat; have HQ := Lib.hid (HP.out.turn hlt hlen2 HACT.out HTX.out HBD.out HA9.out.2.1 HA9.out.2.2.1 hown _ hg hat); clear hown hg hat; obtain ⟨A2, c2, rfl, -, -⟩ := row_slice HQ.out.1)
                  go_roundw
                  case rel =>
                    have h := HQ.out
                    simp only [List.length_append, List.length_cons, List.length_nil, Nat.zero_add] at h
                    exact ⟨_, _, h⟩
                  case measure => simp [lenV]; omega
              · have k2 : K < 2 := hkk.1
                have k3 : ¬ 2 ≤ K := by omega
                have b2 : decide (2 ≤ K) = false := decide_eq_false (by omega)
                have b0 : (K == 0) = false := beq_eq_false_iff_ne.2 hkk.2
                have b5 : (K == 5) = false := beq_eq_false_iff_ne.2 (by omega)
                have HD : Hid ((isMove K || isEdit K) = false ∧ (isEdit K || isBreak K) = false) := Lib.hid (by simp [isMove, isEdit, isBreak, b2, b0, b5])
                clear hkk
                obtain ⟨r7, hr7, HR7⟩ : ∃ r : Nat, (r2 : Int) + 1 = r ∧ Hid (r = q + 2 + 1) := ⟨r2 + 1, by omega, Lib.hid (by rw [HR2.out])⟩
                have HTX : Hid ((⟨K, (C2.toNat : Int) - 48, false, 0, 0, ⟨#[]⟩⟩ : ActD).text.size ≤ maxLen) := Lib.hid (by
                  have := actF_text s.data.toList (q, false)
                  rw [(actF_n HC1.out HK.out HC2.out HD.out.1 HD.out.2), Array.length_toList] at this
                  exact Nat.le_trans this (Nat.le_trans hs (by decide)))
                have HACT : Hid (actF s.data.toList (q, false) = (⟨K, (C2.toNat : Int) - 48, false, 0, 0, ⟨#[]⟩⟩, (r7, false))) := Lib.hid (by rw [HR7.out]; exact (actF_n HC1.out HK.out HC2.out HD.out.1 HD.out.2))
                have HBD : Hid (((r7, false) : SF).1 ≤ 281474976710000) := Lib.hid (by
                  have := actF_le s.data.toList (q, false) (by rw [Array.length_toList]; show q ≤ s.size; omega)
                  rw [HACT.out, Array.length_toList] at this
                  have h2 : r7 ≤ s.size + 20 := this
                  show r7 ≤ _
                  omega)
                clear hr3 HR3
                go_upto_region 20 with (fail)
                generalize hW : World.setCell W1 _ _ = W7
                have ha7 : AF s wo w.heap.size wo.heap.size #[.int .i64 K, .int .i64 ((C2.toNat : Int) - 48), .bool false, .int .i64 0, .int .i64 0, .string ⟨#[]⟩] (r7, false) W7 := by rw [← hW]; exact HA1.out.move r7
                clear hW a0 a1 a2 a3 a4 a5 g0 g1 g2 g3 g4 g5 c0 c1 c2 f1 f2
                obtain ⟨⟨a0, a1, a2, a3, a4, a5⟩, -, -⟩ := ha7.six
                have HA9 := Lib.hid ha7
                clear ha7
                have hlen2 : out.length ≤ 1024 := by omega
                go_wp2_with (at_builtin; refine list_append_own _ rfl (.tmp 128) (.tmp 130) 22 37 (.agg #[.int .i64 0, .int .i64 0, .bool false, .int .i64 0, .int .i64 0, .string ⟨#[]⟩]) 6 56 rfl Tryd.underlying22 infoA rfl (by decide) (.slice A out.length c) out.length (out.flatMap actCells) rfl (by exact row_move (HP.out.row HA9.out.2.2.1) (fun k hk => (Step.alloc (Step.refl No W7) _).block k ((HP.out.row HA9.out.2.2.1).lt k hk).2 (fun f => f))) ⟨W7.heap.size, 0, none⟩ 1 1 [.int .i64 K, .int .i64 ((C2.toNat : Int) - 48), .bool false, .int .i64 0, .int .i64 0, .string ⟨#[]⟩] rfl rfl (by exact cells_new W7 #[.int .i64 K, .int .i64 ((C2.toNat : Int) - 48), .bool false, .int .i64 0, .int .i64 0, .string ⟨#[]⟩] 37) (by simp [Value.oneCell']) (by simp only [maxLen]; omega) (by omega) ?_; intro v1 w2 hown hg hat; have HQ := Lib.hid (HP.out.turn hlt hlen2 HACT.out HTX.out HBD.out HA9.out.2.1 HA9.out.2.2.1 hown _ hg hat); clear hown hg hat; obtain ⟨A2, c2, rfl, -, -⟩ := row_slice HQ.out.1)
                go_roundw
                case rel =>
                  have h := HQ.out
                  simp only [List.length_append, List.length_cons, List.length_nil, Nat.zero_add] at h
                  exact ⟨_, _, h⟩
                case measure => simp [lenV]; omega
              · have k2 : 2 ≤ K := by omega
                have k3 : ¬ K ≤ 5 := by omega
                have b2 : decide (K ≤ 5) = false := decide_eq_false (by omega)
                have b0 : (K == 0) = false := beq_eq_false_iff_ne.2 (by omega)
                have b5 : (K == 5) = false := beq_eq_false_iff_ne.2 (by omega)
                have HD : Hid ((isMove K || isEdit K) = false ∧ (isEdit K || isBreak K) = false) := Lib.hid (by simp [isMove, isEdit, isBreak, b2, b0, b5])
                clear hkk
                obtain ⟨r7, hr7, HR7⟩ : ∃ r : Nat, (r2 : Int) + 1 = r ∧ Hid (r = q + 2 + 1) := ⟨r2 + 1, by omega, Lib.hid (by rw [HR2.out])⟩
                have HTX : Hid ((⟨K, (C2.toNat : Int) - 48, false, 0, 0, ⟨#[]⟩⟩ : ActD).text.size ≤ maxLen) := Lib.hid (by
                  have := actF_text s.data.toList (q, false)
                  rw [(actF_n HC1.out HK.out HC2.out HD.out.1 HD.out.2), Array.length_toList] at this
                  exact Nat.le_trans this (Nat.le_trans hs (by decide)))
                have HACT : Hid (actF s.data.toList (q, false) = (⟨K, (C2.toNat : Int) - 48, false, 0, 0, ⟨#[]⟩⟩, (r7, false))) := Lib.hid (by rw [HR7.out]; exact (actF_n HC1.out HK.out HC2.out HD.out.1 HD.out.2))
                have HBD : Hid (((r7, false) : SF).1 ≤ 281474976710000) := Lib.hid (by
                  have := actF_le s.data.toList (q, false) (by rw [Array.length_toList]; show q ≤ s.size; omega)
                  rw [HACT.out, Array.length_toList] at this
                  have h2 : r7 ≤ s.size + 20 := this
                  show r7 ≤ _
                  omega)
                clear hr3 HR3
                go_upto_region 20 with (fail)
                generalize hW : World.setCell W1 _ _ = W7
                have ha7 : AF s wo w.heap.size wo.heap.size #[.int .i64 K, .int .i64 ((C2.toNat : Int) - 48), .bool false, .int .i64 0, .int .i64 0, .string ⟨#[]⟩] (r7, false) W7 := by rw [← hW]; exact HA1.out.move r7
                clear hW a0 a1 a2 a3 a4 a5 g0 g1 g2 g3 g4 g5 c0 c1 c2 f1 f2
                obtain ⟨⟨a0, a1, a2, a3, a4, a5⟩, -, -⟩ := ha7.six
                have HA9 := Lib.hid ha7
                clear ha7
                have hlen2 : out.length ≤ 1024 := by omega
                go_wp2_with (at_builtin; refine list_append_own _ rfl (.tmp 128) (.tmp 130) 22 37 (.agg #[.int .i64 0, .int .i64 0, .bool false, .int .i64 0, .int .i64 0, .string ⟨#[]⟩]) 6 56 rfl Tryd.underlying22 infoA rfl (by decide) (.slice A out.length c) out.length (out.flatMap actCells) rfl (by exact row_move (HP.out.row HA9.out.2.2.1) (fun k hk => (Step.alloc (Step.refl No W7) _).block k ((HP.out.row HA9.out.2.2.1).lt k hk).2 (fun f => f))) ⟨W7.heap.size, 0, none⟩ 1 1 [.int .i64 K, .int .i64 ((C2.toNat : Int) - 48), .bool false, .int .i64 0, .int .i64 0, .string ⟨#[]⟩] rfl rfl (by exact cells_new W7 #[.int .i64 K, .int .i64 ((C2.toNat : Int) - 48), .bool false, .int .i64 0, .int .i64 0, .string ⟨#[]⟩] 37) (by simp [Value.oneCell']) (by simp only [maxLen]; omega) (by omega) ?_; intro v1 w2 hown hg hat; have HQ := Lib.hid (HP.out.turn hlt hlen2 HACT.out HTX.out HBD.out HA9.out.2.1 HA9.out.2.2.1 hown _ hg hat); clear hown hg hat; obtain ⟨A2, c2, rfl, -, -⟩ := row_slice HQ.out.1)
                go_roundw
                case rel =>
                  have h := HQ.out
                  simp only [List.length_append, List.length_cons, List.length_nil, Nat.zero_add] at h
                  exact ⟨_, _, h⟩
                case measure => simp [lenV]; omega
      · have HH := Lib.hid (show EndedF s out (q, true) from .inr (.inl rfl))
        clear hsl
        obtain ⟨U, ee, HU⟩ : ∃ U ee, Hid (showS out = (U, ee)) := ⟨_, _, Lib.hid rfl⟩
        go_wp2_with fail
        refine (ShowActs_any _ _ out HP.out.acts).mono ?_
        rintro e w1 ⟨rfl, hs1⟩
        rw [HU.out]
        have d2 := hs1.cell c2 (fun f => f)
        clear c0 c1 c2 f1 f2
        have Hhs1 := Lib.hid hs1
        clear hs1
        go_wp2
        go_ret2
        exact parseF_bad HP.out HH.out HU.out (.inl rfl) Hhs1.out
    · have t1 : decide ((q : Int) + 1 < s.size) = false := decide_eq_false (by omega)
      have HH := Lib.hid (show EndedF s out (q, x) from .inl (by rw [hsl]; exact hlt))
      clear hsl
      cases x
      · obtain ⟨U, ee, HU⟩ : ∃ U ee, Hid (showS out = (U, ee)) := ⟨_, _, Lib.hid rfl⟩
        go_wp2_with fail
        refine (ShowActs_any _ _ out HP.out.acts).mono ?_
        rintro e w1 ⟨rfl, hs1⟩
        rw [HU.out]
        have d2 := hs1.cell c2 (fun f => f)
        clear c0 c1 c2 f1 f2
        have Hhs1 := Lib.hid hs1
        clear hs1
        by_cases h0 : ee = 0
        · subst h0
          by_cases hU : U = s
          · subst hU
            have hb : (U.toList == U.toList) = true := beq_self_eq_true _
            go_wp2
            go_ret2
            exact parseF_good HP.out HH.out HU.out rfl Hhs1.out
          · have hb : (U.toList == s.toList) = false := beq_eq_false_iff_ne.2 (fun h => hU (ByteArray.ext (Array.ext' (by rw [← ByteArray.toList_eq, ← ByteArray.toList_eq]; exact h))))
            have HN := Lib.hid hU
            clear hU
            go_wp2
            go_ret2
            exact parseF_bad HP.out HH.out HU.out (.inr (.inr HN.out)) Hhs1.out
        · have hb : (ee == 0) = false := beq_eq_false_iff_ne.2 h0
          have hb2 : (ee != 0) = true := bne_iff_ne.2 h0
          have HN := Lib.hid h0
          clear h0
          go_wp2
          go_ret2
          exact parseF_bad HP.out HH.out HU.out (.inr (.inl HN.out)) Hhs1.out
      · obtain ⟨U, ee, HU⟩ : ∃ U ee, Hid (showS out = (U, ee)) := ⟨_, _, Lib.hid rfl⟩
        go_wp2_with fail
        refine (ShowActs_any _ _ out HP.out.acts).mono ?_
        rintro e w1 ⟨rfl, hs1⟩
        rw [HU.out]
        have d2 := hs1.cell c2 (fun f => f)
        clear c0 c1 c2 f1 f2
        have Hhs1 := Lib.hid hs1
        clear hs1
        go_wp2
        go_ret2
        exact parseF_bad HP.out HH.out HU.out (.inl rfl) Hhs1.out
end Go.Proofs.YtjeamfoicpgkhaaDoor.ScrW
