/- The law on scripts: any acts, any text. -/
import Derived.Test.YtjeamfoicpgkhaaDoorScrLend
import Derived.Test.YtjeamfoicpgkhaaDoorRefParse2
namespace Go.Proofs.YtjeamfoicpgkhaaDoor.ScrW
open Go.RowKit Go.Lib Go.Proofs.YtjeamfoicpgkhaaDoor Go.Proofs.YtjeamfoicpgkhaaDoor.Mem Go.Proofs.YtjeamfoicpgkhaaDoor.Scr Go.Proofs.YtjeamfoicpgkhaaDoor.Read Go.Proofs.YtjeamfoicpgkhaaDoor.Env
set_option linter.unusedVariables false
set_option linter.unusedSimpArgs false
set_option maxHeartbeats 8000000 in
set_option maxRecDepth 100000 in
theorem Scripts_any (s : ByteArray) (w : World) (hz : s.size ≤ 140737488351232) (v : Value) (xs : List ActD) (hx : ActS w xs v) (hl : xs.length * 56 ≤ 140737488351232) (hE : Env w) :
    Calls Tryd.prog 3 #[v, .string s] w fun e w' => e = .returned (.bool true) ∧ Step No w w' := by
  have HE := Lib.hid hE
  have HX := Lib.hid hx
  have HL := Lib.hid hl
  have HZ : Hid (s.size ≤ 140737488355328) := Lib.hid (by omega)
  obtain ⟨A, c, rfl, hc1, hc2⟩ := acts_len hx
  unfold maxLen at hc2
  clear hE hx hz hl
  obtain ⟨U, ee, HU⟩ : ∃ U ee, Hid (showS xs = (U, ee)) := ⟨_, _, Lib.hid rfl⟩
  go_enter Tryd.func3, Tryd.ntmps3
  go_wp2_with fail
  refine (LendActs_any _ xs _ HX.out HL.out).mono ?_
  rintro e w1 ⟨g, c1, rfl, ho1, hg1, hs1⟩
  have HO1 := Lib.hid ho1
  have HG1 := Lib.hid hg1
  have H1 := Lib.hid hs1
  have HX1 := Lib.hid (HX.out.to hs1)
  have HLS1 : Hid (ActS w1 xs (.slice (some ⟨g, 0, none⟩) xs.length c1)) := Lib.hid (acts_prefix (ys := [room, room]) (acts_of_post (by rw [show (xs ++ [room, room]).length = xs.length + 2 by simp]; exact ho1) (by
    intro a ha
    rcases List.mem_append.1 ha with ha | ha
    · exact HX.out.text a ha
    · simp only [List.mem_cons, List.not_mem_nil, or_false] at ha
      rcases ha with rfl | rfl <;> exact Nat.zero_le _)))
  clear ho1 hg1 hs1
  go_wp2_with fail
  refine (Show_any _ _ xs HLS1.out (HE.out.step H1.out)).mono ?_
  rintro e w2 ⟨rfl, hs2⟩
  rw [HU.out]
  have H2 := Lib.hid (H1.out.trans hs2 (fun _ f _ => f))
  have HO2 := Lib.hid (row_step HO1.out hs2 (fun _ _ f => f))
  have HX2 := Lib.hid (HX1.out.to hs2)
  clear hs2 HO1 HX1 H1 HLS1
  go_wp2_with fail
  refine (ShowActs_any _ _ xs HX2.out).mono ?_
  rintro e w3 ⟨rfl, hs3⟩
  rw [HU.out]
  have H3 := Lib.hid (H2.out.trans hs3 (fun _ f _ => f))
  have HO3 := Lib.hid (row_step HO2.out hs3 (fun _ _ f => f))
  have HX3 := Lib.hid (HX2.out.to hs3)
  clear hs3 HO2 HX2 H2
  go_wp2_with fail
  refine (Parse_any _ s HZ.out (HE.out.step H3.out)).mono ?_
  rintro e w4 ⟨v4, acts, err, rfl, hr4, hrow4, hk4, htx4, hs4⟩
  have H4 := Lib.hid (H3.out.trans hs4 (fun _ f _ => f))
  have HO4 := Lib.hid (row_step HO3.out hs4 (fun _ _ f => f))
  have HX4 := Lib.hid (HX3.out.to hs4)
  have HK4 : Hid (∀ k, v4.ownBlock = some k → w.heap.size ≤ k) := Lib.hid (fun k hk => Nat.le_trans H3.out.size (hk4 k hk))
  have HR4 := Lib.hid hr4
  have HV4 := Lib.hid hrow4
  have HT4 := Lib.hid htx4
  obtain ⟨A4, c4, rfl, -, -⟩ := row_slice hrow4
  clear hr4 hrow4 hk4 htx4 hs4 HO3 HX3 H3
  go_wp2_with fail
  refine (ParseActs_any _ s HZ.out).mono ?_
  rintro e w5 ⟨v5, acts5, err5, rfl, hr5, hrow5, hk5, htx5, hs5⟩
  have h1 := reads_one hr5 HR4.out
  injection h1 with h2 h3
  subst h2 h3
  have H5 := Lib.hid (H4.out.trans hs5 (fun _ f _ => f))
  have HO5 := Lib.hid (row_step HO4.out hs5 (fun _ _ f => f))
  have HX5 := Lib.hid (HX4.out.to hs5)
  have HV5 := Lib.hid (row_step HV4.out hs5 (fun _ _ f => f))
  have HA5 := Lib.hid (acts_of_post hrow5 htx5)
  have HC5 := Lib.hid (acts_of_post HV5.out htx5)
  obtain ⟨A5, c5, rfl, -, -⟩ := row_slice hrow5
  clear hr5 hrow5 hk5 htx5 hs5 HO4 HX4 H4 HR4 HV4 HT4
  have hb : (U.toList == U.toList) = true := beq_self_eq_true _
  go_wp2_with fail
  refine (num_any _ _).mono ?_
  rintro e w' ⟨rfl, rfl⟩
  go_wp2_with fail
  refine (SameActs_any _ _ _ _ _ HC5.out HA5.out).mono ?_
  rintro e w6 ⟨r, rfl, hr, hs6⟩
  obtain rfl : r = true := hr.2 rfl
  have H6 := Lib.hid (H5.out.trans hs6 (fun _ f _ => f))
  have HO6 := Lib.hid (row_step HO5.out hs6 (fun _ _ f => f))
  have HX6 := Lib.hid (HX5.out.to hs6)
  have HV6 := Lib.hid (row_step HV5.out hs6 (fun _ _ f => f))
  clear hr hs6 HO5 HX5 HV5 HA5 HC5 H5
  go_wp2_with fail
  refine (num_any _ _).mono ?_
  rintro e w' ⟨rfl, rfl⟩
  go_wp2_with fail
  refine (KeptActs_any _ xs g c1 _ HO6.out HX6.out).mono ?_
  rintro e w7 ⟨rfl, hs7⟩
  have H7 := Lib.hid (H6.out.trans hs7 (fun _ f _ => f))
  have HX7 := Lib.hid (HX6.out.to hs7)
  have HV7 := Lib.hid (row_step HV6.out hs7 (fun _ _ f => f))
  clear hs7 HO6 HX6 HV6 H6
  go_wp2_with fail
  go_loopw [14] (fun i wr => ∃ k : Nat, k ≤ xs.length ∧ i = .int .i64 k ∧ Step No w7 wr) (fun i _ => xs.length - (RowKit.intOf i).toNat)
  case atStart => exact ⟨0, Nat.zero_le _, rfl, Step.refl _ _⟩
  case round =>
    obtain ⟨k, hk, rfl, hs⟩ := hrel
    by_cases hlt : k < xs.length
    · have hxr := HX7.out.to hs
      have HXR := Lib.hid hxr
      have HC : Hid (∀ w', Step No wr w' → ∃ ad, some ad = A ∧ (xs[k]).text.size ≤ maxLen ∧ w'.cell? (ad.add (k * 6)) = some (.int .i64 (xs[k]).kind) ∧ w'.cell? ⟨(ad.add (k * 6)).block, (ad.add (k * 6)).off + 1, none⟩ = some (.int .i64 (xs[k]).client) ∧ w'.cell? ⟨(ad.add (k * 6)).block, (ad.add (k * 6)).off + 2, none⟩ = some (.bool (xs[k]).up) ∧
          w'.cell? ⟨(ad.add (k * 6)).block, (ad.add (k * 6)).off + 3, none⟩ = some (.int .i64 (xs[k]).at_) ∧ w'.cell? ⟨(ad.add (k * 6)).block, (ad.add (k * 6)).off + 4, none⟩ = some (.int .i64 (xs[k]).n) ∧ w'.cell? ⟨(ad.add (k * 6)).block, (ad.add (k * 6)).off + 5, none⟩ = some (.string (xs[k]).text)) := Lib.hid (fun w' hst => by
        obtain ⟨ad, e, h⟩ := acts_cells (HXR.out.to hst) k hlt
        exact ⟨ad, e.symm, h⟩)
      have hi0 : (0 : Int) ≤ k := by omega
      have hi1 : (k : Int) < xs.length := by omega
      have HS := Lib.hid hs
      generalize xs[k] = a at *
      obtain ⟨kd, cl, up, pl, n, t⟩ := a
      simp only at HC
      obtain ⟨ad, rfl, hz, c0, c1', c2, c3, c4', c5'⟩ := HC.out wr.drew (Step.refl No wr).drew
      have HZT := Lib.hid hz
      have HCA : Hid (∀ w', Step No wr w' → w'.cell? (ad.add (k * 6)) = some (.int .i64 kd) ∧ w'.cell? ⟨(ad.add (k * 6)).block, (ad.add (k * 6)).off + 1, none⟩ = some (.int .i64 cl) ∧ w'.cell? ⟨(ad.add (k * 6)).block, (ad.add (k * 6)).off + 2, none⟩ = some (.bool up) ∧
          w'.cell? ⟨(ad.add (k * 6)).block, (ad.add (k * 6)).off + 3, none⟩ = some (.int .i64 pl) ∧ w'.cell? ⟨(ad.add (k * 6)).block, (ad.add (k * 6)).off + 4, none⟩ = some (.int .i64 n) ∧ w'.cell? ⟨(ad.add (k * 6)).block, (ad.add (k * 6)).off + 5, none⟩ = some (.string t)) := Lib.hid (fun w' hst => by
        obtain ⟨ad', e, -, h⟩ := HC.out w' hst
        injection e with e
        subst e
        exact h)
      clear hz hxr hs HC
      generalize hm : actMay ⟨kd, cl, up, pl, n, t⟩ = m
      have HM := Lib.hid hm
      clear hm
      go_upto_region 11 with (fail)
      go_cut [80] (fun s80 wx => s80 = .bool false ∧ Step No wr wx)
      case first =>
        have HD : Hid (Step No wr wr.drew) := Lib.hid (Step.refl No wr).drew
        go_region_with (first | (go_at_call 15; refine (May_any ⟨kd, cl, up, pl, n, t⟩ _ HZT.out).mono ?_; rintro e wa ⟨rfl, hsa⟩; rw [HM.out]; have HP := Lib.hid (Step.trans (F := No) (G := No) (show Step No wr _ from by first | exact HQ.out | exact HD.out) hsa (fun _ f _ => f)); obtain ⟨p0, p1, p2, p3, p4, p5⟩ := HCA.out _ HP.out; clear hsa) | (go_at_call 16; refine (ActMay_any ⟨kd, cl, up, pl, n, t⟩ _ HZT.out).mono ?_; rintro e wb ⟨rfl, hsb⟩; rw [HM.out]; have HQ := Lib.hid (Step.trans (F := No) (G := No) (show Step No wr _ from by first | exact HP.out | exact HD.out) hsb (fun _ f _ => f)); obtain ⟨q0, q1, q2, q3, q4, q5⟩ := HCA.out _ HQ.out; clear hsb))
        all_goals
          go_wp2
          go_meet
          exact ⟨rfl, by first | exact HP.out | exact HQ.out⟩
      case rest =>
        obtain ⟨rfl, hs8⟩ := hcut
        have H8 := Lib.hid (HS.out.trans hs8 (fun _ f _ => f))
        clear hs8 c0 c1' c2 c3 c4' c5'
        go_wp2
        go_roundw
        case rel => exact ⟨k + 1, hlt, by go_num, H8.out⟩
        case measure => simp [RowKit.intOf]; omega
    · obtain rfl : k = xs.length := by omega
      have H8 := Lib.hid (H7.out.trans hs (fun _ f _ => f))
      have HV8 := Lib.hid (row_step HV7.out hs (fun _ _ f => f))
      clear hs H7 HV7
      go_wp2_with fail
      refine (SpoilActs_any _ _ _ HV8.out).mono ?_
      rintro e w9 ⟨rfl, hs9⟩
      have H9 := Lib.hid (H8.out.trans hs9 (fun i hi hlt => absurd hlt (Nat.not_lt.2 (HK4.out i hi))))
      clear hs9 H8 HV8
      go_wp2_with fail
      refine (awake_any _ (HE.out.step H9.out)).mono ?_
      rintro e w10 ⟨rfl, hs10⟩
      have H10 := Lib.hid (H9.out.trans hs10 (fun _ f _ => f))
      clear hs10
      go_wp2
      go_ret
      exact ⟨rfl, H10.out⟩
theorem Scripts_fin (s : ByteArray) (w : World) (hz : s.size ≤ 140737488351232) (v : Value) (xs : List ActD) (hx : ActS w xs v) (hl : xs.length * 56 ≤ 140737488351232) (hE : Env w) :
    Calls Tryd.prog 3 #[v, .string s] w fun e w' => e = .returned (.bool true) ∧ Below w.heap.size w w' :=
  (Scripts_any s w hz v xs hx hl hE).mono fun _ _ h => ⟨h.1, h.2.below⟩
end Go.Proofs.YtjeamfoicpgkhaaDoor.ScrW
