/- The reference's text of a poll without an edit. -/
import Derived.Test.YtjeamfoicpgkhaaGreatDoorRefNil
import Derived.Deep.RegionHeld3
namespace Go.Proofs.YtjeamfoicpgkhaaGreatDoor.RefNil
open Go.RowKit Go.Lib Go.Proofs.YtjeamfoicpgkhaaGreatDoor.Mem Go.Proofs.YtjeamfoicpgkhaaGreatDoor.Dec Go.Proofs.YtjeamfoicpgkhaaGreatDoor.Take Go.Proofs.YtjeamfoicpgkhaaGreatDoor.Data Go.Proofs.YtjeamfoicpgkhaaGreatDoor.Pk Go.Proofs.YtjeamfoicpgkhaaGreatDoor.MsgR Go.Proofs.YtjeamfoicpgkhaaGreatDoor.CompR Go.Proofs.YtjeamfoicpgkhaaGreatDoor.RefDec Go.Proofs.YtjeamfoicpgkhaaGreatDoor.C13
set_option linter.unusedVariables false
set_option linter.unusedSimpArgs false
/-- A string with bytes behind it. -/
theorem cat_to {M : ByteArray} {m : List UInt8} (h : Hid (M = ⟨m.toArray⟩)) (l : List UInt8) : ∃ M1 : ByteArray, M ++ ⟨l.toArray⟩ = M1 ∧ Hid (M1 = ⟨(m ++ l).toArray⟩) ∧ M1.size = M.size + l.length := by
  refine ⟨_, rfl, Lib.hid (by rw [h.out, str_app]), ?_⟩
  have := ByteArray.size_append (a := M) (b := ⟨l.toArray⟩)
  rw [str_size] at this
  exact this
theorem list_str (l : List UInt8) : ∃ D : ByteArray, Hid ((⟨l.toArray⟩ : ByteArray) = D) ∧ D.size = l.length := ⟨_, Lib.hid rfl, str_size l⟩
theorem num_le {x : Int} (h0 : 0 ≤ x) (h1 : x ≤ 1000000) : (num x).length ≤ 22 := by
  unfold num
  have := itoa_short h0 (by omega)
  rw [List.length_append]
  simp only [List.length_cons, List.length_nil]
  omega
theorem putF (r : Int) : putS (mF r) = 80 :: ([49, 44] ++ num r ++ [48, 44] ++ [48, 44]) := by
  have h1 : num 1 = [49, 44] := by simp [num, itoa, decDigits]
  have h0 : num 0 = [48, 44] := by simp [num, itoa, decDigits]
  unfold putS mF bodyS editS letter nums
  simp [h1, h0]
set_option maxHeartbeats 16000000 in
set_option maxRecDepth 100000 in
theorem PutMsg_nil (r : Int) (h0 : 0 ≤ r) (h1 : r ≤ 1023) (w : World) : Calls Tryz.prog 13 #[.agg (cF r)] w fun e w' => e = .returned (.tuple #[.string ⟨(putS (mF r)).toArray⟩, .int .i64 0]) ∧ Step No w w' := by
  have HP := Lib.hid (putF r)
  have H0 := Lib.hid h0
  have H1 := Lib.hid h1
  have hl := num_le h0 (by omega)
  obtain ⟨D, HD, zD⟩ := list_str (num r)
  obtain ⟨M1, E1, HM1, z1⟩ := cat_to (M := ⟨#[80]⟩) (m := [80]) (Lib.hid rfl) [49, 44]
  obtain ⟨M2, E2, HM2, z2⟩ := cat_to HM1 (num r)
  obtain ⟨M3, E3, HM3, z3⟩ := cat_to HM2 [48, 44]
  obtain ⟨M4, E4, HM4, z4⟩ := cat_to HM3 [48, 44]
  rw [HD.out] at E2
  have e0 : (⟨#[80]⟩ : ByteArray).size = 1 := rfl
  simp only [List.length_cons, List.length_nil, e0] at z1 z2 z3 z4
  have y1 : M1.size ≤ 3 := by omega
  have y2 : M2.size ≤ 25 := by omega
  have y3 : M3.size ≤ 27 := by omega
  have y4 : M4.size ≤ 29 := by omega
  have yD : D.size ≤ 22 := by omega
  have q2 : ¬ 9223372036854775807 < M1.size + D.size := by omega
  have q3 : ¬ 9223372036854775807 < M2.size + 2 := by omega
  have q4 : ¬ 9223372036854775807 < M3.size + 2 := by omega
  have q5 : ¬ 9223372036854775805 < M2.size := by omega
  have q6 : ¬ 9223372036854775805 < M3.size := by omega
  have hx : (⟨#[80, 67, 83]⟩ : ByteArray).extract 0 1 = ⟨#[80]⟩ := by rfl
  have hw1 : IntKind.i64.wrap 1 = 1 := by rfl
  have hn1 : Hid (num 1 = [49, 44]) := Lib.hid (by simp [num, itoa, decDigits])
  have hn0 : Hid (num 0 = [48, 44]) := Lib.hid (by simp [num, itoa, decDigits])
  clear y1 y2 y3 yD z1 z2 z3 z4 zD e0 hl h0 h1
  unfold cF
  go_enter Tryz.func13, Tryz.ntmps13
  go_wp2_with fail
  refine (MsgMay_nil r H0.out H1.out _).mono ?_
  rintro e w2 ⟨rfl, hs1⟩
  have HB := Lib.hid (hs1.blk (blk_new w _) (fun f => f))
  have HS2 : Hid (Step No w w2) := Lib.hid (((Step.refl No w).alloc _).trans hs1 (fun _ f _ => f))
  have HC : Hid (∀ w', Step No w2 w' → w'.cell? ⟨w.heap.size, 0, none⟩ = some (.int .i64 0) ∧ w'.cell? ⟨w.heap.size, 1, none⟩ = some (.int .i64 1) ∧ w'.cell? ⟨w.heap.size, 2, none⟩ = some (.int .i64 r) ∧ w'.cell? ⟨w.heap.size, 3, none⟩ = some (.int .i64 0) ∧ w'.cell? ⟨w.heap.size, 7, none⟩ = some (.slice none 0 0)) := Lib.hid fun w' hs => by
    obtain ⟨a0, a1, a2, a3, a4, a5, a6, a7, a8, a9, a10, a11, a12⟩ := cells13 (hs.blk HB.out (fun f => f))
    exact ⟨a0, a1, a2, a3, a7⟩
  clear hs1
  obtain ⟨c0, c1, c2, c3, c7⟩ := HC.out w2 (Step.refl _ _)
  go_upto_region 3 with (fail)
  go_cut [4] (fun s wx => s = .string M2 ∧ Step No w2 wx)
  case first =>
    have H2 : Hid (Step No w2 w2.drew) := Lib.hid ((Step.refl No w2).drew)
    obtain ⟨d0, d1, d2, d3, d7⟩ := HC.out _ H2.out
    go_region_held3 (fun w' => w'.cell? ⟨w.heap.size, 0, none⟩ = some (.int .i64 0) ∧ w'.cell? ⟨w.heap.size, 1, none⟩ = some (.int .i64 1) ∧ w'.cell? ⟨w.heap.size, 2, none⟩ = some (.int .i64 r)) (first | exact ⟨d0, d1, d2⟩ | exact ⟨f0, f1, f2⟩ | exact ⟨g0, g1, g2⟩) (first | (go_at_call 42; first | (refine (num_ref 1 (by decide) (by decide) _).mono ?_; rintro e w5 ⟨rfl, hs5⟩; rw [hn1.out]; have H5 := Lib.hid (Step.trans (F := No) (G := No) (show Step No w2 _ from by first | exact H2.out | exact Step.refl _ _) hs5 (fun _ f _ => f)); obtain ⟨f0, f1, f2, f3, f7⟩ := HC.out _ H5.out; clear hs5) | (refine (num_ref r H0.out (by have := H1.out; omega) _).mono ?_; rintro e w6 ⟨rfl, hs6⟩; rw [HD.out]; have H6 := Lib.hid (Step.trans (F := No) (G := No) (show Step No w2 _ from H5.out) hs6 (fun _ f _ => f)); obtain ⟨g0, g1, g2, g3, g7⟩ := HC.out _ H6.out; clear hs6)))
    all_goals
      go_wp2
      go_meet
      exact ⟨by first | rfl | rw [E1, E2], H6.out⟩
  case rest =>
    obtain ⟨rfl, hs7⟩ := hcut
    obtain ⟨i0, i1, i2, i3, i7⟩ := HC.out _ hs7
    have H7 := Lib.hid hs7
    clear c0 c1 c2 c3 c7 hs7
    go_upto_region 10 with (fail)
    have H2 : Hid (Step No w2 (World.drew _)) := Lib.hid (H7.out.drew)
    obtain ⟨d0, d1, d2, d3, d7⟩ := HC.out _ H2.out
    go_region_held3 (fun w' => w'.cell? ⟨w.heap.size, 3, none⟩ = some (.int .i64 0) ∧ w'.cell? ⟨w.heap.size, 7, none⟩ = some (.slice none 0 0)) (first | exact ⟨d3, d7⟩ | exact ⟨f3, f7⟩ | exact ⟨g3, g7⟩) (first | (go_at_call 42; refine (num_ref 0 (by decide) (by decide) _).mono ?_; rintro e w5 ⟨rfl, hs5⟩; rw [hn0.out]; have H5 := Lib.hid (Step.trans (F := No) (G := No) (show Step No w2 _ from by first | exact H2.out | exact H7.out) hs5 (fun _ f _ => f)); obtain ⟨f0, f1, f2, f3, f7⟩ := HC.out _ H5.out; clear hs5) | (go_at_call 43; refine (comps_nil _).mono ?_; rintro e w6 ⟨rfl, hs6⟩; have H6 := Lib.hid (Step.trans (F := No) (G := No) (show Step No w2 _ from H5.out) hs6 (fun _ f _ => f)); obtain ⟨g0, g1, g2, g3, g7⟩ := HC.out _ H6.out; clear hs6))
    go_wp2
    go_ret2
    exact ⟨by rw [HM4.out, HP.out]; simp, HS2.out.trans H6.out (fun _ f _ => f)⟩
end Go.Proofs.YtjeamfoicpgkhaaGreatDoor.RefNil
