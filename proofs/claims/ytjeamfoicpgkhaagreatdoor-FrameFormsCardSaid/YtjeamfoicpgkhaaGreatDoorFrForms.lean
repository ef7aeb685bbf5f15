/- Texts that are no frames, though their parts are right. -/
import Derived.Test.YtjeamfoicpgkhaaGreatDoorFrL
import Derived.Test.YtjeamfoicpgkhaaGreatDoorFrB
import Derived.Test.YtjeamfoicpgkhaaGreatDoorRefPutF
import Derived.Test.YtjeamfoicpgkhaaGreatDoorLumpA
namespace Go.Proofs.YtjeamfoicpgkhaaGreatDoor.FrForms
open Go.RowKit Go.Lib Go.Proofs.YtjeamfoicpgkhaaGreatDoor.Mem Go.Proofs.YtjeamfoicpgkhaaGreatDoor.Read Go.Proofs.YtjeamfoicpgkhaaGreatDoor.Tree Go.Proofs.YtjeamfoicpgkhaaGreatDoor.Data Go.Proofs.YtjeamfoicpgkhaaGreatDoor.Env Go.Proofs.YtjeamfoicpgkhaaGreatDoor.Dec Go.Proofs.YtjeamfoicpgkhaaGreatDoor.Take Go.Proofs.YtjeamfoicpgkhaaGreatDoor.Pk Go.Proofs.YtjeamfoicpgkhaaGreatDoor.MsgR Go.Proofs.YtjeamfoicpgkhaaGreatDoor.CompR Go.Proofs.YtjeamfoicpgkhaaGreatDoor.May Go.Proofs.YtjeamfoicpgkhaaGreatDoor.TakeM Go.Proofs.YtjeamfoicpgkhaaGreatDoor.Get Go.Proofs.YtjeamfoicpgkhaaGreatDoor.Fr Go.Proofs.YtjeamfoicpgkhaaGreatDoor.FrB Go.Proofs.YtjeamfoicpgkhaaGreatDoor.SumMath Go.Proofs.YtjeamfoicpgkhaaGreatDoor.Frame Go.Proofs.YtjeamfoicpgkhaaGreatDoor.FrAwake Go.Proofs.YtjeamfoicpgkhaaGreatDoor.FrL Go.Proofs.YtjeamfoicpgkhaaGreatDoor.Same Go.Proofs.YtjeamfoicpgkhaaGreatDoor.C13 Go.Proofs.YtjeamfoicpgkhaaGreatDoor.RefNil
open Go.Proofs.YtjeamfoicpgkhaaGreatDoor.MayLen (putOk)
open Go.Proofs.YtjeamfoicpgkhaaGreatDoor.Bytes (place_is)
set_option linter.unusedVariables false
set_option linter.unusedSimpArgs false
theorem i64_and1023 (n : Int) : bits .and .i64 n 1023 = n % 1024 := by
  have h127 : (BitVec.ofInt 64 1023).toNat = 2 ^ 10 - 1 := by decide
  have key : (BitVec.ofInt 64 n &&& BitVec.ofInt 64 1023).toNat = (n % ((2 ^ 64 : Nat) : Int)).toNat % 2 ^ 10 := by
    rw [BitVec.toNat_and, BitVec.toNat_ofInt, h127, Nat.and_two_pow_sub_one_eq_mod]
  show IntKind.i64.wrap ((BitVec.ofInt 64 n &&& BitVec.ofInt 64 1023).toNat : Nat) = n % 1024
  rw [key, IntKind.wrap_i64]
  omega
theorem okF (r : Int) (h0 : 0 ≤ r) (h1 : r ≤ 1023) (hl : (putS (mF r)).length ≤ 1000000) : putOk (mF r) = true := by
  unfold putOk
  simp [msgB, headB, mF, pollB, noneB, editB, compsOk, upB, spanF, spanT, noTree, ba] at hl ⊢
  exact ⟨⟨decide_eq_true ⟨h0, by omega⟩, rfl⟩, decide_eq_true hl⟩
theorem lenF (r : Int) (h0 : 0 ≤ r) (h1 : r ≤ 1023) : (putS (mF r)).length ≤ 29 := by
  rw [putF]
  have := num_le h0 (by omega)
  simp
  omega
theorem mF_msg (r : Int) (w : World) : MsgR w (mF r) zV zV zV := empty_msg _ _ rfl rfl rfl (Nat.zero_le _)
theorem zM_msg (w : World) : MsgR w zM zV zV zV := empty_msg _ _ rfl rfl rfl (Nat.zero_le _)
theorem cat_list (a b : List UInt8) : (⟨a.toArray⟩ : ByteArray) ++ ⟨b.toArray⟩ = ⟨(a ++ b).toArray⟩ := by
  apply ByteArray.ext
  simp [ByteArray.data_append]
set_option maxHeartbeats 16000000 in
set_option maxRecDepth 100000 in
theorem Forms_any (w : World) (which rev : Int) (hE : Env w) : Calls Tryz.prog 9 #[.int .i64 which, .int .i64 rev] w fun e w' => e = .returned (.bool true) ∧ Step No w w' := by
  have HE := Lib.hid hE
  obtain ⟨r, hr, hr0, hr1⟩ : ∃ r : Int, bits .and .i64 rev 1023 = r ∧ 0 ≤ r ∧ r ≤ 1023 := ⟨_, rfl, by rw [i64_and1023]; omega, by rw [i64_and1023]; omega⟩
  have HR := Lib.hid (show 0 ≤ r ∧ r ≤ 1023 from ⟨hr0, hr1⟩)
  clear hE hr0 hr1
  go_enter Tryz.func9, Tryz.ntmps9
  go_wp2_with fail
  refine (awake_any _ (HE.out.step (by repeat' (first | exact Step.refl _ _ | with_reducible assumption | refine Step.drew ?_ | refine Step.drewN ?_ _ | refine Step.alloc ?_ _)))).mono ?_
  rintro e w1 ⟨rfl, hs1⟩
  have HS1 : Hid (Step No w w1) := Lib.hid hs1
  clear hs1
  go_wp2_with fail
  refine (PutMsg_nil r HR.out.1 HR.out.2 _).mono ?_
  rintro e w2 ⟨rfl, hs2⟩
  have HM2 := Lib.hid (hs2.blk (blk_new w1 _) (fun f => f))
  have HS2 : Hid (Step No w w2) := Lib.hid ((HS1.out.alloc _).trans hs2 (fun _ f _ => f))
  clear hs2
  have hl := lenF r HR.out.1 HR.out.2
  have HOk := Lib.hid (okF r HR.out.1 HR.out.2 (by omega))
  have HP := Lib.hid (putF r)
  obtain ⟨S, hS⟩ : ∃ S, putS (mF r) = S := ⟨_, rfl⟩
  have HS := Lib.hid hS
  rw [hS] at hl HP ⊢
  clear hS
  have hsz : (⟨S.toArray⟩ : ByteArray).size = S.length := rfl
  go_wp2_with fail
  refine (RefDec.Decimal_any S.length (by omega) _).mono ?_
  rintro e w3 ⟨rfl, hs3⟩
  have hKl : (decDigits S.length).length ≤ 9 := dec_short _ (by omega)
  obtain ⟨K, hK⟩ : ∃ K, decDigits S.length = K := ⟨_, rfl⟩
  have HK := Lib.hid hK
  rw [hK] at hKl ⊢
  have HS3 : Hid (Step No w w3) := Lib.hid (HS2.out.trans hs3 (fun _ f _ => f))
  have HM3 := Lib.hid (hs3.blk HM2.out (fun f => f))
  clear hK hs3 HM2
  go_wp2_with fail
  refine (SumWalk.refsum_any ⟨S.toArray⟩ _ (by omega)).mono ?_
  rintro e w' ⟨rfl, rfl⟩
  obtain ⟨u, hu⟩ : ∃ u : Nat, sumL (⟨S.toArray⟩ : ByteArray).data.toList = (u : Int) := ⟨_, (Int.toNat_of_nonneg (sumL_range _).1).symm⟩
  have hu1 : u < 1000003 := by have := (sumL_range (⟨S.toArray⟩ : ByteArray).data.toList).2; omega
  have HU := Lib.hid (show sumL S = (u : Int) from hu)
  rw [hu]
  go_wp2_with fail
  refine (RefDec.Decimal_any u (by omega) _).mono ?_
  rintro e w4 ⟨rfl, hs4⟩
  have hCl : (decDigits u).length ≤ 9 := dec_short _ (by omega)
  obtain ⟨C, hC⟩ : ∃ C, decDigits u = C := ⟨_, rfl⟩
  have HC := Lib.hid hC
  rw [hC] at hCl ⊢
  have HS4 : Hid (Step No w w4) := Lib.hid (HS3.out.trans hs4 (fun _ f _ => f))
  have HM4 := Lib.hid (hs4.blk HM3.out (fun f => f))
  clear hC hs4 HM3
  have hcat := cat_list
  go_wp2_with fail
  have hSF : SaysF (mF r) (wr K C S) := ⟨HOk.out, by rw [HS.out, wrap_wr, HK.out, HU.out, Int.toNat_natCast, HC.out]⟩
  refine (fget_any _ (wr K C S) (by unfold wr; simp; omega) (HE.out.step HS4.out)).mono ?_
  rintro e w5 ⟨hs5, hp⟩
  rcases hp with ⟨m, ev, env, nv, hm, rfl, hmw⟩ | ⟨hno, -⟩
  · obtain rfl := saysF_one hm hSF
    obtain ⟨⟨A1, n1, c1, rfl⟩, ⟨A2, n2, c2, rfl⟩, A3, n3, c3, rfl⟩ := hmw.slices
    have HS5 : Hid (Step No w w5) := Lib.hid (HS4.out.trans hs5 (fun _ f _ => f))
    have HM5 := Lib.hid (hs5.blk HM4.out (fun f => f))
    have HG5 := Lib.hid (msg_reads hmw)
    clear hs5 hm hmw hSF
    simp only [msgCells, mF, noTree, ba] at *
    go_upto_region 7 with (fail)
    generalize hW : World.alloc w5 _ = w6 at *
    have hs6 : Step No w5 w6 := by rw [← hW]; exact (Step.refl No w5).alloc _
    have HB6 := Lib.hid (show w6.heap[w5.heap.size]? = some _ by rw [← hW]; exact blk_new w5 _)
    have HM6 := Lib.hid (hs6.blk HM5.out (fun f => f))
    have HS6 : Hid (Step No w w6) := Lib.hid (HS5.out.trans hs6 (fun _ f _ => f))
    have HG6 := Lib.hid (HG5.out.to hs6)
    clear hW hs6 HM5 HS5 HG5
    go_wp2_with fail
    refine (RefDec.Dec_any ((S.length : Int) + 1) (by omega) (by omega) _).mono ?_
    rintro e w7 ⟨rfl, hs7⟩
    obtain ⟨K1, hK1⟩ : ∃ K1, itoa ((S.length : Int) + 1) = K1 := ⟨_, rfl⟩
    have hKd : K1 = decDigits (S.length + 1) := by
      rw [← hK1]
      unfold itoa
      rw [if_neg (by omega)]
      congr 1
    have hK1l : K1.length ≤ 9 := by rw [hKd]; exact dec_short _ (by omega)
    have HK1 := Lib.hid hKd
    rw [hK1]
    have HS7 : Hid (Step No w w7) := Lib.hid (HS6.out.trans hs7 (fun _ f _ => f))
    have HB7 := Lib.hid (hs7.blk HB6.out (fun f => f))
    have HM7 := Lib.hid (hs7.blk HM6.out (fun f => f))
    have HG7 := Lib.hid (HG6.out.to hs7)
    clear hK1 hKd hs7 HB6 HM6 HG6 HS6
    go_wp2_with fail
    refine (SumWalk.refsum_any ⟨S.toArray⟩ _ (by omega)).mono ?_
    rintro e w' ⟨rfl, rfl⟩
    rw [hu]
    go_wp2_with fail
    refine (RefDec.Dec_any ((u : Int) + 1) (by omega) (by omega) _).mono ?_
    rintro e w8 ⟨rfl, hs8⟩
    obtain ⟨C1, hC1⟩ : ∃ C1, itoa ((u : Int) + 1) = C1 := ⟨_, rfl⟩
    have hCd : C1 = decDigits (u + 1) := by
      rw [← hC1]
      unfold itoa
      rw [if_neg (by omega)]
      congr 1
    have hC1l : C1.length ≤ 9 := by rw [hCd]; exact dec_short _ (by omega)
    have HC1 := Lib.hid hCd
    rw [hC1]
    have HS8 : Hid (Step No w w8) := Lib.hid (HS7.out.trans hs8 (fun _ f _ => f))
    have HB8 := Lib.hid (hs8.blk HB7.out (fun f => f))
    have HM8 := Lib.hid (hs8.blk HM7.out (fun f => f))
    have HG8 := Lib.hid (HG7.out.to hs8)
    clear hC1 hCd hs8 HB7 HM7 HG7 HS7
    go_upto_region 8 with (fail)
    generalize hW : World.alloc w8 _ = w9 at *
    have hs9 : Step No w8 w9 := by rw [← hW]; exact (Step.refl No w8).alloc _
    have HCell : ∀ j, j < 16 → ∃ x, (badL S K C K1 C1)[j]? = some x ∧ w9.cell? ⟨w8.heap.size, j, none⟩ = some (.string ⟨x.toArray⟩) := by
      intro j hj
      rw [← hW, blk_cell (blk_new w8 _)]
      match j, hj with
      | 0, _ => exact ⟨_, rfl, by simp [wr, nines]⟩
      | 1, _ => exact ⟨_, rfl, by simp [wr, nines]⟩
      | 2, _ => exact ⟨_, rfl, by simp [wr, nines]⟩
      | 3, _ => exact ⟨_, rfl, by simp [wr, nines]⟩
      | 4, _ => exact ⟨_, rfl, by simp [wr, nines]⟩
      | 5, _ => exact ⟨_, rfl, by simp [wr, nines]⟩
      | 6, _ => exact ⟨_, rfl, by simp [wr, nines]⟩
      | 7, _ => exact ⟨_, rfl, by simp [wr, nines]⟩
      | 8, _ => exact ⟨_, rfl, by simp [wr, nines]⟩
      | 9, _ => exact ⟨_, rfl, by simp [wr, nines]⟩
      | 10, _ => exact ⟨_, rfl, by simp [wr, nines]⟩
      | 11, _ => exact ⟨_, rfl, by simp [wr, nines]⟩
      | 12, _ => exact ⟨_, rfl, by simp [wr, nines]⟩
      | 13, _ => exact ⟨_, rfl, by simp [wr, nines]⟩
      | 14, _ => exact ⟨_, rfl, by simp [wr, nines]⟩
      | 15, _ => exact ⟨_, rfl, by simp [wr, nines]⟩
      | n + 16, h => omega
    have HB9 := Lib.hid (hs9.blk HB8.out (fun f => f))
    have HM9 := Lib.hid (hs9.blk HM8.out (fun f => f))
    have HS9 : Hid (Step No w w9) := Lib.hid (HS8.out.trans hs9 (fun _ f _ => f))
    have HG9 := Lib.hid (HG8.out.to hs9)
    obtain ⟨j, hpl, hj⟩ := place_is which 16 (by decide) (by decide)
    rw [show ((16 : Nat) : Int) = 16 from rfl] at hpl
    obtain ⟨x, hx, hc⟩ := HCell j hj
    have hxl : x.length ≤ 1000 := by
      have hmem := List.mem_of_getElem? hx
      simp only [badL, wr, nines, List.mem_cons, List.not_mem_nil, or_false] at hmem
      rcases hmem with rfl | rfl | rfl | rfl | rfl | rfl | rfl | rfl | rfl | rfl | rfl | rfl | rfl | rfl | rfl | rfl <;> simp <;> omega
    have hU2 : (sumL S).toNat = u := by rw [HU.out]; exact Int.toNat_natCast u
    have HN : Hid (∀ m, ¬ SaysF m x) := Lib.hid fun m h => bad_none (S := S) HP.out (by omega) j hj (putS m) (put_short h.1) x (by rw [HK.out, hU2, HC.out, ← HK1.out, ← HC1.out]; exact hx) h.2
    have hj1 : (j : Int) < 16 := by omega
    have hj0 : (0 : Int) ≤ j := by omega
    clear hW hs9 HB8 HM8 HS8 HG8 HCell hx hcat hU2 hKl hCl hK1l hC1l
    go_wp2_with fail
    refine (fget_any _ x (by omega) (HE.out.step HS9.out)).mono ?_
    rintro e w10 ⟨hs10, hp⟩
    rcases hp with ⟨m, ev, env, nv, hm, rfl, hmw⟩ | ⟨-, rfl⟩
    · exact absurd hm (HN.out m)
    · have HS10 : Hid (Step No w w10) := Lib.hid (HS9.out.trans hs10 (fun _ f _ => f))
      have HB10 := Lib.hid (hs10.blk HB9.out (fun f => f))
      have HM10 := Lib.hid (hs10.blk HM9.out (fun f => f))
      have HG10 := Lib.hid (HG9.out.to hs10)
      clear hs10 HB9 HM9 HG9 hc hpl hj hj0 hj1 hxl
      simp only [msgCells, zM, zV, noTree, ba] at *
      go_upto_region 9 with (fail)
      generalize hW : World.alloc w10 _ = w11 at *
      have hs11 : Step No w10 w11 := by rw [← hW]; exact (Step.refl No w10).alloc _
      have HZ11 := Lib.hid (show w11.heap[w10.heap.size]? = some _ by rw [← hW]; exact blk_new w10 _)
      have HB11 := Lib.hid (hs11.blk HB10.out (fun f => f))
      have HM11 := Lib.hid (hs11.blk HM10.out (fun f => f))
      have HS11 : Hid (Step No w w11) := Lib.hid (HS10.out.trans hs11 (fun _ f _ => f))
      have HG11 := Lib.hid (HG10.out.to hs11)
      clear hW hs11 HB10 HM10 HG10 HS10
      obtain ⟨a0, a1, a2, a3, a4, a5, a6, a7, a8, a9, a10, a11, a12⟩ := cells13 HB11.out
      obtain ⟨b0, b1, b2, b3, b4, b5, b6, b7, b8, b9, b10, b11, b12⟩ := cells13 HM11.out
      go_wp2_with fail
      refine (SameMsg_any w11 (mF r) (mF r) _ _ _ zV zV zV HG11.out (mF_msg r w11)).mono ?_
      rintro e w12 ⟨q, rfl, hq, hs12⟩
      obtain rfl : q = true := hq.2 rfl
      have HZ12 := Lib.hid (hs12.blk HZ11.out (fun f => f))
      have HS12 : Hid (Step No w w12) := Lib.hid (HS11.out.trans hs12 (fun _ f _ => f))
      clear a0 a1 a2 a3 a4 a5 a6 a7 a8 a9 a10 a11 a12 b0 b1 b2 b3 b4 b5 b6 b7 b8 b9 b10 b11 b12 hs12 hq HB11 HM11 HG11 HZ11
      obtain ⟨a0, a1, a2, a3, a4, a5, a6, a7, a8, a9, a10, a11, a12⟩ := cells13 HZ12.out
      go_wp2_with fail
      refine (num_any _ _).mono ?_
      rintro e w' ⟨rfl, rfl⟩
      go_wp2_with fail
      refine (SameMsg_any w12 zM zM zV zV zV zV zV zV (zM_msg w12) (zM_msg w12)).mono ?_
      rintro e w13 ⟨q, rfl, hq, hs13⟩
      obtain rfl : q = true := hq.2 rfl
      have HS13 : Hid (Step No w w13) := Lib.hid (HS12.out.trans hs13 (fun _ f _ => f))
      clear a0 a1 a2 a3 a4 a5 a6 a7 a8 a9 a10 a11 a12 hs13 hq
      go_wp2_with fail
      refine (num_any _ _).mono ?_
      rintro e w' ⟨rfl, rfl⟩
      go_wp2_with fail
      go_ret
      exact ⟨rfl, HS13.out⟩
  · exact absurd hSF (hno _)
end Go.Proofs.YtjeamfoicpgkhaaGreatDoor.FrForms
