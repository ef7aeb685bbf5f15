/- awake of the laws on frames. -/
import Derived.Test.YtjeamfoicpgkhaaGreatDoorFrame
import Derived.Test.YtjeamfoicpgkhaaGreatDoorLumpA
import Derived.Test.YtjeamfoicpgkhaaGreatDoorSameM
import Derived.Test.YtjeamfoicpgkhaaGreatDoorLumpB
namespace Go.Proofs.YtjeamfoicpgkhaaGreatDoor.FrAwake
open Go.RowKit Go.Lib Go.Proofs.YtjeamfoicpgkhaaGreatDoor.Mem Go.Proofs.YtjeamfoicpgkhaaGreatDoor.Read Go.Proofs.YtjeamfoicpgkhaaGreatDoor.Tree Go.Proofs.YtjeamfoicpgkhaaGreatDoor.Data Go.Proofs.YtjeamfoicpgkhaaGreatDoor.Env Go.Proofs.YtjeamfoicpgkhaaGreatDoor.Take Go.Proofs.YtjeamfoicpgkhaaGreatDoor.Pk Go.Proofs.YtjeamfoicpgkhaaGreatDoor.MsgR Go.Proofs.YtjeamfoicpgkhaaGreatDoor.CompR Go.Proofs.YtjeamfoicpgkhaaGreatDoor.May Go.Proofs.YtjeamfoicpgkhaaGreatDoor.TakeM Go.Proofs.YtjeamfoicpgkhaaGreatDoor.Get Go.Proofs.YtjeamfoicpgkhaaGreatDoor.Fr Go.Proofs.YtjeamfoicpgkhaaGreatDoor.SumMath Go.Proofs.YtjeamfoicpgkhaaGreatDoor.Frame Go.Proofs.YtjeamfoicpgkhaaGreatDoor.FrA Go.Proofs.YtjeamfoicpgkhaaGreatDoor.Same
open Go.Proofs.YtjeamfoicpgkhaaGreatDoor.MayLen (putOk)
open Go.Proofs.YtjeamfoicpgkhaaGreatDoor.Dec Go.Proofs.YtjeamfoicpgkhaaGreatDoor.C13
set_option linter.unusedVariables false
set_option linter.unusedSimpArgs false
theorem saysF_one {m k : MsgD} {l : List UInt8} (h : SaysF m l) (h' : SaysF k l) : m = k := by
  have h1 := h.frame
  rw [h'.frame] at h1
  injection h1 with h1
  exact says_one (l := putS m) (SaysP.says ⟨h.1, rfl⟩) (SaysP.says ⟨h'.1, h1⟩)
theorem empty_msg (w : World) (m : MsgD) (he : m.edit = []) (hn : m.entries = []) (ht : m.tree.nodes = []) (hx : m.text.size ≤ maxLen) : MsgR w m zV zV zV := by
  refine ⟨?_, ?_, ?_, hx⟩
  · rw [he]; exact sl_nil w
  · rw [hn]; exact sl_nil w
  · rw [ht]; exact sl_nil w
set_option maxHeartbeats 16000000 in
set_option maxRecDepth 100000 in
theorem awake_any (w : World) (hE : Env w) : Calls Tryz.prog 28 #[] w fun e w' => e = .returned (.bool true) ∧ Step No w w' := by
  have HE := Lib.hid hE
  clear hE
  go_enter Tryz.func28, Tryz.ntmps28
  go_wp2_with fail
  refine (fput_any m0 zV zV zV _ (empty_msg _ _ rfl rfl rfl (Nat.zero_le _)) (fun x hx => by cases hx) (HE.out.step (by repeat' (first | exact Step.refl _ _ | with_reducible assumption | refine Step.drew ?_ | refine Step.drewN ?_ _ | refine Step.alloc ?_ _)))).mono ?_
  rintro e w2 ⟨hs2, hp⟩
  rcases hp with ⟨-, rfl⟩ | ⟨hp, -⟩
  · have HS2 : Hid (Step No w w2) := Lib.hid (((Step.refl No w).alloc _).trans hs2 (fun _ f _ => f))
    have HM2 : Hid (w2.heap[w.heap.size]? = some (.cells (msgCells m0 zV zV zV) TMs (0, 0))) := Lib.hid (hs2.blk (blk_new _ _) (fun f => f))
    clear hs2
    obtain ⟨T, hT⟩ : ∃ T, wrapS (putS m0) = T := ⟨_, rfl⟩
    have HT := Lib.hid hT
    have hTl : T.length ≤ 40 := by
      rw [← hT, Frame.wrap_len', put0]
      have h1 := itoa_len (len_small (l := ([80, 50, 44, 55, 44, 48, 44, 48, 44] : List UInt8)) (by decide))
      have h2 := itoa_len (sum_small [80, 50, 44, 55, 44, 48, 44, 48, 44])
      simp only [List.length_cons, List.length_nil] at h1 ⊢
      omega
    rw [hT]
    clear hT
    unfold ba
    go_wp2_with fail
    refine (fget_any _ T (by omega) (HE.out.step HS2.out)).mono ?_
    rintro e w3 ⟨hs3, hp⟩
    rcases hp with ⟨m, ev, env, nv, hm, rfl, hmw⟩ | ⟨hno, -⟩
    · obtain rfl := saysF_one hm (show SaysF m0 T from ⟨ok0, HT.out⟩)
      obtain ⟨⟨A1, n1, c1, rfl⟩, ⟨A2, n2, c2, rfl⟩, A3, n3, c3, rfl⟩ := hmw.slices
      have HS3 : Hid (Step No w w3) := Lib.hid (HS2.out.trans hs3 (fun _ f _ => f))
      have HM3 := Lib.hid (hs3.blk HM2.out (fun f => f))
      have HG3 := Lib.hid (msg_reads hmw)
      clear hs3 hm hmw
      have hsz : (⟨T.toArray⟩ : ByteArray).size = T.length := rfl
      have hcat : ((⟨#[120]⟩ : ByteArray) ++ ⟨T.toArray⟩) = ⟨(120 :: T).toArray⟩ := by apply ByteArray.ext; simp [ByteArray.data_append]
      simp only [msgCells, m0]
      go_wp2_with fail
      refine (fget_any _ (120 :: T) (by simp; omega) (HE.out.step (HS3.out.trans (by repeat' (first | exact Step.refl _ _ | with_reducible assumption | refine Step.drew ?_ | refine Step.drewN ?_ _ | refine Step.alloc ?_ _)) (fun _ f _ => f)))).mono ?_
      rintro e w4 ⟨hs4, hp⟩
      rcases hp with ⟨m, ev, env, nv, hm, rfl, hmw⟩ | ⟨-, rfl⟩
      · exact absurd hm.2 (head_ne _ _)
      · simp only [msgCells, zM, zV, noTree, ba] at *
        have hs34 := Step.trans (F := No) (G := No) (Step.alloc (Step.refl _ w3) _) hs4 (fun _ f _ => f)
        have HS4 : Hid (Step No w w4) := Lib.hid (HS3.out.trans hs34 (fun _ f _ => f))
        have HM4 := Lib.hid (hs34.blk HM3.out (fun f => f))
        have HB4 := Lib.hid (hs4.blk (blk_new w3 _) (fun f => f))
        have HG4 := Lib.hid (HG3.out.to hs34)
        clear hs4 hs34 HG3 HM3
        go_wp2_with fail
        refine (fput_any m1 zV zV zV _ (empty_msg _ _ rfl rfl rfl (Nat.zero_le _)) (fun x hx => by cases hx) (HE.out.step (HS4.out.trans (by repeat' (first | exact Step.refl _ _ | with_reducible assumption | refine Step.drew ?_ | refine Step.drewN ?_ _ | refine Step.alloc ?_ _)) (fun _ f _ => f)))).mono ?_
        rintro e w5 ⟨hs5, hp⟩
        rcases hp with ⟨hp, -⟩ | ⟨-, rfl⟩
        · exact absurd (no1.symm.trans hp) (by decide)
        · have hs45 := Step.trans (F := No) (G := No) (Step.alloc (Step.refl _ w4) _) hs5 (fun _ f _ => f)
          have HS5 : Hid (Step No w w5) := Lib.hid (HS4.out.trans hs45 (fun _ f _ => f))
          have HM5 := Lib.hid (hs45.blk HM4.out (fun f => f))
          have HB5 := Lib.hid (hs45.blk HB4.out (fun f => f))
          have HG5 := Lib.hid (HG4.out.to hs45)
          clear hs5 hs45 HG4 HM4 HB4
          go_wp2_with fail
          refine (SumWalk.refsum_any _ _ (by decide)).mono ?_
          rintro e w' ⟨rfl, rfl⟩
          obtain ⟨u, hu⟩ : ∃ u : Nat, sumL (⟨#[80, 50, 44, 55, 44, 48, 44, 48, 44]⟩ : ByteArray).data.toList = (u : Int) := ⟨_, (Int.toNat_of_nonneg (sumL_range _).1).symm⟩
          have hu1 : u < 1000003 := by have := (sumL_range (⟨#[80, 50, 44, 55, 44, 48, 44, 48, 44]⟩ : ByteArray).data.toList).2; omega
          have hc2 : (⟨#[57, 58]⟩ : ByteArray) ++ ⟨(decDigits u).toArray⟩ ++ ⟨#[58, 80, 50, 44, 55, 44, 48, 44, 48, 44]⟩ = ⟨T.toArray⟩ := by
            have e1 : T = 57 :: 58 :: (decDigits u ++ [58, 80, 50, 44, 55, 44, 48, 44, 48, 44]) := by
              rw [← HT.out, put0, wrap_three]
              have e2 : sumL [80, 50, 44, 55, 44, 48, 44, 48, 44] = (u : Int) := hu
              have e3 : decDigits (([80, 50, 44, 55, 44, 48, 44, 48, 44] : List UInt8).length) = [57] := by simp [decDigits]
              rw [e2, e3]
              rfl
            rw [e1]
            apply ByteArray.ext
            simp [ByteArray.data_append]
          have hul : (decDigits u).length ≤ 9 := by rw [decDigits_length]; exact nDigits_le 8 _ (by omega)
          rw [hu]
          clear hcat
          go_wp2_with fail
          refine (RefDec.Decimal_any u (by omega) _).mono ?_
          rintro e w6 ⟨rfl, hs6⟩
          have HS6 : Hid (Step No w w6) := Lib.hid (HS5.out.trans hs6 (fun _ f _ => f))
          have HM6 := Lib.hid (hs6.blk HM5.out (fun f => f))
          have HB6 := Lib.hid (hs6.blk HB5.out (fun f => f))
          have HG6 := Lib.hid (HG5.out.to hs6)
          clear hs6 HG5 HM5 HB5
          go_wp2_with fail
          refine (num_any _ _).mono ?_
          rintro e w' ⟨rfl, rfl⟩
          have HB6' := HB6
          obtain ⟨a0, a1, a2, a3, a4, a5, a6, a7, a8, a9, a10, a11, a12⟩ := cells13 HM6.out
          obtain ⟨b0, b1, b2, b3, b4, b5, b6, b7, b8, b9, b10, b11, b12⟩ := cells13 HB6.out
          clear hc2
          go_wp2_with fail
          refine (SameMsg_any w6 m0 m0 _ _ _ _ _ _ HG6.out (empty_msg _ _ rfl rfl rfl (Nat.zero_le _))).mono ?_
          rintro e w7 ⟨r, rfl, hr, hs7⟩
          obtain rfl : r = true := hr.2 rfl
          have HS7 : Hid (Step No w w7) := Lib.hid (HS6.out.trans hs7 (fun _ f _ => f))
          clear a0 a1 a2 a3 a4 a5 a6 a7 a8 a9 a10 a11 a12 b0 b1 b2 b3 b4 b5 b6 b7 b8 b9 b10 b11 b12 hs7 hr HB6' HM6 HB6
          go_wp2_with fail
          refine (num_any _ _).mono ?_
          rintro e w' ⟨rfl, rfl⟩
          go_wp2_with fail
          refine (num_any _ _).mono ?_
          rintro e w' ⟨rfl, rfl⟩
          go_wp2_with fail
          refine (num_any _ _).mono ?_
          rintro e w' ⟨rfl, rfl⟩
          go_wp2
          go_ret
          exact ⟨rfl, HS7.out⟩
    · exact absurd ⟨ok0, HT.out⟩ (hno m0)
  · exact absurd (ok0.symm.trans hp) (by decide)
end Go.Proofs.YtjeamfoicpgkhaaGreatDoor.FrAwake
