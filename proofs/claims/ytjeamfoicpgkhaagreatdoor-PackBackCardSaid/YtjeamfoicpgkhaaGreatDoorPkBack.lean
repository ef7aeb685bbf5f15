/- A message that may be comes back; a text that is one is put as it stood. -/
import Derived.Test.YtjeamfoicpgkhaaGreatDoorPkC
namespace Go.Proofs.YtjeamfoicpgkhaaGreatDoor.PkBack
open Go.RowKit Go.Lib Go.Proofs.YtjeamfoicpgkhaaGreatDoor.Mem Go.Proofs.YtjeamfoicpgkhaaGreatDoor.Read Go.Proofs.YtjeamfoicpgkhaaGreatDoor.Tree Go.Proofs.YtjeamfoicpgkhaaGreatDoor.Data Go.Proofs.YtjeamfoicpgkhaaGreatDoor.Env Go.Proofs.YtjeamfoicpgkhaaGreatDoor.Take Go.Proofs.YtjeamfoicpgkhaaGreatDoor.Pk Go.Proofs.YtjeamfoicpgkhaaGreatDoor.MsgR Go.Proofs.YtjeamfoicpgkhaaGreatDoor.CompR Go.Proofs.YtjeamfoicpgkhaaGreatDoor.May Go.Proofs.YtjeamfoicpgkhaaGreatDoor.TakeM Go.Proofs.YtjeamfoicpgkhaaGreatDoor.Get Go.Proofs.YtjeamfoicpgkhaaGreatDoor.PkL Go.Proofs.YtjeamfoicpgkhaaGreatDoor.PkAwake Go.Proofs.YtjeamfoicpgkhaaGreatDoor.PkC Go.Proofs.YtjeamfoicpgkhaaGreatDoor.Same Go.Proofs.YtjeamfoicpgkhaaGreatDoor.C13
open Go.Proofs.YtjeamfoicpgkhaaGreatDoor.Put (PutPost put_any)
open Go.Proofs.YtjeamfoicpgkhaaGreatDoor.MayLen (putOk)
set_option linter.unusedVariables false
set_option linter.unusedSimpArgs false
set_option maxHeartbeats 16000000 in
set_option maxRecDepth 100000 in
theorem Back_any (w : World) (m : MsgD) (ev env nv : Value) (l : List UInt8) (hl : l.length ≤ 140737488351232) (hm : MsgR w m ev env nv) (hr : ParMay.RngN m.tree.nodes) (hE : Env w) :
    Calls Tryz.prog 4 #[aggM m ev env nv, .string ⟨l.toArray⟩] w fun e w' => e = .returned (.bool true) ∧ Step No w w' := by
  obtain ⟨A1, n1, rfl, -, -⟩ := comps_len hm.edit
  obtain ⟨A2, n2, rfl, -, -⟩ := sl_len hm.entries
  obtain ⟨A3, n3, rfl, -, -⟩ := nodes_len hm.nodes
  have HA := Lib.hid hm
  have HRa := Lib.hid hr
  have HE := Lib.hid hE
  clear hm hr hE
  unfold aggM msgCells
  go_enter Tryz.func4, Tryz.ntmps4
  go_wp2_with fail
  refine (awake_any _ (HE.out.step (by repeat' (first | exact Step.refl _ _ | with_reducible assumption | refine Step.drew ?_ | refine Step.drewN ?_ _ | refine Step.alloc ?_ _)))).mono ?_
  rintro e w1 ⟨rfl, hs1⟩
  have HS1 : Hid (Step No w w1) := Lib.hid (((Step.refl No w).alloc _).trans hs1 (fun _ f _ => f))
  have HX1 := Lib.hid (hs1.blk (blk_new w _) (fun f => f))
  clear hs1
  obtain ⟨a0, a1, a2, a3, a4, a5, a6, a7, a8, a9, a10, a11, a12⟩ := cells13 HX1.out
  go_wp2_with fail
  refine (put_any m _ _ _ _ (HA.out.to HS1.out) HRa.out (HE.out.step HS1.out)).mono ?_
  rintro e w2 ⟨hs2, hp⟩
  have HS2 : Hid (Step No w w2) := Lib.hid (HS1.out.trans hs2 (fun _ f _ => f))
  have HX2 := Lib.hid (hs2.blk HX1.out (fun f => f))
  clear a0 a1 a2 a3 a4 a5 a6 a7 a8 a9 a10 a11 a12 hs2 HX1 HS1
  rcases hp with ⟨hp, rfl⟩ | ⟨hp, rfl⟩
  · have hle := put_le hp
    have hsy : SaysP m (putS m) := ⟨hp, rfl⟩
    have hne := saysP_ne hsy
    have h1 : 1 ≤ (putS m).length := by
      cases h : putS m with
      | nil => exact absurd h hne
      | cons b l => simp
    have HC := Lib.hid fun (i : Nat) hi k => cut_at hsy (i := i) hi k
    have HO := Lib.hid fun k => moreP hsy (r := [48]) (by simp) k
    have HMy := Lib.hid hsy.says.1
    have HSy := Lib.hid hsy
    clear hp hsy hne
    obtain ⟨SA, hSA⟩ : ∃ SA, putS m = SA := ⟨_, rfl⟩
    rw [hSA] at h1 hle HC HO HSy ⊢
    clear hSA
    unfold ba
    have hsz : (⟨SA.toArray⟩ : ByteArray).size = SA.length := rfl
    go_wp2_with fail
    refine (num_any _ _).mono ?_
    rintro e w' ⟨rfl, rfl⟩
    go_wp2_with fail
    refine (get_any _ SA (by omega) (HE.out.step HS2.out)).mono ?_
    rintro e w3 ⟨hs3, hp⟩
    rcases hp with ⟨k, ev', env', nv', hk, rfl, hmw⟩ | ⟨hno, -⟩
    · obtain rfl := saysP_one hk HSy.out
      obtain ⟨⟨B1, m1, c1, rfl⟩, ⟨B2, m2, c2, rfl⟩, B3, m3, c3, rfl⟩ := hmw.slices
      have HS3 : Hid (Step No w w3) := Lib.hid (HS2.out.trans hs3 (fun _ f _ => f))
      have HX3 := Lib.hid (hs3.blk HX2.out (fun f => f))
      have HG3 := Lib.hid (msg_reads hmw)
      clear hs3 hk hmw HX2
      simp only [msgCells]
      go_upto_region 6 with (fail)
      generalize hW : World.alloc w3 _ = w4 at *
      have hs4 : Step No w3 w4 := by rw [← hW]; exact (Step.refl No w3).alloc _
      have HX4 := Lib.hid (hs4.blk HX3.out (fun f => f))
      have HB4 := Lib.hid (show w4.heap[w3.heap.size]? = some _ by rw [← hW]; exact blk_new w3 _)
      have HS4 : Hid (Step No w w4) := Lib.hid (HS3.out.trans hs4 (fun _ f _ => f))
      have HG4 := Lib.hid (HG3.out.to hs4)
      clear hW HX3 HS3 HG3 hs4
      obtain ⟨a0, a1, a2, a3, a4, a5, a6, a7, a8, a9, a10, a11, a12⟩ := cells13 HX4.out
      obtain ⟨b0, b1, b2, b3, b4, b5, b6, b7, b8, b9, b10, b11, b12⟩ := cells13 HB4.out
      go_wp2_with fail
      refine (num_any _ _).mono ?_
      rintro e w' ⟨rfl, rfl⟩
      go_wp2_with fail
      refine (SameMsg_any w4 k k _ _ _ _ _ _ HG4.out (HA.out.to HS4.out)).mono ?_
      rintro e w5 ⟨r, rfl, hr, hs5⟩
      obtain rfl : r = true := hr.2 rfl
      have HX5 := Lib.hid (hs5.blk HX4.out (fun f => f))
      have HS5 : Hid (Step No w w5) := Lib.hid (HS4.out.trans hs5 (fun _ f _ => f))
      clear a0 a1 a2 a3 a4 a5 a6 a7 a8 a9 a10 a11 a12 b0 b1 b2 b3 b4 b5 b6 b7 b8 b9 b10 b11 b12 hr HX4 HB4 HG4 HS4 hs5
      obtain ⟨a0, a1, a2, a3, a4, a5, a6, a7, a8, a9, a10, a11, a12⟩ := cells13 HX5.out
      go_wp2_with fail
      refine (MsgMay.may_any k _ _ _ w5 (HA.out.to HS5.out) HRa.out).mono ?_
      rintro e w6 ⟨rfl, hs6⟩
      rw [HMy.out]
      have HS6 : Hid (Step No w w6) := Lib.hid (HS5.out.trans hs6 (fun _ f _ => f))
      clear a0 a1 a2 a3 a4 a5 a6 a7 a8 a9 a10 a11 a12 hs6 HX5 HS5
      have hcat : (⟨SA.toArray⟩ : ByteArray) ++ ⟨#[48]⟩ = ⟨(SA ++ [48]).toArray⟩ := cat_list SA [48]
      go_wp2_with fail
      refine (get_any _ (SA ++ [48]) (by simp; omega) (HE.out.step HS6.out)).mono ?_
      rintro e w7 ⟨hs7, hp⟩
      rcases hp with ⟨j, ev', env', nv', hj, rfl, hmw⟩ | ⟨-, rfl⟩
      · exact absurd hj (HO.out j)
      · have HS7 : Hid (Step No w w7) := Lib.hid (HS6.out.trans hs7 (fun _ f _ => f))
        have hex := ext_take SA (SA.length - 1)
        clear hcat hs7
        simp only [msgCells, zM, zV, noTree, ba] at *
        go_upto_region 10 with (fail)
        generalize hW : World.alloc w7 _ = w8 at *
        have HS8 : Hid (Step No w w8) := Lib.hid (by rw [← hW]; exact HS7.out.alloc _)
        clear hW HS7
        go_wp2_with fail
        trace_state
        refine (get_any _ (SA.take (SA.length - 1)) (by rw [List.length_take]; omega) (HE.out.step HS8.out)).mono ?_
        rintro e w9 ⟨hs9, hp⟩
        rcases hp with ⟨j, ev', env', nv', hj, rfl, hmw⟩ | ⟨-, rfl⟩
        · exact absurd hj (HC.out _ (by omega) j)
        · have HS9 : Hid (Step No w w9) := Lib.hid (HS8.out.trans hs9 (fun _ f _ => f))
          clear hex hs9
          simp only [msgCells, zM, zV, noTree, ba] at *
          go_upto_region 13 with (fail)
          generalize hW : World.alloc w9 _ = w10 at *
          have HS10 : Hid (Step No w w10) := Lib.hid (by rw [← hW]; exact HS9.out.alloc _)
          clear hW HS9
          go_wp2_with fail
          refine (num_any _ _).mono ?_
          rintro e w' ⟨rfl, rfl⟩
          go_wp2_with fail
          refine (num_any _ _).mono ?_
          rintro e w' ⟨rfl, rfl⟩
          go_wp2_with fail
          have hlz : (⟨l.toArray⟩ : ByteArray).size = l.length := rfl
          refine (get_any _ l (by omega) (HE.out.step HS10.out)).mono ?_
          rintro e w11 ⟨hs11, hp⟩
          have HS11 : Hid (Step No w w11) := Lib.hid (HS10.out.trans hs11 (fun _ f _ => f))
          rcases hp with ⟨j, ev', env', nv', hj, rfl, hmw⟩ | ⟨hno, rfl⟩
          · have HJ := Lib.hid hj
            obtain ⟨⟨C1, p1, d1, rfl⟩, ⟨C2, p2, d2, rfl⟩, C3, p3, d3, rfl⟩ := hmw.slices
            have HJ11 := Lib.hid (msg_reads hmw)
            clear hmw hj hs11
            simp only [msgCells]
            go_upto_region 16 with (fail)
            generalize hW : World.alloc w11 _ = w12 at *
            have hs12 : Step No w11 w12 := by rw [← hW]; exact (Step.refl No w11).alloc _
            have HB12 := Lib.hid (show w12.heap[w11.heap.size]? = some _ by rw [← hW]; exact blk_new w11 _)
            have HS12 : Hid (Step No w w12) := Lib.hid (HS11.out.trans hs12 (fun _ f _ => f))
            have HJ12 := Lib.hid (HJ11.out.to hs12)
            clear hW hs12 HJ11 HS11
            obtain ⟨c0, c1, c2, c3, c4, c5, c6, c7, c8, c9, c10, c11, c12⟩ := cells13 HB12.out
            go_wp2_with fail
            refine (num_any _ _).mono ?_
            rintro e w' ⟨rfl, rfl⟩
            go_wp2_with fail
            refine (put_any j _ _ _ w12 HJ12.out (rng_says HJ.out) (HE.out.step HS12.out)).mono ?_
            rintro e w13 ⟨hs13, hp⟩
            have HS13 : Hid (Step No w w13) := Lib.hid (HS12.out.trans hs13 (fun _ f _ => f))
            rcases hp with ⟨hp, rfl⟩ | ⟨hp, rfl⟩
            · have hpl : putS j = l := HJ.out.2
              rw [hpl]
              clear hpl hs13 c0 c1 c2 c3 c4 c5 c6 c7 c8 c9 c10 c11 c12
              unfold ba
              go_wp2_with fail
              refine (num_any _ _).mono ?_
              rintro e w' ⟨rfl, rfl⟩
              go_wp2_with fail
              go_ret
              exact ⟨rfl, HS13.out⟩
            · exact absurd (hp.symm.trans HJ.out.1) (by decide)
          · clear hno hs11
            simp only [msgCells, zM, zV, noTree, ba] at *
            go_upto_region 16 with (fail)
            generalize hW : World.alloc w11 _ = w12 at *
            have HB12 := Lib.hid (show w12.heap[w11.heap.size]? = some _ by rw [← hW]; exact blk_new w11 _)
            have HS12 : Hid (Step No w w12) := Lib.hid (by rw [← hW]; exact HS11.out.alloc _)
            clear hW HS11
            obtain ⟨c0, c1, c2, c3, c4, c5, c6, c7, c8, c9, c10, c11, c12⟩ := cells13 HB12.out
            go_wp2_with fail
            refine (num_any _ _).mono ?_
            rintro e w' ⟨rfl, rfl⟩
            go_wp2_with fail
            refine (SameMsg_any w12 zM zM zV zV zV zV zV zV (zM_msg w12) (zM_msg w12)).mono ?_
            rintro e w13 ⟨r, rfl, hr, hs13⟩
            obtain rfl : r = true := hr.2 rfl
            have HS13 : Hid (Step No w w13) := Lib.hid (HS12.out.trans hs13 (fun _ f _ => f))
            clear c0 c1 c2 c3 c4 c5 c6 c7 c8 c9 c10 c11 c12 hs13
            go_wp2_with fail
            go_ret
            exact ⟨rfl, HS13.out⟩
    · exact absurd HSy.out (hno m)
  · go_wp2_with fail
    have HS10 := HS2
    refine (num_any _ _).mono ?_
    rintro e w' ⟨rfl, rfl⟩
    go_wp2_with fail
    have hlz : (⟨l.toArray⟩ : ByteArray).size = l.length := rfl
    refine (get_any _ l (by omega) (HE.out.step HS10.out)).mono ?_
    rintro e w11 ⟨hs11, hp⟩
    have HS11 : Hid (Step No w w11) := Lib.hid (HS10.out.trans hs11 (fun _ f _ => f))
    rcases hp with ⟨j, ev', env', nv', hj, rfl, hmw⟩ | ⟨hno, rfl⟩
    · have HJ := Lib.hid hj
      obtain ⟨⟨C1, p1, d1, rfl⟩, ⟨C2, p2, d2, rfl⟩, C3, p3, d3, rfl⟩ := hmw.slices
      have HJ11 := Lib.hid (msg_reads hmw)
      clear hmw hj hs11
      simp only [msgCells]
      go_upto_region 16 with (fail)
      generalize hW : World.alloc w11 _ = w12 at *
      have hs12 : Step No w11 w12 := by rw [← hW]; exact (Step.refl No w11).alloc _
      have HB12 := Lib.hid (show w12.heap[w11.heap.size]? = some _ by rw [← hW]; exact blk_new w11 _)
      have HS12 : Hid (Step No w w12) := Lib.hid (HS11.out.trans hs12 (fun _ f _ => f))
      have HJ12 := Lib.hid (HJ11.out.to hs12)
      clear hW hs12 HJ11 HS11
      obtain ⟨c0, c1, c2, c3, c4, c5, c6, c7, c8, c9, c10, c11, c12⟩ := cells13 HB12.out
      go_wp2_with fail
      refine (num_any _ _).mono ?_
      rintro e w' ⟨rfl, rfl⟩
      go_wp2_with fail
      refine (put_any j _ _ _ w12 HJ12.out (rng_says HJ.out) (HE.out.step HS12.out)).mono ?_
      rintro e w13 ⟨hs13, hp⟩
      have HS13 : Hid (Step No w w13) := Lib.hid (HS12.out.trans hs13 (fun _ f _ => f))
      rcases hp with ⟨hp, rfl⟩ | ⟨hp, rfl⟩
      · have hpl : putS j = l := HJ.out.2
        rw [hpl]
        clear hpl hs13 c0 c1 c2 c3 c4 c5 c6 c7 c8 c9 c10 c11 c12
        unfold ba
        go_wp2_with fail
        refine (num_any _ _).mono ?_
        rintro e w' ⟨rfl, rfl⟩
        go_wp2_with fail
        go_ret
        exact ⟨rfl, HS13.out⟩
      · exact absurd (hp.symm.trans HJ.out.1) (by decide)
    · clear hno hs11
      simp only [msgCells, zM, zV, noTree, ba] at *
      go_upto_region 16 with (fail)
      generalize hW : World.alloc w11 _ = w12 at *
      have HB12 := Lib.hid (show w12.heap[w11.heap.size]? = some _ by rw [← hW]; exact blk_new w11 _)
      have HS12 : Hid (Step No w w12) := Lib.hid (by rw [← hW]; exact HS11.out.alloc _)
      clear hW HS11
      obtain ⟨c0, c1, c2, c3, c4, c5, c6, c7, c8, c9, c10, c11, c12⟩ := cells13 HB12.out
      go_wp2_with fail
      refine (num_any _ _).mono ?_
      rintro e w' ⟨rfl, rfl⟩
      go_wp2_with fail
      refine (SameMsg_any w12 zM zM zV zV zV zV zV zV (zM_msg w12) (zM_msg w12)).mono ?_
      rintro e w13 ⟨r, rfl, hr, hs13⟩
      obtain rfl : r = true := hr.2 rfl
      have HS13 : Hid (Step No w w13) := Lib.hid (HS12.out.trans hs13 (fun _ f _ => f))
      clear c0 c1 c2 c3 c4 c5 c6 c7 c8 c9 c10 c11 c12 hs13
      go_wp2_with fail
      go_ret
      exact ⟨rfl, HS13.out⟩
end Go.Proofs.YtjeamfoicpgkhaaGreatDoor.PkBack
