/- No beginning of a message's text is a message's text. -/
import Derived.Test.YtjeamfoicpgkhaaGreatDoorPkC
namespace Go.Proofs.YtjeamfoicpgkhaaGreatDoor.PkCuts
open Go.RowKit Go.Lib Go.Proofs.YtjeamfoicpgkhaaGreatDoor.Mem Go.Proofs.YtjeamfoicpgkhaaGreatDoor.Read Go.Proofs.YtjeamfoicpgkhaaGreatDoor.Tree Go.Proofs.YtjeamfoicpgkhaaGreatDoor.Data Go.Proofs.YtjeamfoicpgkhaaGreatDoor.Env Go.Proofs.YtjeamfoicpgkhaaGreatDoor.Take Go.Proofs.YtjeamfoicpgkhaaGreatDoor.Pk Go.Proofs.YtjeamfoicpgkhaaGreatDoor.MsgR Go.Proofs.YtjeamfoicpgkhaaGreatDoor.CompR Go.Proofs.YtjeamfoicpgkhaaGreatDoor.May Go.Proofs.YtjeamfoicpgkhaaGreatDoor.TakeM Go.Proofs.YtjeamfoicpgkhaaGreatDoor.Get Go.Proofs.YtjeamfoicpgkhaaGreatDoor.PkL Go.Proofs.YtjeamfoicpgkhaaGreatDoor.PkAwake Go.Proofs.YtjeamfoicpgkhaaGreatDoor.PkC Go.Proofs.YtjeamfoicpgkhaaGreatDoor.Same Go.Proofs.YtjeamfoicpgkhaaGreatDoor.C13
open Go.Proofs.YtjeamfoicpgkhaaGreatDoor.Put (PutPost put_any)
open Go.Proofs.YtjeamfoicpgkhaaGreatDoor.MayLen (putOk)
open Go.Proofs.YtjeamfoicpgkhaaGreatDoor.Bytes (place_is)
set_option linter.unusedVariables false
set_option linter.unusedSimpArgs false
set_option maxHeartbeats 16000000 in
set_option maxRecDepth 100000 in
theorem Cuts_any (w : World) (m : MsgD) (ev env nv : Value) (at_ : Int) (hm : MsgR w m ev env nv) (hr : ParMay.RngN m.tree.nodes) (hE : Env w) :
    Calls Tryz.prog 6 #[aggM m ev env nv, .int .i64 at_] w fun e w' => e = .returned (.bool true) ∧ Step No w w' := by
  obtain ⟨A1, n1, rfl, -, -⟩ := comps_len hm.edit
  obtain ⟨A2, n2, rfl, -, -⟩ := sl_len hm.entries
  obtain ⟨A3, n3, rfl, -, -⟩ := nodes_len hm.nodes
  have HA := Lib.hid hm
  have HRa := Lib.hid hr
  have HE := Lib.hid hE
  clear hm hr hE
  unfold aggM msgCells
  go_enter Tryz.func6, Tryz.ntmps6
  go_wp2_with fail
  refine (awake_any _ (HE.out.step (by repeat' (first | exact Step.refl _ _ | with_reducible assumption | refine Step.drew ?_ | refine Step.drewN ?_ _ | refine Step.alloc ?_ _)))).mono ?_
  rintro e w1 ⟨rfl, hs1⟩
  have HS1 : Hid (Step No w w1) := Lib.hid (((Step.refl No w).alloc _).trans hs1 (fun _ f _ => f))
  have HX1 := Lib.hid (hs1.blk (blk_new w _) (fun f => f))
  clear hs1
  obtain ⟨a0, a1, a2, a3, a4, a5, a6, a7, a8, a9, a10, a11, a12⟩ := cells13 HX1.out
  go_wp2_with fail
  refine (put_any m _ _ _ _ (HA.out.to HS1.out) HRa.out (HE.out.step HS1.out)).mono ?_
  rintro e w2 ⟨hs2, hp⟩
  have HS2 : Hid (Step No w w2) := Lib.hid (HS1.out.trans hs2 (fun _ f _ => f))
  clear a0 a1 a2 a3 a4 a5 a6 a7 a8 a9 a10 a11 a12 hs2 HX1 HS1
  rcases hp with ⟨hp, rfl⟩ | ⟨hp, rfl⟩
  · have hle := put_le hp
    have hsy : SaysP m (putS m) := ⟨hp, rfl⟩
    have hne := saysP_ne hsy
    have HC := Lib.hid fun (i : Nat) hi k => cut_at hsy (i := i) hi k
    have HO := Lib.hid fun k => moreP hsy hne k
    have h1 : 1 ≤ (putS m).length := by
      cases h : putS m with
      | nil => exact absurd h hne
      | cons b l => simp
    clear hp hsy hne
    obtain ⟨SA, hSA⟩ : ∃ SA, putS m = SA := ⟨_, rfl⟩
    rw [hSA] at h1 hle HC HO ⊢
    clear hSA
    unfold ba
    have hsz : (⟨SA.toArray⟩ : ByteArray).size = SA.length := rfl
    obtain ⟨i, hpl, hi⟩ := place_is at_ SA.length (by omega) (by omega)
    go_wp2_with fail
    refine (num_any _ _).mono ?_
    rintro e w' ⟨rfl, rfl⟩
    go_upto_region 7 with (fail)
    rw [hpl]
    clear hpl
    have hex := ext_take SA i
    go_wp2_with fail
    refine (get_any _ (SA.take i) (by rw [List.length_take]; omega) (HE.out.step HS2.out)).mono ?_
    rintro e w3 ⟨hs3, hp⟩
    rcases hp with ⟨k, ev', env', nv', hk, rfl, hmw⟩ | ⟨-, rfl⟩
    · exact absurd hk (HC.out i hi k)
    · have HS3 : Hid (Step No w w3) := Lib.hid (HS2.out.trans hs3 (fun _ f _ => f))
      have hcat := cat_list SA SA
      clear hs3 hex
      simp only [msgCells, zM, zV, noTree, ba] at *
      go_wp2_with fail
      refine (get_any _ (SA ++ SA) (by rw [List.length_append]; omega) (HE.out.step (HS3.out.trans (by repeat' (first | exact Step.refl _ _ | with_reducible assumption | refine Step.drew ?_ | refine Step.drewN ?_ _ | refine Step.alloc ?_ _)) (fun _ f _ => f)))).mono ?_
      rintro e w4 ⟨hs4, hp⟩
      rcases hp with ⟨k, ev', env', nv', hk, rfl, hmw⟩ | ⟨-, rfl⟩
      · exact absurd hk (HO.out k)
      · have hs34 := Step.trans (F := No) (G := No) (Step.alloc (Step.refl _ w3) _) hs4 (fun _ f _ => f)
        have HS4 : Hid (Step No w w4) := Lib.hid (HS3.out.trans hs34 (fun _ f _ => f))
        have HB4 := Lib.hid (hs4.blk (blk_new w3 _) (fun f => f))
        clear hs4 hs34 hcat
        simp only [msgCells, zM, zV, noTree, ba] at *
        go_upto_region 9 with (fail)
        generalize hW : World.alloc w4 _ = w5 at *
        have HB5 := Lib.hid (show w5.heap[w3.heap.size]? = some _ by rw [← hW]; exact blk_alloc HB4.out _)
        have HS5 : Hid (Step No w w5) := Lib.hid (by rw [← hW]; exact HS4.out.alloc _)
        clear hW HB4 HS4
        obtain ⟨a0, a1, a2, a3, a4, a5, a6, a7, a8, a9, a10, a11, a12⟩ := cells13 HB5.out
        go_wp2_with fail
        refine (SameMsg_any w5 zM zM zV zV zV zV zV zV (zM_msg w5) (zM_msg w5)).mono ?_
        rintro e w6 ⟨r, rfl, hr, hs6⟩
        obtain rfl : r = true := hr.2 rfl
        have HS6 : Hid (Step No w w6) := Lib.hid (HS5.out.trans hs6 (fun _ f _ => f))
        clear a0 a1 a2 a3 a4 a5 a6 a7 a8 a9 a10 a11 a12 hs6
        go_wp2_with fail
        refine (num_any _ _).mono ?_
        rintro e w' ⟨rfl, rfl⟩
        go_wp2_with fail
        refine (num_any _ _).mono ?_
        rintro e w' ⟨rfl, rfl⟩
        go_wp2_with fail
        go_ret
        exact ⟨rfl, HS6.out⟩
  · go_wp2_with fail
    refine (num_any _ _).mono ?_
    rintro e w' ⟨rfl, rfl⟩
    go_wp2_with fail
    go_ret
    exact ⟨rfl, HS2.out⟩
end Go.Proofs.YtjeamfoicpgkhaaGreatDoor.PkCuts
