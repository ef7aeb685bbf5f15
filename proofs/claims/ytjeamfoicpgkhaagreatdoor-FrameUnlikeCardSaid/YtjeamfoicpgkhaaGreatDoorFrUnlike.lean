/- Unlike messages have unlike frames. -/
import Derived.Test.YtjeamfoicpgkhaaGreatDoorFrL
import Derived.Test.YtjeamfoicpgkhaaGreatDoorLumpA
namespace Go.Proofs.YtjeamfoicpgkhaaGreatDoor.FrUnlike
open Go.RowKit Go.Lib Go.Proofs.YtjeamfoicpgkhaaGreatDoor.Mem Go.Proofs.YtjeamfoicpgkhaaGreatDoor.Read Go.Proofs.YtjeamfoicpgkhaaGreatDoor.Tree Go.Proofs.YtjeamfoicpgkhaaGreatDoor.Data Go.Proofs.YtjeamfoicpgkhaaGreatDoor.Env Go.Proofs.YtjeamfoicpgkhaaGreatDoor.Take Go.Proofs.YtjeamfoicpgkhaaGreatDoor.Pk Go.Proofs.YtjeamfoicpgkhaaGreatDoor.MsgR Go.Proofs.YtjeamfoicpgkhaaGreatDoor.CompR Go.Proofs.YtjeamfoicpgkhaaGreatDoor.May Go.Proofs.YtjeamfoicpgkhaaGreatDoor.TakeM Go.Proofs.YtjeamfoicpgkhaaGreatDoor.Get Go.Proofs.YtjeamfoicpgkhaaGreatDoor.Fr Go.Proofs.YtjeamfoicpgkhaaGreatDoor.Frame Go.Proofs.YtjeamfoicpgkhaaGreatDoor.FrAwake Go.Proofs.YtjeamfoicpgkhaaGreatDoor.FrL Go.Proofs.YtjeamfoicpgkhaaGreatDoor.Same Go.Proofs.YtjeamfoicpgkhaaGreatDoor.C13
open Go.Proofs.YtjeamfoicpgkhaaGreatDoor.MayLen (putOk)
set_option linter.unusedVariables false
set_option linter.unusedSimpArgs false
set_option maxHeartbeats 16000000 in
set_option maxRecDepth 100000 in
theorem Unlike_any (w : World) (m k : MsgD) (ev env nv ev' env' nv' : Value) (hm : MsgR w m ev env nv) (hk : MsgR w k ev' env' nv') (hr : ParMay.RngN m.tree.nodes) (hr' : ParMay.RngN k.tree.nodes) (hE : Env w) :
    Calls Tryz.prog 10 #[aggM m ev env nv, aggM k ev' env' nv'] w fun e w' => e = .returned (.bool true) ∧ Step No w w' := by
  obtain ⟨A1, n1, rfl, -, -⟩ := comps_len hm.edit
  obtain ⟨A2, n2, rfl, -, -⟩ := sl_len hm.entries
  obtain ⟨A3, n3, rfl, -, -⟩ := nodes_len hm.nodes
  obtain ⟨B1, m1, rfl, -, -⟩ := comps_len hk.edit
  obtain ⟨B2, m2, rfl, -, -⟩ := sl_len hk.entries
  obtain ⟨B3, m3, rfl, -, -⟩ := nodes_len hk.nodes
  have HA := Lib.hid hm
  have HB := Lib.hid hk
  have HRa := Lib.hid hr
  have HRb := Lib.hid hr'
  have HE := Lib.hid hE
  clear hm hk hr hr' hE
  unfold aggM msgCells
  go_enter Tryz.func10, Tryz.ntmps10
  go_wp2_with fail
  refine (awake_any _ (HE.out.step (by repeat' (first | exact Step.refl _ _ | with_reducible assumption | refine Step.drew ?_ | refine Step.drewN ?_ _ | refine Step.alloc ?_ _)))).mono ?_
  rintro e w1 ⟨rfl, hs1⟩
  have HS1 : Hid (Step No w w1) := Lib.hid ((((Step.refl No w).alloc _).alloc _).trans hs1 (fun _ f _ => f))
  have HX1 := Lib.hid (hs1.blk (blk_alloc (blk_new w _) _) (fun f => f))
  have HY1 := Lib.hid (hs1.blk (new2 w _ _) (fun f => f))
  clear hs1
  obtain ⟨a0, a1, a2, a3, a4, a5, a6, a7, a8, a9, a10, a11, a12⟩ := cells13 HX1.out
  go_wp2_with fail
  refine (fput_any m _ _ _ _ (HA.out.to HS1.out) HRa.out (HE.out.step HS1.out)).mono ?_
  rintro e w2 ⟨hs2, hp⟩
  have HS2 : Hid (Step No w w2) := Lib.hid (HS1.out.trans hs2 (fun _ f _ => f))
  have HX2 := Lib.hid (hs2.blk HX1.out (fun f => f))
  have HY2 := Lib.hid (hs2.blk HY1.out (fun f => f))
  clear a0 a1 a2 a3 a4 a5 a6 a7 a8 a9 a10 a11 a12 hs2 HX1 HY1
  rcases hp with ⟨hp, rfl⟩ | ⟨hp, rfl⟩
  · have HP := Lib.hid hp
    clear hp
    obtain ⟨SA, hSA⟩ : ∃ SA, wrapS (putS m) = SA := ⟨_, rfl⟩
    have HSA := Lib.hid hSA
    rw [hSA]
    clear hSA
    unfold ba
    obtain ⟨b0, b1, b2, b3, b4, b5, b6, b7, b8, b9, b10, b11, b12⟩ := cells13 HY2.out
    go_wp2_with fail
    refine (fput_any k _ _ _ _ (HB.out.to HS2.out) HRb.out (HE.out.step HS2.out)).mono ?_
    rintro e w3 ⟨hs3, hp⟩
    have HS3 : Hid (Step No w w3) := Lib.hid (HS2.out.trans hs3 (fun _ f _ => f))
    have HX3 := Lib.hid (hs3.blk HX2.out (fun f => f))
    have HY3 := Lib.hid (hs3.blk HY2.out (fun f => f))
    clear b0 b1 b2 b3 b4 b5 b6 b7 b8 b9 b10 b11 b12 hs3 HX2 HY2
    rcases hp with ⟨hp, rfl⟩ | ⟨hp, rfl⟩
    · have HQ := Lib.hid hp
      clear hp
      obtain ⟨SB, hSB⟩ : ∃ SB, wrapS (putS k) = SB := ⟨_, rfl⟩
      have HSB := Lib.hid hSB
      rw [hSB]
      clear hSB
      unfold ba
      go_wp2_with fail
      obtain ⟨a0, a1, a2, a3, a4, a5, a6, a7, a8, a9, a10, a11, a12⟩ := cells13 HX3.out
      obtain ⟨b0, b1, b2, b3, b4, b5, b6, b7, b8, b9, b10, b11, b12⟩ := cells13 HY3.out
      refine (num_any _ _).mono ?_
      rintro e w' ⟨rfl, rfl⟩
      go_wp2_with fail
      refine (num_any _ _).mono ?_
      rintro e w' ⟨rfl, rfl⟩
      go_wp2_with fail
      refine (SameMsg_any w3 m k _ _ _ _ _ _ (HA.out.to HS3.out) (HB.out.to HS3.out)).mono ?_
      rintro e w4 ⟨r, rfl, hr, hs4⟩
      have HS4 : Hid (Step No w w4) := Lib.hid (HS3.out.trans hs4 (fun _ f _ => f))
      clear a0 a1 a2 a3 a4 a5 a6 a7 a8 a9 a10 a11 a12 b0 b1 b2 b3 b4 b5 b6 b7 b8 b9 b10 b11 b12 hs4
      have hq : (SA == SB) = r := by
        have h1 := frames_same HP.out HQ.out
        rw [HSA.out, HSB.out] at h1
        cases r with
        | true => exact beq_iff_eq.2 (h1.2 (hr.1 rfl))
        | false => exact beq_eq_false_iff_ne.2 fun e => absurd (hr.2 (h1.1 e)) (by decide)
      clear hr
      go_wp2
      go_ret
      exact ⟨by simp, HS4.out⟩
    · go_wp2_with fail
      refine (num_any _ _).mono ?_
      rintro e w' ⟨rfl, rfl⟩
      go_wp2_with fail
      refine (num_any _ _).mono ?_
      rintro e w' ⟨rfl, rfl⟩
      go_wp2_with fail
      refine (num_any _ _).mono ?_
      rintro e w' ⟨rfl, rfl⟩
      go_wp2_with fail
      refine (num_any _ _).mono ?_
      rintro e w' ⟨rfl, rfl⟩
      go_wp2_with fail
      go_ret
      exact ⟨rfl, HS3.out⟩
  · obtain ⟨b0, b1, b2, b3, b4, b5, b6, b7, b8, b9, b10, b11, b12⟩ := cells13 HY2.out
    go_wp2_with fail
    refine (fput_any k _ _ _ _ (HB.out.to HS2.out) HRb.out (HE.out.step HS2.out)).mono ?_
    rintro e w3 ⟨hs3, hp⟩
    have HS3 : Hid (Step No w w3) := Lib.hid (HS2.out.trans hs3 (fun _ f _ => f))
    clear b0 b1 b2 b3 b4 b5 b6 b7 b8 b9 b10 b11 b12 hs3 HX2 HY2
    rcases hp with ⟨hp, rfl⟩ | ⟨hp, rfl⟩
    · obtain ⟨SB, hSB⟩ : ∃ SB, wrapS (putS k) = SB := ⟨_, rfl⟩
      rw [hSB]
      clear hSB
      unfold ba
      go_wp2_with fail
      refine (num_any _ _).mono ?_
      rintro e w' ⟨rfl, rfl⟩
      go_wp2_with fail
      refine (num_any _ _).mono ?_
      rintro e w' ⟨rfl, rfl⟩
      go_wp2_with fail
      refine (num_any _ _).mono ?_
      rintro e w' ⟨rfl, rfl⟩
      go_wp2_with fail
      go_ret
      exact ⟨rfl, HS3.out⟩
    · go_wp2_with fail
      refine (num_any _ _).mono ?_
      rintro e w' ⟨rfl, rfl⟩
      go_wp2_with fail
      refine (num_any _ _).mono ?_
      rintro e w' ⟨rfl, rfl⟩
      go_wp2_with fail
      refine (num_any _ _).mono ?_
      rintro e w' ⟨rfl, rfl⟩
      go_wp2_with fail
      go_ret
      exact ⟨rfl, HS3.out⟩
end Go.Proofs.YtjeamfoicpgkhaaGreatDoor.FrUnlike
