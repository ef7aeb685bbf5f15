/- The reference's frame of a message; what it says of whether one may be is a premise. -/
import Derived.Test.YtjeamfoicpgkhaaGreatDoorRefPut
import Derived.Test.YtjeamfoicpgkhaaGreatDoorFrame
namespace Go.Proofs.YtjeamfoicpgkhaaGreatDoor.RefPutFr
open Go.RowKit Go.Lib Go.Proofs.YtjeamfoicpgkhaaGreatDoor.Mem Go.Proofs.YtjeamfoicpgkhaaGreatDoor.Read Go.Proofs.YtjeamfoicpgkhaaGreatDoor.Tree Go.Proofs.YtjeamfoicpgkhaaGreatDoor.Dec Go.Proofs.YtjeamfoicpgkhaaGreatDoor.Take Go.Proofs.YtjeamfoicpgkhaaGreatDoor.Data Go.Proofs.YtjeamfoicpgkhaaGreatDoor.Pk Go.Proofs.YtjeamfoicpgkhaaGreatDoor.May Go.Proofs.YtjeamfoicpgkhaaGreatDoor.MsgR Go.Proofs.YtjeamfoicpgkhaaGreatDoor.CompR Go.Proofs.YtjeamfoicpgkhaaGreatDoor.RefPut Go.Proofs.YtjeamfoicpgkhaaGreatDoor.C13 Go.Proofs.YtjeamfoicpgkhaaGreatDoor.Fr Go.Proofs.YtjeamfoicpgkhaaGreatDoor.SumMath
open Go.Proofs.YtjeamfoicpgkhaaGreatDoor.Frame (FPutPost wrap_cat put_short itoa_len)
open Go.Proofs.YtjeamfoicpgkhaaGreatDoor.MayLen (putOk)
set_option linter.unusedVariables false
set_option linter.unusedSimpArgs false
theorem may_at {m : MsgD} {ev env nv : Value} {w w' : World} (h : MayAt m ev env nv w) (hs : Step No w w') : MayAt m ev env nv w' := fun w2 h2 => h w2 (hs.trans h2 (fun _ f _ => f))
set_option maxHeartbeats 8000000 in
set_option maxRecDepth 100000 in
theorem fput_ref (w : World) (m : MsgD) (ev env nv : Value) (hm : MsgR w m ev env nv) (hMay : MayAt m ev env nv w) : Calls Tryz.prog 25 #[aggM m ev env nv] w (FPutPost m w) := by
  obtain ⟨A1, n1, rfl, -, -⟩ := comps_len hm.edit
  obtain ⟨A2, n2, rfl, -, -⟩ := sl_len hm.entries
  obtain ⟨A3, n3, rfl, -, -⟩ := sl_len hm.nodes
  have HR := Lib.hid hm
  have HMay := Lib.hid hMay
  clear hm hMay
  unfold aggM msgCells
  go_enter Tryz.func25, Tryz.ntmps25
  go_wp2_with fail
  refine (put_ref _ m _ _ _ (HR.out.to (by repeat' (first | exact Step.refl _ _ | with_reducible assumption | refine Step.drew ?_ | refine Step.drewN ?_ _ | refine Step.alloc ?_ _))) (may_at HMay.out (by repeat' (first | exact Step.refl _ _ | with_reducible assumption | refine Step.drew ?_ | refine Step.drewN ?_ _ | refine Step.alloc ?_ _)))).mono ?_
  rintro e w2 ⟨hs2, hp⟩
  have HS2 : Hid (Step No w w2) := Lib.hid (((Step.refl No w).alloc _).trans hs2 (fun _ f _ => f))
  clear hs2
  rcases hp with ⟨hp, rfl⟩ | ⟨hp, rfl⟩
  · have HP := Lib.hid hp
    have hsh := put_short hp
    clear hp
    obtain ⟨l, hl⟩ : ∃ l, putS m = l := ⟨_, rfl⟩
    have HL := Lib.hid hl
    rw [hl] at hsh ⊢
    clear hl
    have HL1 := Lib.hid (itoa_len (len_small hsh))
    have HL2 := Lib.hid (itoa_len (sum_small l))
    have HSm := Lib.hid (sum_small l)
    unfold ba
    have hsz : (⟨l.toArray⟩ : ByteArray).size = l.length := rfl
    go_wp2_with fail
    refine (RefDec.Dec_any _ (by omega) (by omega) _).mono ?_
    rintro e w3 ⟨rfl, hs3⟩
    obtain ⟨a, ha⟩ : ∃ a, itoa (l.length : Int) = a := ⟨_, rfl⟩
    have HA := Lib.hid ha
    rw [ha] at HL1 ⊢
    have hal := HL1.out
    have HS3 : Hid (Step No w w3) := Lib.hid (HS2.out.trans hs3 (fun _ f _ => f))
    clear ha hs3
    go_wp2_with fail
    refine (SumWalk.refsum_any ⟨l.toArray⟩ _ (by omega)).mono ?_
    rintro e w' ⟨rfl, rfl⟩
    have hu0 := HSm.out
    obtain ⟨u, hu⟩ : ∃ u, sumL l = u := ⟨_, rfl⟩
    have HU := Lib.hid hu
    simp only [hu] at hu0 HL2 ⊢
    obtain ⟨hu1, hu2⟩ := hu0
    clear hu
    go_wp2_with fail
    refine (RefDec.Dec_any u (by omega) (by omega) _).mono ?_
    rintro e w4 ⟨rfl, hs4⟩
    obtain ⟨b, hb⟩ : ∃ b, itoa u = b := ⟨_, rfl⟩
    have HB := Lib.hid hb
    rw [hb] at HL2 ⊢
    have hbl := HL2.out
    have HS4 : Hid (Step No w w4) := Lib.hid (HS3.out.trans hs4 (fun _ f _ => f))
    clear hb hs4
    go_wp2
    rw [wrap_cat]
    have HW : Hid (a ++ 58 :: (b ++ 58 :: l) = wrapS (putS m)) := Lib.hid (by rw [HL.out]; unfold wrapS; rw [HA.out, HU.out, HB.out])
    rw [HW.out]
    go_ret2
    exact ⟨HS4.out, .inl ⟨HP.out, rfl⟩⟩
  · have HP := Lib.hid hp
    clear hp
    go_wp2
    go_ret2
    exact ⟨HS2.out, .inr ⟨HP.out, rfl⟩⟩
end Go.Proofs.YtjeamfoicpgkhaaGreatDoor.RefPutFr
