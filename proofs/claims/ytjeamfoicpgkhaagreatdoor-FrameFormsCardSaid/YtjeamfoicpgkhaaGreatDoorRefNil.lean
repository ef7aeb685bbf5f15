/- The reference's answer on a poll without an edit. -/
import Derived.Test.YtjeamfoicpgkhaaGreatDoorLumpB
import Derived.Test.YtjeamfoicpgkhaaGreatDoorLumpA
namespace Go.Proofs.YtjeamfoicpgkhaaGreatDoor.RefNil
open Go.RowKit Go.Lib Go.Proofs.YtjeamfoicpgkhaaGreatDoor.Mem Go.Proofs.YtjeamfoicpgkhaaGreatDoor.Dec Go.Proofs.YtjeamfoicpgkhaaGreatDoor.Take Go.Proofs.YtjeamfoicpgkhaaGreatDoor.Data Go.Proofs.YtjeamfoicpgkhaaGreatDoor.Pk Go.Proofs.YtjeamfoicpgkhaaGreatDoor.MsgR Go.Proofs.YtjeamfoicpgkhaaGreatDoor.CompR Go.Proofs.YtjeamfoicpgkhaaGreatDoor.RefDec Go.Proofs.YtjeamfoicpgkhaaGreatDoor.C13
set_option linter.unusedVariables false
set_option linter.unusedSimpArgs false
theorem lengths_nil (w : World) : Calls Tryz.prog 139 #[.slice none 0 0] w fun e w' => e = .returned (.tuple #[.int .i64 0, .int .i64 0]) ∧ Step No w w' := by
  go_enter Tryz.func139, Tryz.ntmps139
  go_wp2
  go_loopw [6, 4, 5] (fun i a b wr => i = .int .i64 0 ∧ a = .int .i64 0 ∧ b = .int .i64 0 ∧ wr = w) (fun _ _ _ _ => 0)
  case atStart => exact ⟨rfl, rfl, rfl, rfl⟩
  case round =>
    obtain ⟨rfl, rfl, rfl, rfl⟩ := hrel
    go_wp2
    go_ret2
    exact ⟨rfl, Step.refl _ _⟩
theorem Normal_nil (w : World) : Calls Tryz.prog 110 #[.slice none 0 0] w fun e w' => e = .returned (.tuple #[.slice none 0 0, .int .i64 0]) ∧ Step No w w' := by
  go_enter Tryz.func110, Tryz.ntmps110
  go_wp2
  go_loopw [5, 4] (fun i a wr => i = .int .i64 0 ∧ a = .slice none 0 0 ∧ wr = w) (fun _ _ _ => 0)
  case atStart => exact ⟨rfl, rfl, rfl⟩
  case round =>
    obtain ⟨rfl, rfl, rfl⟩ := hrel
    go_wp2_with fail
    refine (lengths_nil _).mono ?_
    rintro e w1 ⟨rfl, hs1⟩
    go_wp2
    go_ret2
    exact ⟨rfl, hs1⟩
theorem CompsMay_nil (w : World) : Calls Tryz.prog 64 #[.slice none 0 0] w fun e w' => e = .returned (.bool true) ∧ Step No w w' := by
  go_enter Tryz.func64, Tryz.ntmps64
  go_wp2_with fail
  refine (Normal_nil _).mono ?_
  rintro e w1 ⟨rfl, hs1⟩
  go_wp2
  go_loopw [5] (fun i wr => i = .int .i64 0 ∧ wr = w1) (fun _ _ => 0)
  case atStart => exact ⟨rfl, rfl⟩
  case round =>
    obtain ⟨rfl, rfl⟩ := hrel
    go_wp2
    go_ret
    exact ⟨rfl, hs1⟩
theorem noTree_nil (w : World) : Calls Tryz.prog 63 #[.agg #[.int .i64 0, .int .i64 0, .slice none 0 0]] w fun e w' => e = .returned (.bool true) ∧ Step No w w' := by
  go_enter Tryz.func63, Tryz.ntmps63
  go_wp2
  go_ret
  exact ⟨rfl, (by repeat' (first | exact Step.refl _ _ | with_reducible assumption | refine Step.drew ?_ | refine Step.drewN ?_ _ | refine Step.alloc ?_ _))⟩
def mF (r : Int) : MsgD := ⟨0, 1, r, 0, 0, 0, false, [], [], ba [], noTree⟩
def cF (r : Int) : Array Value := #[.int .i64 0, .int .i64 1, .int .i64 r, .int .i64 0, .int .i64 0, .int .i64 0, .bool false, .slice none 0 0, .slice none 0 0, .string ⟨#[]⟩, .int .i64 0, .int .i64 0, .slice none 0 0]
set_option maxHeartbeats 4000000 in
set_option maxRecDepth 100000 in
theorem MsgMay_nil (r : Int) (h0 : 0 ≤ r) (h1 : r ≤ 1023) (w : World) : Calls Tryz.prog 19 #[.agg (cF r)] w fun e w' => e = .returned (.bool true) ∧ Step No w w' := by
  unfold cF
  go_enter Tryz.func19, Tryz.ntmps19
  have g0 : ¬ r < 0 := by omega
  have g1 : ¬ 4096 < r := by omega
  go_wp2_with fail
  refine (noTree_nil _).mono ?_
  rintro e w1 ⟨rfl, hs1⟩
  have HB := Lib.hid (hs1.blk (blk_new w _) (fun f => f))
  have HS1 : Hid (Step No w w1) := Lib.hid (((Step.refl No w).alloc _).trans hs1 (fun _ f _ => f))
  obtain ⟨a0, a1, a2, a3, a4, a5, a6, a7, a8, a9, a10, a11, a12⟩ := cells13 HB.out
  clear hs1
  go_wp2_with fail
  refine (CompsMay_nil _).mono ?_
  rintro e w2 ⟨rfl, hs2⟩
  have HB2 := Lib.hid (hs2.blk HB.out (fun f => f))
  have HS2 : Hid (Step No w w2) := Lib.hid (HS1.out.trans hs2 (fun _ f _ => f))
  clear a0 a1 a2 a3 a4 a5 a6 a7 a8 a9 a10 a11 a12 hs2
  obtain ⟨a0, a1, a2, a3, a4, a5, a6, a7, a8, a9, a10, a11, a12⟩ := cells13 HB2.out
  go_wp2
  go_ret
  exact ⟨rfl, HS2.out⟩
set_option maxRecDepth 100000 in
theorem comps_nil (w : World) : Calls Tryz.prog 43 #[.slice none 0 0] w fun e w' => e = .returned (.string ⟨#[48, 44]⟩) ∧ Step No w w' := by
  go_enter Tryz.func43, Tryz.ntmps43
  go_wp2_with fail
  refine (num_ref 0 (by decide) (by decide) _).mono ?_
  rintro e w1 ⟨rfl, hs1⟩
  have hn : num 0 = [48, 44] := by simp [num, itoa, decDigits]
  rw [hn]
  go_wp2
  go_loopw [4, 3] (fun i a wr => i = .int .i64 0 ∧ a = .string ⟨#[48, 44]⟩ ∧ wr = w1) (fun _ _ _ => 0)
  case atStart => exact ⟨rfl, rfl, rfl⟩
  case round =>
    obtain ⟨rfl, rfl, rfl⟩ := hrel
    go_wp2
    go_ret
    exact ⟨rfl, hs1⟩
end Go.Proofs.YtjeamfoicpgkhaaGreatDoor.RefNil
