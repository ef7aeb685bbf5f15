/- A frame of which one byte was turned is none, nor one that is cut, or goes on. -/
import Derived.Test.YtjeamfoicpgkhaaGreatDoorFrL
import Derived.Test.YtjeamfoicpgkhaaGreatDoorLumpA
namespace Go.Proofs.YtjeamfoicpgkhaaGreatDoor.FrTurned
open Go.RowKit Go.Lib Go.Proofs.YtjeamfoicpgkhaaGreatDoor.Mem Go.Proofs.YtjeamfoicpgkhaaGreatDoor.Bytes Go.Proofs.YtjeamfoicpgkhaaGreatDoor.Read Go.Proofs.YtjeamfoicpgkhaaGreatDoor.Tree Go.Proofs.YtjeamfoicpgkhaaGreatDoor.Data Go.Proofs.YtjeamfoicpgkhaaGreatDoor.Env Go.Proofs.YtjeamfoicpgkhaaGreatDoor.Take Go.Proofs.YtjeamfoicpgkhaaGreatDoor.Pk Go.Proofs.YtjeamfoicpgkhaaGreatDoor.MsgR Go.Proofs.YtjeamfoicpgkhaaGreatDoor.CompR Go.Proofs.YtjeamfoicpgkhaaGreatDoor.May Go.Proofs.YtjeamfoicpgkhaaGreatDoor.TakeM Go.Proofs.YtjeamfoicpgkhaaGreatDoor.Get Go.Proofs.YtjeamfoicpgkhaaGreatDoor.Fr Go.Proofs.YtjeamfoicpgkhaaGreatDoor.Frame Go.Proofs.YtjeamfoicpgkhaaGreatDoor.FrAwake Go.Proofs.YtjeamfoicpgkhaaGreatDoor.FrL Go.Proofs.YtjeamfoicpgkhaaGreatDoor.Same Go.Proofs.YtjeamfoicpgkhaaGreatDoor.C13
open Go.Proofs.YtjeamfoicpgkhaaGreatDoor.MayLen (putOk)
set_option linter.unusedVariables false
set_option linter.unusedSimpArgs false
theorem zM_msg (w : World) : MsgR w zM zV zV zV := empty_msg _ _ rfl rfl rfl (Nat.zero_le _)
theorem ext_take (l : List UInt8) (i : Nat) : (⟨l.toArray⟩ : ByteArray).extract 0 i = ⟨(l.take i).toArray⟩ := by
  apply ByteArray.ext
  simp [ByteArray.data_extract]
theorem cat_list (a b : List UInt8) : (⟨a.toArray⟩ : ByteArray) ++ ⟨b.toArray⟩ = ⟨(a ++ b).toArray⟩ := by
  apply ByteArray.ext
  simp [ByteArray.data_append]
theorem one_byte (X : UInt8) (w : World) : (convert 59 9 (.slice (some ⟨w.heap.size, 0, none⟩) 1 1)).run Tryz.prog (w.alloc (.cells #[.int .u8 X.toNat] 5)) = .ok (.string ⟨[X].toArray⟩) (w.alloc (.cells #[.int .u8 X.toNat] 5)) :=
  bytes_read (P := Tryz.prog) _ w.heap.size [X] 1 1 rfl (fun k hk => by
    obtain rfl : k = 0 := by omega
    rw [blk_cell (blk_new w _)]
    rfl) 59 5 9 Tryz.underlying59 Tryz.underlying5 Tryz.underlying9
theorem xor_is (a b : UInt8) : bits BinOp.xor IntKind.u8 (a.toNat : Int) (b.toNat : Int) = ((a ^^^ b).toNat : Int) := by
  have h1 := a.toNat_lt
  have h2 := b.toNat_lt
  rw [u8_xor _ _ (by omega) (by omega) (by omega) (by omega), UInt8.toNat_xor]
  rfl
set_option maxHeartbeats 16000000 in
set_option maxRecDepth 100000 in
theorem Turned_any (w : World) (m : MsgD) (ev env nv : Value) (at_ by_ : Int) (hm : MsgR w m ev env nv) (hr : ParMay.RngN m.tree.nodes) (hE : Env w) :
    Calls Tryz.prog 8 #[aggM m ev env nv, .int .i64 at_, .int .i64 by_] w fun e w' => e = .returned (.bool true) ∧ Step No w w' := by
  obtain ⟨A1, n1, rfl, -, -⟩ := comps_len hm.edit
  obtain ⟨A2, n2, rfl, -, -⟩ := sl_len hm.entries
  obtain ⟨A3, n3, rfl, -, -⟩ := nodes_len hm.nodes
  have HA := Lib.hid hm
  have HRa := Lib.hid hr
  have HE := Lib.hid hE
  clear hm hr hE
  unfold aggM msgCells
  go_enter Tryz.func8, Tryz.ntmps8
  go_wp2_with fail
  refine (awake_any _ (HE.out.step (by repeat' (first | exact Step.refl _ _ | with_reducible assumption | refine Step.drew ?_ | refine Step.drewN ?_ _ | refine Step.alloc ?_ _)))).mono ?_
  rintro e w1 ⟨rfl, hs1⟩
  have HS1 : Hid (Step No w w1) := Lib.hid (((Step.refl No w).alloc _).trans hs1 (fun _ f _ => f))
  have HX1 := Lib.hid (hs1.blk (blk_new w _) (fun f => f))
  clear hs1
  obtain ⟨a0, a1, a2, a3, a4, a5, a6, a7, a8, a9, a10, a11, a12⟩ := cells13 HX1.out
  go_wp2_with fail
  refine (fput_any m _ _ _ _ (HA.out.to HS1.out) HRa.out (HE.out.step HS1.out)).mono ?_
  rintro e w2 ⟨hs2, hp⟩
  have HS2 : Hid (Step No w w2) := Lib.hid (HS1.out.trans hs2 (fun _ f _ => f))
  have HX2 := Lib.hid (hs2.blk HX1.out (fun f => f))
  clear a0 a1 a2 a3 a4 a5 a6 a7 a8 a9 a10 a11 a12 hs2 HX1 HS1
  rcases hp with ⟨hp, rfl⟩ | ⟨hp, rfl⟩
  · have HP := Lib.hid hp
    have hle : (wrapS (putS m)).length ≤ 1000020 := Nat.le_trans (wrap_len (put_short hp)) (by have := put_le hp; omega)
    have h1 : 1 ≤ (wrapS (putS m)).length := by
      rw [wrap_len']
      omega
    have HT := Lib.hid fun (i : Nat) hi (x : UInt8) hx k => turned hp (i := i) hi (x := x) hx k
    have HC := Lib.hid fun (i : Nat) hi k => cut hp (i := i) hi k
    have HO := Lib.hid fun x k => more hp x k
    clear hp
    obtain ⟨SA, hSA⟩ : ∃ SA, wrapS (putS m) = SA := ⟨_, rfl⟩
    have HSA := Lib.hid hSA
    rw [hSA] at h1 hle HT HC HO ⊢
    clear hSA
    unfold ba
    have hsz : (⟨SA.toArray⟩ : ByteArray).size = SA.length := rfl
    obtain ⟨i, hpl, hi⟩ := place_is at_ SA.length (by omega) (by omega)
    have kb := fun W : World => Lib.run_convert_string_bytes (P := Tryz.prog) W 9 59 5 ⟨SA.toArray⟩ Tryz.underlying9 Tryz.underlying59 Tryz.underlying5
    go_wp2_with fail
    refine (num_any _ _).mono ?_
    rintro e w' ⟨rfl, rfl⟩
    go_upto_region 7 with (fail)
    generalize hcc : grownCap _ _ 0 5 = cc
    have hf : BytesNew w2.heap.size w2 (Lib.bytesWorld w2 5 ⟨SA.toArray⟩) SA SA.length := bytesNew w2 0 5 _
    have hst : Step No w2 (Lib.bytesWorld w2 5 ⟨SA.toArray⟩) := Step.ofBelow hf.below
    generalize Lib.bytesWorld w2 5 _ = w3 at *
    clear kb hcc
    go_upto_region 8 with (fail)
    rw [hpl]
    clear hpl
    obtain ⟨Y, hY⟩ := byte_is (IntKind.u8.wrap by_) (by rw [IntKind.wrap_u8]; omega) (by rw [IntKind.wrap_u8]; omega)
    by_cases hY0 : Y = 0
    · subst hY0
      have hx1 : (1 : UInt8) ≠ 0 := by decide
      go_upto_region 11 with (fail)
      have hone : (1 : Int) = ((1 : UInt8).toNat : Int) := rfl
      rw [hone]
      clear hone
      generalize (1 : UInt8) = X at *
      have cx := hf.cell i hi
      have fx := hf.free i hi
      have hNo := Lib.hid (HT.out i hi X hx1)
      have hxr := xor_is (SA.getD i 0) X
      generalize SA.getD i 0 = p at *
      clear hx1 hY
      go_upto_region 12 with (fail)
      have hxx : ((p.toNat ^^^ X.toNat : Nat) : Int) = ((p ^^^ X).toNat : Int) := by rw [UInt8.toNat_xor]
      rw [hxx]
      have hst2 : Step No w2 (w3.setCell ⟨w2.heap.size, i, none⟩ (.int .u8 (p ^^^ X).toNat)) := hst.setCell (fun h => absurd h (Nat.lt_irrefl _)) _
      have hf2 := hf.put rfl i (p ^^^ X) hi
      generalize hQ : SA.set i (p ^^^ X) = Q at *
      have hQl : Q.length = SA.length := by rw [← hQ, List.length_set]
      generalize w3.setCell ⟨w2.heap.size, i, none⟩ (.int .u8 (p ^^^ X).toNat) = w4 at *
      have hk := bytes_read (P := Tryz.prog) w4 w2.heap.size Q SA.length cc hQl hf2.cell 59 5 9 Tryz.underlying59 Tryz.underlying5 Tryz.underlying9
      have HS4 : Hid (Step No w w4) := Lib.hid (HS2.out.trans hst2 (fun _ f _ => f))
      clear hxr hxx cx fx hf2 hst2 hQ hf hst
      go_wp2_with fail
      refine (fget_any _ Q (by omega) (HE.out.step HS4.out)).mono ?_
      rintro e w5 ⟨hs5, hp⟩
      rcases hp with ⟨k, ev', env', nv', hk, rfl, hmw⟩ | ⟨-, rfl⟩
      · exact absurd hk (hNo.out k)
      · have HS5 : Hid (Step No w w5) := Lib.hid (HS4.out.trans hs5 (fun _ f _ => f))
        have hex := ext_take SA i
        clear hs5 hk hNo
        simp only [msgCells, zM, zV, noTree, ba] at *
        go_upto_region 13 with (fail)
        generalize hW : World.alloc w5 _ = w6 at *
        have HB6 := Lib.hid (show w6.heap[w5.heap.size]? = some _ by rw [← hW]; exact blk_new w5 _)
        have HS6 : Hid (Step No w w6) := Lib.hid (by rw [← hW]; exact HS5.out.alloc _)
        clear hW
        go_wp2_with fail
        refine (fget_any _ (SA.take i) (by rw [List.length_take]; omega) (HE.out.step HS6.out)).mono ?_
        rintro e w7 ⟨hs7, hp⟩
        rcases hp with ⟨k, ev', env', nv', hk, rfl, hmw⟩ | ⟨-, rfl⟩
        · exact absurd hk (HC.out i hi k)
        · have HS7 : Hid (Step No w w7) := Lib.hid (HS6.out.trans hs7 (fun _ f _ => f))
          have HB7 := Lib.hid (hs7.blk HB6.out (fun f => f))
          clear hs7 HB6
          simp only [msgCells, zM, zV, noTree, ba] at *
          go_upto_region 14 with (fail)
          generalize hW : World.alloc w7 _ = w8 at *
          have HB8 := Lib.hid (show w8.heap[w5.heap.size]? = some _ by rw [← hW]; exact blk_alloc HB7.out _)
          have HS8 : Hid (Step No w w8) := Lib.hid (by rw [← hW]; exact HS7.out.alloc _)
          have hb1 := one_byte X w8
          have hcat := cat_list SA [X]
          clear hW hex
          go_wp2_with fail
          generalize hW : World.alloc w8 _ = w9 at *
          have HB9 := Lib.hid (show w9.heap[w5.heap.size]? = some _ by rw [← hW]; exact blk_alloc HB8.out _)
          have HS9 : Hid (Step No w w9) := Lib.hid (by rw [← hW]; exact HS8.out.alloc _)
          clear hW HB8 HB7
          refine (fget_any _ (SA ++ [X]) (by simp; omega) (HE.out.step HS9.out)).mono ?_
          rintro e w10 ⟨hs10, hp⟩
          rcases hp with ⟨k, ev', env', nv', hk, rfl, hmw⟩ | ⟨-, rfl⟩
          · exact absurd hk (HO.out X k)
          · have HS10 : Hid (Step No w w10) := Lib.hid (HS9.out.trans hs10 (fun _ f _ => f))
            have HB10 := Lib.hid (hs10.blk HB9.out (fun f => f))
            clear hs10 HB9 hcat hb1
            simp only [msgCells, zM, zV, noTree, ba] at *
            go_upto_region 15 with (fail)
            generalize hW : World.alloc w10 _ = w11 at *
            have HB11 := Lib.hid (show w11.heap[w5.heap.size]? = some _ by rw [← hW]; exact blk_alloc HB10.out _)
            have HS11 : Hid (Step No w w11) := Lib.hid (by rw [← hW]; exact HS10.out.alloc _)
            clear hW HB10
            obtain ⟨c0, c1, c2, c3, c4, c5, c6, c7, c8, c9, c10, c11, c12⟩ := cells13 HB11.out
            go_wp2_with fail
            refine (num_any _ _).mono ?_
            rintro e w' ⟨rfl, rfl⟩
            go_wp2_with fail
            refine (SameMsg_any w11 zM zM zV zV zV zV zV zV (zM_msg w11) (zM_msg w11)).mono ?_
            rintro e w12 ⟨r, rfl, hr, hs12⟩
            obtain rfl : r = true := hr.2 rfl
            have HS12 : Hid (Step No w w12) := Lib.hid (HS11.out.trans hs12 (fun _ f _ => f))
            clear c0 c1 c2 c3 c4 c5 c6 c7 c8 c9 c10 c11 c12 hs12
            go_wp2_with fail
            refine (num_any _ _).mono ?_
            rintro e w' ⟨rfl, rfl⟩
            go_wp2_with fail
            refine (num_any _ _).mono ?_
            rintro e w' ⟨rfl, rfl⟩
            go_wp2_with fail
            go_ret
            exact ⟨rfl, HS12.out⟩
    · have hy0 : ¬ (Y.toNat : Int) = 0 := fun e => hY0 (UInt8.toNat_inj.1 (by show Y.toNat = 0; omega))
      go_upto_region 11 with (fail)
      try rw [hY]
      have hx1 : Y ≠ 0 := hY0
      generalize Y = X at *
      have cx := hf.cell i hi
      have fx := hf.free i hi
      have hNo := Lib.hid (HT.out i hi X hx1)
      have hxr := xor_is (SA.getD i 0) X
      generalize SA.getD i 0 = p at *
      clear hx1 hY
      go_upto_region 12 with (fail)
      have hxx : ((p.toNat ^^^ X.toNat : Nat) : Int) = ((p ^^^ X).toNat : Int) := by rw [UInt8.toNat_xor]
      rw [hxx]
      have hst2 : Step No w2 (w3.setCell ⟨w2.heap.size, i, none⟩ (.int .u8 (p ^^^ X).toNat)) := hst.setCell (fun h => absurd h (Nat.lt_irrefl _)) _
      have hf2 := hf.put rfl i (p ^^^ X) hi
      generalize hQ : SA.set i (p ^^^ X) = Q at *
      have hQl : Q.length = SA.length := by rw [← hQ, List.length_set]
      generalize w3.setCell ⟨w2.heap.size, i, none⟩ (.int .u8 (p ^^^ X).toNat) = w4 at *
      have hk := bytes_read (P := Tryz.prog) w4 w2.heap.size Q SA.length cc hQl hf2.cell 59 5 9 Tryz.underlying59 Tryz.underlying5 Tryz.underlying9
      have HS4 : Hid (Step No w w4) := Lib.hid (HS2.out.trans hst2 (fun _ f _ => f))
      clear hxr hxx cx fx hf2 hst2 hQ hf hst
      go_wp2_with fail
      refine (fget_any _ Q (by omega) (HE.out.step HS4.out)).mono ?_
      rintro e w5 ⟨hs5, hp⟩
      rcases hp with ⟨k, ev', env', nv', hk, rfl, hmw⟩ | ⟨-, rfl⟩
      · exact absurd hk (hNo.out k)
      · have HS5 : Hid (Step No w w5) := Lib.hid (HS4.out.trans hs5 (fun _ f _ => f))
        have hex := ext_take SA i
        clear hs5 hk hNo
        simp only [msgCells, zM, zV, noTree, ba] at *
        go_upto_region 13 with (fail)
        generalize hW : World.alloc w5 _ = w6 at *
        have HB6 := Lib.hid (show w6.heap[w5.heap.size]? = some _ by rw [← hW]; exact blk_new w5 _)
        have HS6 : Hid (Step No w w6) := Lib.hid (by rw [← hW]; exact HS5.out.alloc _)
        clear hW
        go_wp2_with fail
        refine (fget_any _ (SA.take i) (by rw [List.length_take]; omega) (HE.out.step HS6.out)).mono ?_
        rintro e w7 ⟨hs7, hp⟩
        rcases hp with ⟨k, ev', env', nv', hk, rfl, hmw⟩ | ⟨-, rfl⟩
        · exact absurd hk (HC.out i hi k)
        · have HS7 : Hid (Step No w w7) := Lib.hid (HS6.out.trans hs7 (fun _ f _ => f))
          have HB7 := Lib.hid (hs7.blk HB6.out (fun f => f))
          clear hs7 HB6
          simp only [msgCells, zM, zV, noTree, ba] at *
          go_upto_region 14 with (fail)
          generalize hW : World.alloc w7 _ = w8 at *
          have HB8 := Lib.hid (show w8.heap[w5.heap.size]? = some _ by rw [← hW]; exact blk_alloc HB7.out _)
          have HS8 : Hid (Step No w w8) := Lib.hid (by rw [← hW]; exact HS7.out.alloc _)
          have hb1 := one_byte X w8
          have hcat := cat_list SA [X]
          clear hW hex
          go_wp2_with fail
          generalize hW : World.alloc w8 _ = w9 at *
          have HB9 := Lib.hid (show w9.heap[w5.heap.size]? = some _ by rw [← hW]; exact blk_alloc HB8.out _)
          have HS9 : Hid (Step No w w9) := Lib.hid (by rw [← hW]; exact HS8.out.alloc _)
          clear hW HB8 HB7
          refine (fget_any _ (SA ++ [X]) (by simp; omega) (HE.out.step HS9.out)).mono ?_
          rintro e w10 ⟨hs10, hp⟩
          rcases hp with ⟨k, ev', env', nv', hk, rfl, hmw⟩ | ⟨-, rfl⟩
          · exact absurd hk (HO.out X k)
          · have HS10 : Hid (Step No w w10) := Lib.hid (HS9.out.trans hs10 (fun _ f _ => f))
            have HB10 := Lib.hid (hs10.blk HB9.out (fun f => f))
            clear hs10 HB9 hcat hb1
            simp only [msgCells, zM, zV, noTree, ba] at *
            go_upto_region 15 with (fail)
            generalize hW : World.alloc w10 _ = w11 at *
            have HB11 := Lib.hid (show w11.heap[w5.heap.size]? = some _ by rw [← hW]; exact blk_alloc HB10.out _)
            have HS11 : Hid (Step No w w11) := Lib.hid (by rw [← hW]; exact HS10.out.alloc _)
            clear hW HB10
            obtain ⟨c0, c1, c2, c3, c4, c5, c6, c7, c8, c9, c10, c11, c12⟩ := cells13 HB11.out
            go_wp2_with fail
            refine (num_any _ _).mono ?_
            rintro e w' ⟨rfl, rfl⟩
            go_wp2_with fail
            refine (SameMsg_any w11 zM zM zV zV zV zV zV zV (zM_msg w11) (zM_msg w11)).mono ?_
            rintro e w12 ⟨r, rfl, hr, hs12⟩
            obtain rfl : r = true := hr.2 rfl
            have HS12 : Hid (Step No w w12) := Lib.hid (HS11.out.trans hs12 (fun _ f _ => f))
            clear c0 c1 c2 c3 c4 c5 c6 c7 c8 c9 c10 c11 c12 hs12
            go_wp2_with fail
            refine (num_any _ _).mono ?_
            rintro e w' ⟨rfl, rfl⟩
            go_wp2_with fail
            refine (num_any _ _).mono ?_
            rintro e w' ⟨rfl, rfl⟩
            go_wp2_with fail
            go_ret
            exact ⟨rfl, HS12.out⟩
  · go_wp2_with fail
    refine (num_any _ _).mono ?_
    rintro e w' ⟨rfl, rfl⟩
    go_wp2_with fail
    go_ret
    exact ⟨rfl, HS2.out⟩
end Go.Proofs.YtjeamfoicpgkhaaGreatDoor.FrTurned
