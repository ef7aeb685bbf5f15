/- Frames. -/
import Derived.Test.YtjeamfoicpgkhaaGreatDoorGet
import Derived.Test.YtjeamfoicpgkhaaGreatDoorLumpA
import Derived.Test.YtjeamfoicpgkhaaGreatDoorLumpB
namespace Go.Proofs.YtjeamfoicpgkhaaGreatDoor.Frame
open Go.RowKit Go.Lib Go.Proofs.YtjeamfoicpgkhaaGreatDoor.Mem Go.Proofs.YtjeamfoicpgkhaaGreatDoor.Read Go.Proofs.YtjeamfoicpgkhaaGreatDoor.Tree Go.Proofs.YtjeamfoicpgkhaaGreatDoor.Data Go.Proofs.YtjeamfoicpgkhaaGreatDoor.Env Go.Proofs.YtjeamfoicpgkhaaGreatDoor.Take Go.Proofs.YtjeamfoicpgkhaaGreatDoor.Taker Go.Proofs.YtjeamfoicpgkhaaGreatDoor.Pk Go.Proofs.YtjeamfoicpgkhaaGreatDoor.PkR Go.Proofs.YtjeamfoicpgkhaaGreatDoor.OwnR Go.Proofs.YtjeamfoicpgkhaaGreatDoor.Each Go.Proofs.YtjeamfoicpgkhaaGreatDoor.EachS Go.Proofs.YtjeamfoicpgkhaaGreatDoor.MsgR Go.Proofs.YtjeamfoicpgkhaaGreatDoor.CompR Go.Proofs.YtjeamfoicpgkhaaGreatDoor.TakeE Go.Proofs.YtjeamfoicpgkhaaGreatDoor.May Go.Proofs.YtjeamfoicpgkhaaGreatDoor.TakeM Go.Proofs.YtjeamfoicpgkhaaGreatDoor.Get Go.Proofs.YtjeamfoicpgkhaaGreatDoor.Fr Go.Proofs.YtjeamfoicpgkhaaGreatDoor.SumMath
open Go.Proofs.YtjeamfoicpgkhaaGreatDoor.Writer (EnvS)
open Go.Proofs.YtjeamfoicpgkhaaGreatDoor.Put (PutPost put_any)
open Go.Proofs.YtjeamfoicpgkhaaGreatDoor.MayLen (putOk)
open Go.Proofs.YtjeamfoicpgkhaaGreatDoor.Dec
set_option linter.unusedVariables false
set_option linter.unusedSimpArgs false
theorem wrap_cat (a b l : List UInt8) : ((⟨a.toArray⟩ ++ ⟨#[58]⟩ ++ ⟨b.toArray⟩ ++ ⟨#[58]⟩ ++ ⟨l.toArray⟩ : ByteArray)) = ⟨(a ++ 58 :: (b ++ 58 :: l)).toArray⟩ := by apply ByteArray.ext; simp [ByteArray.data_append]
theorem wrap_len' (l : List UInt8) : (wrapS l).length = (itoa (l.length : Int)).length + (itoa (sumL l)).length + 2 + l.length := by unfold wrapS; simp; omega
theorem itoa_len {x : Int} (h : Small x) : (itoa x).length ≤ 9 := by
  rw [itoa_small h]
  have h2 := h.2
  have h1 := h.1
  rw [decDigits_length]
  exact nDigits_le 8 _ (by omega)
set_option maxHeartbeats 4000000 in
theorem wrapped_any (l : List UInt8) (hl : l.length < 1000000000) (w : World) (hE : Env w) : Calls Tryz.prog 79 #[.string ⟨l.toArray⟩] w fun e w' => e = .returned (.string ⟨(wrapS l).toArray⟩) ∧ Step No w w' := by
  have HE := Lib.hid hE
  have HL1 := Lib.hid (itoa_len (len_small hl))
  have HL2 := Lib.hid (itoa_len (sum_small l))
  have HSM := Lib.hid (sum_small l)
  clear hE
  go_enter Tryz.func79, Tryz.ntmps79
  go_wp2_with fail
  have hsz : (⟨l.toArray⟩ : ByteArray).size = l.length := rfl
  refine (Tryz.strconv_Itoa _ (by omega) (by omega) _ HE.out.1).mono ?_
  rintro e w1 ⟨rfl, k1, os1, rfl⟩
  obtain ⟨a, hA⟩ : ∃ a, itoa (l.length : Int) = a := ⟨_, rfl⟩
  have HA := Lib.hid hA
  rw [hA] at HL1 ⊢
  have ha := HL1.out
  generalize hW1 : Go.Sort.grow (w.drewN k1) os1 = w1 at *
  have HS1 : Hid (Step No w w1) := Lib.hid (by rw [← hW1]; exact grow_step k1 os1)
  clear hW1 hA
  go_wp2_with fail
  refine (SumWalk.sum_any _ _ (by rw [hsz]; omega)).mono ?_
  rintro e w' ⟨rfl, rfl⟩
  have hs1 := HSM.out.1
  have hs2 := HSM.out.2
  obtain ⟨u, hU⟩ : ∃ u, sumL l = u := ⟨_, rfl⟩
  have HU := Lib.hid hU
  simp only [hU] at hs1 hs2 HL2 ⊢
  clear hU
  go_wp2_with fail
  refine (Tryz.strconv_Itoa u (by omega) (by omega) _ (HE.out.step HS1.out).1).mono ?_
  rintro e w2 ⟨rfl, k2, os2, rfl⟩
  obtain ⟨b, hB⟩ : ∃ b, itoa u = b := ⟨_, rfl⟩
  have HB := Lib.hid hB
  rw [hB] at HL2 ⊢
  have hb := HL2.out
  generalize hW2 : Go.Sort.grow (_ : World) os2 = w2 at *
  have HS2 : Hid (Step No w w2) := Lib.hid (by rw [← hW2]; exact HS1.out.trans (grow_step k2 os2) (fun _ f _ => f))
  clear hW2 hB
  go_wp2
  rw [wrap_cat]
  exact bodyPost_ret (by simp [results, Tryz.results79, go_sem]; rfl) rfl ⟨by unfold wrapS; rw [HA.out, HU.out, HB.out], HS2.out⟩
/-- A text is that of a message in its frame. -/
def SaysF (m : MsgD) (l : List UInt8) : Prop := putOk m = true ∧ wrapS (putS m) = l
theorem put_short {m : MsgD} (h : putOk m = true) : (putS m).length < 1000000000 := by
  unfold putOk at h
  rw [Bool.and_eq_true, decide_eq_true_eq] at h
  omega
theorem SaysF.frame {m : MsgD} {l : List UInt8} (h : SaysF m l) : frameR l = some (putS m) := by rw [← h.2]; exact frame_back (put_short h.1)
theorem SaysF.of {m : MsgD} {l t : List UInt8} (h : SaysP m t) (ht : wrapS t = l) : SaysF m l := ⟨h.1, by rw [h.2]; exact ht⟩
def FPutPost (m : MsgD) (w : World) (e : Ending) (w' : World) : Prop :=
  Step No w w' ∧ ((putOk m = true ∧ e = .returned (.tuple #[.string (ba (wrapS (putS m))), .int .i64 0])) ∨ (putOk m = false ∧ e = .returned (.tuple #[.string ⟨#[]⟩, .int .i64 1800])))
set_option maxHeartbeats 4000000 in
theorem fput_any (m : MsgD) (ev env nv : Value) (w : World) (hm : MsgR w m ev env nv) (hr : ParMay.RngN m.tree.nodes) (hE : Env w) : Calls Tryz.prog 24 #[aggM m ev env nv] w (FPutPost m w) := by
  obtain ⟨A, c, rfl, -, -⟩ := comps_len hm.edit
  obtain ⟨A', c', rfl, -, -⟩ := sl_len hm.entries
  obtain ⟨A'', c'', rfl, -, -⟩ := nodes_len hm.nodes
  have HR := Lib.hid hm
  have HRn := Lib.hid hr
  have HE := Lib.hid hE
  clear hm hr hE
  obtain ⟨kd, cl, rv, sq, fm, ls, rf, es, en, tx, ⟨rt, nx, ns⟩⟩ := m
  unfold aggM msgCells
  go_enter Tryz.func24, Tryz.ntmps24
  go_wp2_with fail
  refine (put_any ⟨kd, cl, rv, sq, fm, ls, rf, es, en, tx, ⟨rt, nx, ns⟩⟩ _ _ _ _ (HR.out.to (by repeat' (first | exact Step.refl _ _ | with_reducible assumption | refine Step.drew ?_ | refine Step.drewN ?_ _ | refine Step.alloc ?_ _))) HRn.out (HE.out.step (by repeat' (first | exact Step.refl _ _ | with_reducible assumption | refine Step.drew ?_ | refine Step.drewN ?_ _ | refine Step.alloc ?_ _)))).mono ?_
  rintro e w2 ⟨hs2, hp⟩
  have HS2 : Hid (Step No w w2) := Lib.hid (((Step.refl No w).alloc _).trans hs2 (fun _ f _ => f))
  clear hs2
  rcases hp with ⟨hp, rfl⟩ | ⟨hp, rfl⟩
  · have HP := Lib.hid hp
    have HSh := Lib.hid (put_short hp)
    clear hp
    unfold ba
    go_wp2_with fail
    refine (wrapped_any _ HSh.out _ (HE.out.step HS2.out)).mono ?_
    rintro e w3 ⟨rfl, hs3⟩
    have HS3 : Hid (Step No w w3) := Lib.hid (HS2.out.trans hs3 (fun _ f _ => f))
    clear hs3
    generalize hpl : wrapS _ = pl
    have HPL := Lib.hid hpl
    clear hpl
    go_wp2
    go_ret2
    exact ⟨HS3.out, .inl ⟨HP.out, by rw [HPL.out]; rfl⟩⟩
  · have HP := Lib.hid hp
    clear hp
    go_wp2
    go_ret2
    exact ⟨HS2.out, .inr ⟨HP.out, rfl⟩⟩
def FGetPost (w : World) (l : List UInt8) (e : Ending) (w' : World) : Prop := Step No w w' ∧
  ((∃ m ev env nv, SaysF m l ∧ e = .returned (.tuple #[.agg (msgCells m ev env nv), .int .i64 0]) ∧ MsgW w.heap.size w' m ev env nv) ∨
   ((∀ m, ¬ SaysF m l) ∧ e = .returned (.tuple #[.agg (msgCells zM zV zV zV), .int .i64 1800])))
theorem fget_none {w w' : World} {l : List UInt8} (hs : Step No w w') (h : frameR l = none) : FGetPost w l (.returned (.tuple #[.agg (msgCells zM zV zV zV), .int .i64 1800])) w' :=
  ⟨hs, .inr ⟨fun m h' => absurd (h'.frame.symm.trans h) (by simp), rfl⟩⟩
theorem fget_un {w w' : World} {l t : List UInt8} (hs : Step No w w') (h : frameR l = some t) (hn : ∀ m, ¬ SaysP m t) : FGetPost w l (.returned (.tuple #[.agg (msgCells zM zV zV zV), .int .i64 1800])) w' :=
  ⟨hs, .inr ⟨fun m h' => hn m ⟨h'.1, (Option.some.inj (h.symm.trans h'.frame)).symm⟩, rfl⟩⟩
theorem fr_no {l : List UInt8} {x y : Int} {st1 : St} {t : List UInt8} {bad : Bool} (h1 : digR 58 (l, false) = (x, st1)) (h2 : digR 58 st1 = (y, t, bad)) (h : bad = true ∨ x ≠ t.length ∨ wrapS t ≠ l) : frameR l = none := by
  unfold frameR
  simp only [h1, h2]
  rw [if_pos h]
theorem fr_yes {l : List UInt8} {x y : Int} {st1 : St} {t : List UInt8} (h1 : digR 58 (l, false) = (x, st1)) (h2 : digR 58 st1 = (y, t, false)) (hx : x = t.length) (h : wrapS t = l) : frameR l = some t := by
  unfold frameR
  simp only [h1, h2]
  rw [if_neg]
  rintro (a | a | a)
  · cases a
  · exact a hx
  · exact a h
set_option maxHeartbeats 16000000 in
set_option maxRecDepth 100000 in
theorem fget_any (w : World) (l : List UInt8) (hl : l.length ≤ 140737488355328) (hE : Env w) : Calls Tryz.prog 26 #[.string ⟨l.toArray⟩] w (FGetPost w l) := by
  have HE := Lib.hid hE
  have HT : Hid (TRep ((w.alloc (.cells mZ TM)).alloc (.cells #[.string ⟨l.toArray⟩, .bool false] TT)) (w.heap.size + 1) (l, false)) := Lib.hid ⟨by simpa using blk_new (w.alloc (.cells mZ TM)) (.cells #[.string ⟨l.toArray⟩, .bool false] TT), hl⟩
  have HR1 : Hid (((w.alloc (.cells mZ TM)).alloc (.cells #[.string ⟨l.toArray⟩, .bool false] TT)).heap[w.heap.size]? = some (.cells mZ TM (0, 0))) := Lib.hid (blk_alloc (blk_new _ _) _)
  have HS1 : Hid (Step No w ((w.alloc (.cells mZ TM)).alloc (.cells #[.string ⟨l.toArray⟩, .bool false] TT))) := Lib.hid (((Step.refl No w).alloc _).alloc _)
  clear hE hl
  simp only [mZ] at HT HR1 HS1
  go_enter Tryz.func26, Tryz.ntmps26
  go_wp2_with fail
  generalize hW : World.alloc (World.alloc w _) _ = w2 at *
  clear hW
  obtain ⟨r, hr⟩ : ∃ r, w.heap.size = r := ⟨_, rfl⟩
  have HRr := Lib.hid hr
  have HLE : Hid (w.heap.size ≤ r) := Lib.hid (Nat.le_of_eq hr)
  have HBE : Hid (w.heap.size ≤ w.heap.size + 1) := Lib.hid (Nat.le_succ _)
  generalize w.heap.size + 1 = b at *
  rw [hr] at HR1 ⊢
  clear hr
  have hs1 : ∀ w', Step (fun k => k = b) w2 w' → Step No w w' := fun w' hs => HS1.out.trans hs (fun i e hlt => by have := HBE.out; omega)
  have HS := Lib.hid hs1
  obtain ⟨x, st1, h1⟩ : ∃ x s', digR 58 (l, false) = (x, s') := ⟨_, _, rfl⟩
  have hxs := dig_small 58 (l, false)
  rw [h1] at hxs
  simp only at hxs
  have HXS := Lib.hid hxs
  have HD1 := Lib.hid h1
  refine (Digits_any w2 b 58 (l, false) HT.out (HE.out.step HS1.out)).mono ?_
  rintro e w3 hp
  obtain ⟨rfl, ht3⟩ := (TK.start HT.out).next hp
  rw [h1] at ht3 ⊢
  simp only at ht3 ⊢
  have HT3 := Lib.hid ht3
  clear hp ht3 h1 hs1 hxs
  go_wp2_with fail
  obtain ⟨y, st2, h2⟩ : ∃ x s', digR 58 st1 = (x, s') := ⟨_, _, rfl⟩
  refine (Digits_any w3 b 58 st1 HT3.out.1 (HE.out.step (HS.out _ HT3.out.2))).mono ?_
  rintro e w4 hp
  obtain ⟨rfl, ht4⟩ := (TK.start HT3.out.1).next hp
  rw [h2] at ht4 ⊢
  simp only at ht4 ⊢
  obtain ⟨t, bad⟩ := st2
  have HD2 := Lib.hid h2
  have HT4 : Hid (TK w2 b (t, bad) w4) := Lib.hid ⟨ht4.1, HT3.out.2.trans ht4.2 (fun _ f _ => f)⟩
  clear hp ht4 h2
  have HST : Hid (Step No w w4) := Lib.hid (HS.out _ HT4.out.2)
  have HR : Hid (w4.heap[r]? = some (.cells mZ TM (0, 0))) := Lib.hid (res_at HR1.out HT.out.1 (by decide) HT4.out.2)
  have t0 := blk_cell HT4.out.blk 0
  have t1 := blk_cell HT4.out.blk 1
  simp at t0 t1
  clear HR1 HT HT3 HS1 HS
  cases bad with
  | true =>
    have k0 := blk_cell HR.out 0
    have y0 := blk_free HR.out 0
    have k1 := blk_cell HR.out 1
    have y1 := blk_free HR.out 1
    have k2 := blk_cell HR.out 2
    have y2 := blk_free HR.out 2
    have k3 := blk_cell HR.out 3
    have y3 := blk_free HR.out 3
    have k4 := blk_cell HR.out 4
    have y4 := blk_free HR.out 4
    have k5 := blk_cell HR.out 5
    have y5 := blk_free HR.out 5
    have k6 := blk_cell HR.out 6
    have y6 := blk_free HR.out 6
    have k7 := blk_cell HR.out 7
    have y7 := blk_free HR.out 7
    have k8 := blk_cell HR.out 8
    have y8 := blk_free HR.out 8
    have k9 := blk_cell HR.out 9
    have y9 := blk_free HR.out 9
    have k10 := blk_cell HR.out 10
    have y10 := blk_free HR.out 10
    have k11 := blk_cell HR.out 11
    have y11 := blk_free HR.out 11
    have k12 := blk_cell HR.out 12
    have y12 := blk_free HR.out 12
    simp [mZ] at k0 k1 k2 k3 k4 k5 k6 k7 k8 k9 k10 k11 k12
    have HD := Lib.hid (filled (vs := [.int .i64 0, .int .i64 0, .int .i64 0, .int .i64 0, .int .i64 0, .int .i64 0, .bool false, .slice none 0 0, .slice none 0 0, .string ⟨#[]⟩, .int .i64 0, .int .i64 0, .slice none 0 0]) HR.out rfl HLE.out HST.out)
    have HM : Hid True := Lib.hid trivial
    simp only [sets, Nat.reduceAdd] at HD HM
    clear HR HST
    go_wp2
    generalize hW : World.setCell (World.setCell (World.setCell (World.setCell (World.setCell (World.setCell (World.setCell (World.setCell (World.setCell (World.setCell (World.setCell (World.setCell (World.setCell _ ⟨r, 0, none⟩ _) ⟨r, 1, none⟩ _) ⟨r, 2, none⟩ _) ⟨r, 3, none⟩ _) ⟨r, 4, none⟩ _) ⟨r, 5, none⟩ _) ⟨r, 6, none⟩ _) ⟨r, 7, none⟩ _) ⟨r, 8, none⟩ _) ⟨r, 9, none⟩ _) ⟨r, 10, none⟩ _) ⟨r, 11, none⟩ _) ⟨r, 12, none⟩ _ = W at *
    clear hW
    have r0 := blk_cell HD.out.1 0
    have r1 := blk_cell HD.out.1 1
    have r2 := blk_cell HD.out.1 2
    have r3 := blk_cell HD.out.1 3
    have r4 := blk_cell HD.out.1 4
    have r5 := blk_cell HD.out.1 5
    have r6 := blk_cell HD.out.1 6
    have r7 := blk_cell HD.out.1 7
    have r8 := blk_cell HD.out.1 8
    have r9 := blk_cell HD.out.1 9
    have r10 := blk_cell HD.out.1 10
    have r11 := blk_cell HD.out.1 11
    have r12 := blk_cell HD.out.1 12
    simp at r0 r1 r2 r3 r4 r5 r6 r7 r8 r9 r10 r11 r12
    exact bodyPost_ret (by simp [results, Tryz.results26, go_sem, r0, r1, r2, r3, r4, r5, r6, r7, r8, r9, r10, r11, r12]; rfl) rfl (fget_none HD.out.2.1 (fr_no HD1.out HD2.out (.inl rfl)))
  | false =>
    by_cases hx : x = t.length
    · have HX := Lib.hid hx
      have hts : t.length < 1000000000 := by have := HXS.out.2; omega
      have hsz : (⟨t.toArray⟩ : ByteArray).size = t.length := rfl
      subst hx
      go_wp2_with fail
      refine (wrapped_any t hts _ (HE.out.step HST.out)).mono ?_
      rintro e w5 ⟨rfl, hs5⟩
      have HR5 : Hid (w5.heap[r]? = some (.cells mZ TM (0, 0))) := Lib.hid (hs5.blk HR.out (fun f => f))
      have HST5 : Hid (Step No w w5) := Lib.hid (HST.out.trans hs5 (fun _ f _ => f))
      have ht5 := hs5.blk HT4.out.blk (fun f => f)
      have z0 := blk_cell ht5 0
      simp at z0
      clear hs5 ht5 HR HST t0 t1 HT4
      have HR := HR5
      have HST := HST5
      clear HR5 HST5
      by_cases hq : wrapS t = l
      · have HQ := Lib.hid hq
        have hq1 : (wrapS t == l) = true := beq_iff_eq.2 hq
        clear hq
        generalize hpl : wrapS t = pl at hq1 ⊢
        clear hpl
        go_wp2_with fail
        refine (get_any _ t (by omega) (HE.out.step HST.out)).mono ?_
        rintro e w6 ⟨hs6, hp⟩
        have HR6 : Hid (w6.heap[r]? = some (.cells mZ TM (0, 0))) := Lib.hid (hs6.blk HR.out (fun f => f))
        have HST6 : Hid (Step No w w6) := Lib.hid (HST.out.trans hs6 (fun _ f _ => f))
        have HSZ := Lib.hid HST.out.size
        clear hs6 HR HST z0
        rcases hp with ⟨m, ev, env, nv, hsp, rfl, hmw⟩ | ⟨hno, rfl⟩
        · obtain ⟨⟨A1, n1, c1, rfl⟩, ⟨A2, n2, c2, rfl⟩, A3, n3, c3, rfl⟩ := hmw.slices
          have HP := Lib.hid hsp
          have HMW := Lib.hid (msg_base hmw HSZ.out)
          clear hsp hmw
          obtain ⟨kd, cl, rv, sq, fm, ls, rf, es, en, tx, ⟨rt, nx, ns⟩⟩ := m
          simp only [msgCells]
          have hs7 : Step No w6 (w6.alloc (.cells #[.int .i64 kd, .int .i64 cl, .int .i64 rv, .int .i64 sq, .int .i64 fm, .int .i64 ls, .bool rf, .slice A1 n1 c1, .slice A2 n2 c2, .string tx, .int .i64 rt, .int .i64 nx, .slice A3 n3 c3] TM)) := Step.alloc (Step.refl _ _) _
          have HM0 := Lib.hid (HMW.out.go hs7 (Types.no _ _ _))
          have HST : Hid (Step No w (w6.alloc (.cells #[.int .i64 kd, .int .i64 cl, .int .i64 rv, .int .i64 sq, .int .i64 fm, .int .i64 ls, .bool rf, .slice A1 n1 c1, .slice A2 n2 c2, .string tx, .int .i64 rt, .int .i64 nx, .slice A3 n3 c3] TM))) := Lib.hid (HST6.out.trans hs7 (fun _ f _ => f))
          have HR : Hid ((w6.alloc (.cells #[.int .i64 kd, .int .i64 cl, .int .i64 rv, .int .i64 sq, .int .i64 fm, .int .i64 ls, .bool rf, .slice A1 n1 c1, .slice A2 n2 c2, .string tx, .int .i64 rt, .int .i64 nx, .slice A3 n3 c3] TM)).heap[r]? = some (.cells mZ TM (0, 0))) := Lib.hid (blk_alloc HR6.out _)
          clear hs7 HST6 HR6 HMW
          have k0 := blk_cell HR.out 0
          have y0 := blk_free HR.out 0
          have k1 := blk_cell HR.out 1
          have y1 := blk_free HR.out 1
          have k2 := blk_cell HR.out 2
          have y2 := blk_free HR.out 2
          have k3 := blk_cell HR.out 3
          have y3 := blk_free HR.out 3
          have k4 := blk_cell HR.out 4
          have y4 := blk_free HR.out 4
          have k5 := blk_cell HR.out 5
          have y5 := blk_free HR.out 5
          have k6 := blk_cell HR.out 6
          have y6 := blk_free HR.out 6
          have k7 := blk_cell HR.out 7
          have y7 := blk_free HR.out 7
          have k8 := blk_cell HR.out 8
          have y8 := blk_free HR.out 8
          have k9 := blk_cell HR.out 9
          have y9 := blk_free HR.out 9
          have k10 := blk_cell HR.out 10
          have y10 := blk_free HR.out 10
          have k11 := blk_cell HR.out 11
          have y11 := blk_free HR.out 11
          have k12 := blk_cell HR.out 12
          have y12 := blk_free HR.out 12
          simp [mZ] at k0 k1 k2 k3 k4 k5 k6 k7 k8 k9 k10 k11 k12
          have HD := Lib.hid (filled (vs := [.int .i64 kd, .int .i64 cl, .int .i64 rv, .int .i64 sq, .int .i64 fm, .int .i64 ls, .bool rf, .slice A1 n1 c1, .slice A2 n2 c2, .string tx, .int .i64 rt, .int .i64 nx, .slice A3 n3 c3]) HR.out rfl HLE.out HST.out)
          have HM := Lib.hid (HM0.out.go HD.out.2.2 (Types.at HR.out (by decide)))
          simp only [sets, Nat.reduceAdd] at HD HM
          clear HR HST
          go_wp2
          generalize hW : World.setCell (World.setCell (World.setCell (World.setCell (World.setCell (World.setCell (World.setCell (World.setCell (World.setCell (World.setCell (World.setCell (World.setCell (World.setCell _ ⟨r, 0, none⟩ _) ⟨r, 1, none⟩ _) ⟨r, 2, none⟩ _) ⟨r, 3, none⟩ _) ⟨r, 4, none⟩ _) ⟨r, 5, none⟩ _) ⟨r, 6, none⟩ _) ⟨r, 7, none⟩ _) ⟨r, 8, none⟩ _) ⟨r, 9, none⟩ _) ⟨r, 10, none⟩ _) ⟨r, 11, none⟩ _) ⟨r, 12, none⟩ _ = W at *
          clear hW
          have r0 := blk_cell HD.out.1 0
          have r1 := blk_cell HD.out.1 1
          have r2 := blk_cell HD.out.1 2
          have r3 := blk_cell HD.out.1 3
          have r4 := blk_cell HD.out.1 4
          have r5 := blk_cell HD.out.1 5
          have r6 := blk_cell HD.out.1 6
          have r7 := blk_cell HD.out.1 7
          have r8 := blk_cell HD.out.1 8
          have r9 := blk_cell HD.out.1 9
          have r10 := blk_cell HD.out.1 10
          have r11 := blk_cell HD.out.1 11
          have r12 := blk_cell HD.out.1 12
          simp at r0 r1 r2 r3 r4 r5 r6 r7 r8 r9 r10 r11 r12
          exact bodyPost_ret (by simp [results, Tryz.results26, go_sem, r0, r1, r2, r3, r4, r5, r6, r7, r8, r9, r10, r11, r12]; rfl) rfl (⟨HD.out.2.1, .inl ⟨_, _, _, _, SaysF.of HP.out HQ.out, rfl, HM.out⟩⟩)
        · have HP := Lib.hid hno
          clear hno
          simp only [msgCells, zM, zV, noTree, ba]
          have hs7 : Step No w6 (w6.alloc (.cells #[.int .i64 0, .int .i64 0, .int .i64 0, .int .i64 0, .int .i64 0, .int .i64 0, .bool false, .slice none 0 0, .slice none 0 0, .string ⟨#[]⟩, .int .i64 0, .int .i64 0, .slice none 0 0] TM)) := Step.alloc (Step.refl _ _) _
          have HST : Hid (Step No w (w6.alloc (.cells #[.int .i64 0, .int .i64 0, .int .i64 0, .int .i64 0, .int .i64 0, .int .i64 0, .bool false, .slice none 0 0, .slice none 0 0, .string ⟨#[]⟩, .int .i64 0, .int .i64 0, .slice none 0 0] TM))) := Lib.hid (HST6.out.trans hs7 (fun _ f _ => f))
          have HR : Hid ((w6.alloc (.cells #[.int .i64 0, .int .i64 0, .int .i64 0, .int .i64 0, .int .i64 0, .int .i64 0, .bool false, .slice none 0 0, .slice none 0 0, .string ⟨#[]⟩, .int .i64 0, .int .i64 0, .slice none 0 0] TM)).heap[r]? = some (.cells mZ TM (0, 0))) := Lib.hid (blk_alloc HR6.out _)
          clear hs7 HST6 HR6
          have k0 := blk_cell HR.out 0
          have y0 := blk_free HR.out 0
          have k1 := blk_cell HR.out 1
          have y1 := blk_free HR.out 1
          have k2 := blk_cell HR.out 2
          have y2 := blk_free HR.out 2
          have k3 := blk_cell HR.out 3
          have y3 := blk_free HR.out 3
          have k4 := blk_cell HR.out 4
          have y4 := blk_free HR.out 4
          have k5 := blk_cell HR.out 5
          have y5 := blk_free HR.out 5
          have k6 := blk_cell HR.out 6
          have y6 := blk_free HR.out 6
          have k7 := blk_cell HR.out 7
          have y7 := blk_free HR.out 7
          have k8 := blk_cell HR.out 8
          have y8 := blk_free HR.out 8
          have k9 := blk_cell HR.out 9
          have y9 := blk_free HR.out 9
          have k10 := blk_cell HR.out 10
          have y10 := blk_free HR.out 10
          have k11 := blk_cell HR.out 11
          have y11 := blk_free HR.out 11
          have k12 := blk_cell HR.out 12
          have y12 := blk_free HR.out 12
          simp [mZ] at k0 k1 k2 k3 k4 k5 k6 k7 k8 k9 k10 k11 k12
          have HD := Lib.hid (filled (vs := [.int .i64 0, .int .i64 0, .int .i64 0, .int .i64 0, .int .i64 0, .int .i64 0, .bool false, .slice none 0 0, .slice none 0 0, .string ⟨#[]⟩, .int .i64 0, .int .i64 0, .slice none 0 0]) HR.out rfl HLE.out HST.out)
          have HM : Hid True := Lib.hid trivial
          simp only [sets, Nat.reduceAdd] at HD HM
          clear HR HST
          go_wp2
          generalize hW : World.setCell (World.setCell (World.setCell (World.setCell (World.setCell (World.setCell (World.setCell (World.setCell (World.setCell (World.setCell (World.setCell (World.setCell (World.setCell _ ⟨r, 0, none⟩ _) ⟨r, 1, none⟩ _) ⟨r, 2, none⟩ _) ⟨r, 3, none⟩ _) ⟨r, 4, none⟩ _) ⟨r, 5, none⟩ _) ⟨r, 6, none⟩ _) ⟨r, 7, none⟩ _) ⟨r, 8, none⟩ _) ⟨r, 9, none⟩ _) ⟨r, 10, none⟩ _) ⟨r, 11, none⟩ _) ⟨r, 12, none⟩ _ = W at *
          clear hW
          have r0 := blk_cell HD.out.1 0
          have r1 := blk_cell HD.out.1 1
          have r2 := blk_cell HD.out.1 2
          have r3 := blk_cell HD.out.1 3
          have r4 := blk_cell HD.out.1 4
          have r5 := blk_cell HD.out.1 5
          have r6 := blk_cell HD.out.1 6
          have r7 := blk_cell HD.out.1 7
          have r8 := blk_cell HD.out.1 8
          have r9 := blk_cell HD.out.1 9
          have r10 := blk_cell HD.out.1 10
          have r11 := blk_cell HD.out.1 11
          have r12 := blk_cell HD.out.1 12
          simp at r0 r1 r2 r3 r4 r5 r6 r7 r8 r9 r10 r11 r12
          exact bodyPost_ret (by simp [results, Tryz.results26, go_sem, r0, r1, r2, r3, r4, r5, r6, r7, r8, r9, r10, r11, r12]; rfl) rfl (fget_un HD.out.2.1 (fr_yes HD1.out HD2.out rfl HQ.out) HP.out)
      · have HQ := Lib.hid hq
        have hq1 : (wrapS t == l) = false := beq_eq_false_iff_ne.2 hq
        clear hq
        generalize hpl : wrapS t = pl at hq1 ⊢
        clear hpl
        have k0 := blk_cell HR.out 0
        have y0 := blk_free HR.out 0
        have k1 := blk_cell HR.out 1
        have y1 := blk_free HR.out 1
        have k2 := blk_cell HR.out 2
        have y2 := blk_free HR.out 2
        have k3 := blk_cell HR.out 3
        have y3 := blk_free HR.out 3
        have k4 := blk_cell HR.out 4
        have y4 := blk_free HR.out 4
        have k5 := blk_cell HR.out 5
        have y5 := blk_free HR.out 5
        have k6 := blk_cell HR.out 6
        have y6 := blk_free HR.out 6
        have k7 := blk_cell HR.out 7
        have y7 := blk_free HR.out 7
        have k8 := blk_cell HR.out 8
        have y8 := blk_free HR.out 8
        have k9 := blk_cell HR.out 9
        have y9 := blk_free HR.out 9
        have k10 := blk_cell HR.out 10
        have y10 := blk_free HR.out 10
        have k11 := blk_cell HR.out 11
        have y11 := blk_free HR.out 11
        have k12 := blk_cell HR.out 12
        have y12 := blk_free HR.out 12
        simp [mZ] at k0 k1 k2 k3 k4 k5 k6 k7 k8 k9 k10 k11 k12
        have HD := Lib.hid (filled (vs := [.int .i64 0, .int .i64 0, .int .i64 0, .int .i64 0, .int .i64 0, .int .i64 0, .bool false, .slice none 0 0, .slice none 0 0, .string ⟨#[]⟩, .int .i64 0, .int .i64 0, .slice none 0 0]) HR.out rfl HLE.out HST.out)
        have HM : Hid True := Lib.hid trivial
        simp only [sets, Nat.reduceAdd] at HD HM
        clear HR HST
        go_wp2
        generalize hW : World.setCell (World.setCell (World.setCell (World.setCell (World.setCell (World.setCell (World.setCell (World.setCell (World.setCell (World.setCell (World.setCell (World.setCell (World.setCell _ ⟨r, 0, none⟩ _) ⟨r, 1, none⟩ _) ⟨r, 2, none⟩ _) ⟨r, 3, none⟩ _) ⟨r, 4, none⟩ _) ⟨r, 5, none⟩ _) ⟨r, 6, none⟩ _) ⟨r, 7, none⟩ _) ⟨r, 8, none⟩ _) ⟨r, 9, none⟩ _) ⟨r, 10, none⟩ _) ⟨r, 11, none⟩ _) ⟨r, 12, none⟩ _ = W at *
        clear hW
        have r0 := blk_cell HD.out.1 0
        have r1 := blk_cell HD.out.1 1
        have r2 := blk_cell HD.out.1 2
        have r3 := blk_cell HD.out.1 3
        have r4 := blk_cell HD.out.1 4
        have r5 := blk_cell HD.out.1 5
        have r6 := blk_cell HD.out.1 6
        have r7 := blk_cell HD.out.1 7
        have r8 := blk_cell HD.out.1 8
        have r9 := blk_cell HD.out.1 9
        have r10 := blk_cell HD.out.1 10
        have r11 := blk_cell HD.out.1 11
        have r12 := blk_cell HD.out.1 12
        simp at r0 r1 r2 r3 r4 r5 r6 r7 r8 r9 r10 r11 r12
        exact bodyPost_ret (by simp [results, Tryz.results26, go_sem, r0, r1, r2, r3, r4, r5, r6, r7, r8, r9, r10, r11, r12]; rfl) rfl (fget_none HD.out.2.1 (fr_no HD1.out HD2.out (.inr (.inr HQ.out))))
    · have HX := Lib.hid hx
      have hx1 : (x == (t.length : Int)) = false := beq_eq_false_iff_ne.2 hx
      clear hx
      have k0 := blk_cell HR.out 0
      have y0 := blk_free HR.out 0
      have k1 := blk_cell HR.out 1
      have y1 := blk_free HR.out 1
      have k2 := blk_cell HR.out 2
      have y2 := blk_free HR.out 2
      have k3 := blk_cell HR.out 3
      have y3 := blk_free HR.out 3
      have k4 := blk_cell HR.out 4
      have y4 := blk_free HR.out 4
      have k5 := blk_cell HR.out 5
      have y5 := blk_free HR.out 5
      have k6 := blk_cell HR.out 6
      have y6 := blk_free HR.out 6
      have k7 := blk_cell HR.out 7
      have y7 := blk_free HR.out 7
      have k8 := blk_cell HR.out 8
      have y8 := blk_free HR.out 8
      have k9 := blk_cell HR.out 9
      have y9 := blk_free HR.out 9
      have k10 := blk_cell HR.out 10
      have y10 := blk_free HR.out 10
      have k11 := blk_cell HR.out 11
      have y11 := blk_free HR.out 11
      have k12 := blk_cell HR.out 12
      have y12 := blk_free HR.out 12
      simp [mZ] at k0 k1 k2 k3 k4 k5 k6 k7 k8 k9 k10 k11 k12
      have HD := Lib.hid (filled (vs := [.int .i64 0, .int .i64 0, .int .i64 0, .int .i64 0, .int .i64 0, .int .i64 0, .bool false, .slice none 0 0, .slice none 0 0, .string ⟨#[]⟩, .int .i64 0, .int .i64 0, .slice none 0 0]) HR.out rfl HLE.out HST.out)
      have HM : Hid True := Lib.hid trivial
      simp only [sets, Nat.reduceAdd] at HD HM
      clear HR HST
      go_wp2
      generalize hW : World.setCell (World.setCell (World.setCell (World.setCell (World.setCell (World.setCell (World.setCell (World.setCell (World.setCell (World.setCell (World.setCell (World.setCell (World.setCell _ ⟨r, 0, none⟩ _) ⟨r, 1, none⟩ _) ⟨r, 2, none⟩ _) ⟨r, 3, none⟩ _) ⟨r, 4, none⟩ _) ⟨r, 5, none⟩ _) ⟨r, 6, none⟩ _) ⟨r, 7, none⟩ _) ⟨r, 8, none⟩ _) ⟨r, 9, none⟩ _) ⟨r, 10, none⟩ _) ⟨r, 11, none⟩ _) ⟨r, 12, none⟩ _ = W at *
      clear hW
      have r0 := blk_cell HD.out.1 0
      have r1 := blk_cell HD.out.1 1
      have r2 := blk_cell HD.out.1 2
      have r3 := blk_cell HD.out.1 3
      have r4 := blk_cell HD.out.1 4
      have r5 := blk_cell HD.out.1 5
      have r6 := blk_cell HD.out.1 6
      have r7 := blk_cell HD.out.1 7
      have r8 := blk_cell HD.out.1 8
      have r9 := blk_cell HD.out.1 9
      have r10 := blk_cell HD.out.1 10
      have r11 := blk_cell HD.out.1 11
      have r12 := blk_cell HD.out.1 12
      simp at r0 r1 r2 r3 r4 r5 r6 r7 r8 r9 r10 r11 r12
      exact bodyPost_ret (by simp [results, Tryz.results26, go_sem, r0, r1, r2, r3, r4, r5, r6, r7, r8, r9, r10, r11, r12]; rfl) rfl (fget_none HD.out.2.1 (fr_no HD1.out HD2.out (.inr (.inl HX.out))))
end Go.Proofs.YtjeamfoicpgkhaaGreatDoor.Frame
