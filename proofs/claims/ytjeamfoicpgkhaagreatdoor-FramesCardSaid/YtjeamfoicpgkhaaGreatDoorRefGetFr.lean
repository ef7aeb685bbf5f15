/- The reference's GetFrame; what it says of whether a message may be is a premise. -/
import Derived.Test.YtjeamfoicpgkhaaGreatDoorRefGet
import Derived.Test.YtjeamfoicpgkhaaGreatDoorRefPutFr
import Derived.Test.YtjeamfoicpgkhaaGreatDoorLumpA
namespace Go.Proofs.YtjeamfoicpgkhaaGreatDoor.RefGetFr
open Go.RowKit Go.Lib Go.Proofs.YtjeamfoicpgkhaaGreatDoor.Mem Go.Proofs.YtjeamfoicpgkhaaGreatDoor.Read Go.Proofs.YtjeamfoicpgkhaaGreatDoor.Dec Go.Proofs.YtjeamfoicpgkhaaGreatDoor.Take Go.Proofs.YtjeamfoicpgkhaaGreatDoor.Tree Go.Proofs.YtjeamfoicpgkhaaGreatDoor.Data Go.Proofs.YtjeamfoicpgkhaaGreatDoor.Pk Go.Proofs.YtjeamfoicpgkhaaGreatDoor.PkR Go.Proofs.YtjeamfoicpgkhaaGreatDoor.OwnR Go.Proofs.YtjeamfoicpgkhaaGreatDoor.CompR Go.Proofs.YtjeamfoicpgkhaaGreatDoor.MsgR Go.Proofs.YtjeamfoicpgkhaaGreatDoor.May Go.Proofs.YtjeamfoicpgkhaaGreatDoor.TakeE Go.Proofs.YtjeamfoicpgkhaaGreatDoor.TakeM Go.Proofs.YtjeamfoicpgkhaaGreatDoor.RefTaker Go.Proofs.YtjeamfoicpgkhaaGreatDoor.RefTk Go.Proofs.YtjeamfoicpgkhaaGreatDoor.RefTs Go.Proofs.YtjeamfoicpgkhaaGreatDoor.RefGet Go.Proofs.YtjeamfoicpgkhaaGreatDoor.Fr Go.Proofs.YtjeamfoicpgkhaaGreatDoor.SumMath
open Go.Proofs.YtjeamfoicpgkhaaGreatDoor.Get (SaysP zM zV filled str_eq msg_reads msg_base)
open Go.Proofs.YtjeamfoicpgkhaaGreatDoor.Frame (SaysF FPutPost put_short wrap_len')
open Go.Proofs.YtjeamfoicpgkhaaGreatDoor.RefPutFr (fput_ref)
open Go.Proofs.YtjeamfoicpgkhaaGreatDoor.MayLen (putOk)
set_option linter.unusedVariables false
set_option linter.unusedSimpArgs false
def FGetPostX (w : World) (l : List UInt8) (e : Ending) (w' : World) : Prop := Step No w w' ∧
  ((∃ m ev env nv, SaysF m l ∧ e = .returned (.tuple #[.agg (msgCells m ev env nv), .int .i64 0]) ∧ MsgR w' m ev env nv) ∨
   ((∀ m, ¬ SaysF m l) ∧ e = .returned (.tuple #[.agg (msgCells zM zV zV zV), .int .i64 1800])))
def secF (t : List UInt8) (p : SF) : Int × SF := if p.2 then (0, p) else digF 58 t p
theorem frame_digs {m : MsgD} {l : List UInt8} (h : SaysF m l) : ∃ p1 p2 : Nat, digF 58 l (0, false) = (((putS m).length : Int), p1, false) ∧ digF 58 l (p1, false) = (sumL (putS m), p2, false) ∧ l.drop p2 = putS m ∧ (l.length : Int) - p2 = (putS m).length := by
  have hs := put_short h.1
  have e : l = itoa ((putS m).length : Int) ++ 58 :: (itoa (sumL (putS m)) ++ 58 :: putS m) := h.2.symm
  have hl : l.length = (itoa ((putS m).length : Int)).length + (itoa (sumL (putS m))).length + 2 + (putS m).length := by rw [← h.2]; exact wrap_len' _
  obtain ⟨h1, h2⟩ := digF_back 58 (by decide) (x := ((putS m).length : Int)) ⟨by omega, by omega⟩ l (itoa (sumL (putS m)) ++ 58 :: putS m) 0 (by rw [List.drop_zero]; exact e) false
  obtain ⟨h3, h4⟩ := digF_back 58 (by decide) (sum_small (putS m)) l (putS m) _ h2 false
  exact ⟨_, _, h1, h3, h4, by omega⟩
theorem says_kids {k : MsgD} {t : List UInt8} (h : SaysP k t) : ∀ x ∈ k.tree.nodes, x.kids.length ≤ 140737488355328 := fun x hx => by
  have e : k = (takeM (t, false)).1 := by rw [h.got]
  rw [e] at hx
  rcases msg_nodes (t, false) with hn | ⟨st', hn⟩
  · rw [hn] at hx
    simp at hx
  · rw [hn] at hx
    obtain ⟨st2, rfl⟩ := eachR_mem hx
    have := eachR_len (one := numR) (TakeN.run st2 4)
    rw [TakeN.take_is]
    simp only
    omega
theorem ext_from (S : ByteArray) (q : Nat) (h : q ≤ S.size) : S.extract q S.size = ⟨(S.data.toList.drop q).toArray⟩ := by
  have := ext_mid S q (S.size - q)
  rw [show q + (S.size - q) = S.size by omega] at this
  rw [this]
  congr 2
  exact List.take_of_length_le (by rw [List.length_drop, lenS]; exact Nat.le_refl _)
theorem dig_x {S : ByteArray} {w wr : World} {b : Nat} {p : SF} (hS : S.size ≤ 140737488355328) (h : FK S w b p wr) {x : Int} {s : SF} (hd : digF 58 S.data.toList p = (x, s)) : Calls Tryz.prog 81 #[.pointer (some ⟨b, 0, none⟩), .int .u8 58] wr fun e w' => e = .returned (.int .i64 x) ∧ FK S wr b s w' := by
  refine (digits_any S hS wr b p.1 p.2 58 h.rep (h.far' hS)).mono fun e w' hp => ?_
  have hf := digF_end 58 h.farL
  rw [hd] at hp hf
  rw [lenS] at hf
  exact (FK.start h.rep h.far).next hp hf
/-- What GetMsg hands back. -/
theorem get_what {w w' : World} {t : List UInt8} {e : Ending} (h : GetPostX w t e w') : ∃ k ev env nv E, e = .returned (.tuple #[.agg (msgCells k ev env nv), .int .i64 E]) ∧ MsgW w.heap.size w' k ev env nv ∧ Step No w w' ∧ (∀ x ∈ k.tree.nodes, x.kids.length ≤ 140737488355328) ∧ Hid ((E = 0 ∧ SaysP k t) ∨ (E = 1700 ∧ ∀ m, ¬ SaysP m t)) := by
  rcases h.2 with ⟨m, ev, env, nv, hm, rfl, hr⟩ | ⟨hno, rfl⟩
  · exact ⟨m, ev, env, nv, 0, rfl, hr, h.1, says_kids hm, Lib.hid (.inl ⟨rfl, hm⟩)⟩
  · exact ⟨zM, zV, zV, zV, 1700, rfl, ⟨RowO.nil _, ⟨[], rfl, RowO.nil _⟩, ⟨[], rfl, RowO.nil _⟩, Nat.zero_le _⟩, h.1, fun x hx => absurd hx (by simp [zM, noTree]), Lib.hid (.inr ⟨rfl, hno⟩)⟩
theorem fput_two {m : MsgD} {w w' : World} {e : Ending} (h : FPutPost m w e w') : ∃ (U : ByteArray) (E : Int), e = .returned (.tuple #[.string U, .int .i64 E]) ∧ Step No w w' ∧ Hid ((putOk m = true ∧ U = ba (wrapS (putS m)) ∧ E = 0) ∨ (putOk m = false ∧ E = 1800)) := by
  rcases h.2 with ⟨h1, rfl⟩ | ⟨h1, rfl⟩
  · exact ⟨_, _, rfl, h.1, Lib.hid (.inl ⟨h1, rfl, rfl⟩)⟩
  · exact ⟨_, _, rfl, h.1, Lib.hid (.inr ⟨h1, rfl⟩)⟩
set_option maxHeartbeats 16000000 in
set_option maxRecDepth 100000 in
theorem GetFrame_x (hMay : MayAll) (S : ByteArray) (hS0 : S.size ≤ 140737488351232) (w : World) : Calls Tryz.prog 27 #[.string S] w (FGetPostX w S.data.toList) := by
  have hS : S.size ≤ 140737488355328 := by omega
  have HMay := Lib.hid hMay
  clear hMay
  obtain ⟨x1, ⟨q1, bd1⟩, h1⟩ : ∃ x s', digF 58 S.data.toList (0, false) = (x, s') := ⟨_, _, rfl⟩
  obtain ⟨x2, s2, h2⟩ : ∃ x s', secF S.data.toList (q1, bd1) = (x, s') := ⟨_, _, rfl⟩
  have HNo := Lib.hid (fun (m : MsgD) (hm : SaysF m S.data.toList) => show s2.2 = false ∧ S.data.toList.drop s2.1 = putS m ∧ (S.data.toList.length : Int) - s2.1 = x1 ∧ sumL (putS m) = x2 from by
    obtain ⟨p1, p2, d1, d2, d3, d4⟩ := frame_digs hm
    rw [h1] at d1
    injection d1 with e1 e2
    injection e2 with e2 e3
    subst e3
    subst e2
    subst e1
    unfold secF at h2
    rw [if_neg (show ¬ (((_, false) : SF).2 = true) from Bool.false_ne_true), d2] at h2
    injection h2 with e1 e2
    subst e1 e2
    exact ⟨rfl, d3, d4, rfl⟩)
  have D1 := Lib.hid h1
  have D2 := Lib.hid h2
  clear h1 h2
  go_enter Tryz.func27, Tryz.ntmps27
  go_upto_region 1 with (fail)
  have hr1 := blk_new w (.cells mZ TM)
  have hs1 : Step No w (w.alloc (.cells mZ TM)) := (Step.refl No w).alloc _
  have hz1 : (w.alloc (.cells mZ TM)).heap.size = w.heap.size + 1 := by simp
  simp only [mZ] at hr1 hs1 hz1
  generalize hW : World.alloc w _ = w1 at *
  clear hW
  obtain ⟨r, hr⟩ : ∃ r, w.heap.size = r := ⟨_, rfl⟩
  have HRr := Lib.hid hr
  have HLE : Hid (w.heap.size ≤ r) := Lib.hid (Nat.le_of_eq hr)
  rw [hr] at hr1 hz1 ⊢
  have HR1 : Hid (w1.heap[r]? = some (.cells mZ TM (0, 0))) := Lib.hid hr1
  have HS1 := Lib.hid hs1
  have HZ1 := Lib.hid hz1
  clear hr hr1 hs1 hz1
  have hf0 : FK S (w1.alloc (.cells #[.string S, .int .i64 0, .bool false] TF)) w1.heap.size (0, false) (w1.alloc (.cells #[.string S, .int .i64 0, .bool false] TF)) := ⟨blk_new _ _, Nat.zero_le _, Step.refl _ _⟩
  have hr2 := blk_alloc HR1.out (.cells #[.string S, .int .i64 0, .bool false] TF)
  have hs2 : Step No w (w1.alloc (.cells #[.string S, .int .i64 0, .bool false] TF)) := HS1.out.alloc _
  go_wp2_with fail
  generalize hW : World.alloc w1 _ = w2 at *
  generalize hb : w1.heap.size = b at *
  have HF0 := Lib.hid hf0
  have HR2 := Lib.hid hr2
  have HS2 := Lib.hid hs2
  have HBE : Hid (w.heap.size < b) := Lib.hid (by have := HZ1.out; have := HRr.out; omega)
  clear hf0 hr2 hs2 hW hb
  refine (dig_x hS HF0.out D1.out).mono ?_
  rintro e w3 ⟨rfl, hk⟩
  have HF3 := Lib.hid hk
  obtain ⟨c0, c1, c2', f1, f2⟩ := f_cells hk.rep
  clear hk
  go_upto_if 20 with (fail)
  go_cut [6] (fun s6 wx => s6 = .int .i64 x2 ∧ FK S w2 b s2 wx)
  case first =>
    cases bd1 with
    | true =>
      have HE2 : Hid (x2 = 0 ∧ s2 = (q1, true)) := Lib.hid (by
        have := D2.out
        unfold secF at this
        rw [if_pos rfl] at this
        injection this with e1 e2
        exact ⟨e1.symm, e2.symm⟩)
      go_wp2
      go_meet
      exact ⟨by rw [HE2.out.1], by rw [HE2.out.2]; exact HF3.out⟩
    | false =>
      have HD2 : Hid (digF 58 S.data.toList (q1, false) = (x2, s2)) := Lib.hid (by
        have := D2.out
        unfold secF at this
        rw [if_neg (show ¬ (((q1, false) : SF).2 = true) from Bool.false_ne_true)] at this
        exact this)
      go_wp2_with fail
      refine (dig_x hS HF3.out HD2.out).mono ?_
      rintro e w4 ⟨rfl, hk⟩
      have HF4 := Lib.hid (HF3.out.then hk)
      clear hk c0 c1 c2' f1 f2
      go_wp2
      go_meet
      exact ⟨rfl, HF4.out⟩
  case rest =>
    obtain ⟨rfl, hf4⟩ := hcut
    obtain ⟨w4, hw4⟩ : ∃ w4, w4 = wc := ⟨_, rfl⟩
    subst hw4
    have HF4 := Lib.hid hf4
    clear hf4 c0 c1 c2' f1 f2 HF3
    obtain ⟨q, bad⟩ := s2
    have hq := HF4.out.far
    simp only at hq
    have hex := ext_from S q hq
    obtain ⟨c0, c1, c2', f1, f2⟩ := f_cells HF4.out.rep
    obtain ⟨t, ht⟩ : ∃ t, S.data.toList.drop q = t := ⟨_, rfl⟩
    have hTl : t.length ≤ S.size := by rw [← ht, List.length_drop, lenS]; omega
    rw [ht] at hex
    have hsz : (⟨t.toArray⟩ : ByteArray).size = t.length := rfl
    simp only at HNo
    rw [ht, lenS] at HNo
    have hq0 : (0 : Int) ≤ q := by omega
    have hq1 : (q : Int) ≤ S.size := by omega
    have hwr : IntKind.i64.wrap ((S.size : Int) - q) = (S.size : Int) - q := IntWalk.i64_in _ ⟨by omega, by omega⟩
    clear ht
    go_upto_region 6 with (fail)
    go_cut [48] (fun s9 wx => ∃ v : Bool, s9 = .bool v ∧ w4 = wx ∧ (v = true → ∀ m, ¬ SaysF m S.data.toList) ∧ (v = false → bad = false))
    case first =>
      cases bad with
      | true =>
        go_wp2
        go_meet
        exact ⟨true, rfl, rfl, fun _ m hm => (by have := (HNo.out m hm).1; cases this), fun h => (by cases h)⟩
      | false =>
        by_cases hx : (S.size : Int) - q = x1
        · have hxb : ((S.size : Int) - q != x1) = false := by rw [bne_eq_false_iff_eq]; exact hx
          clear hx
          go_wp2_with fail
          refine (SumWalk.refsum_any ⟨t.toArray⟩ _ (by show t.length ≤ _; omega)).mono ?_
          rintro e w' ⟨rfl, rfl⟩
          simp only
          obtain ⟨u, hu⟩ : ∃ u, sumL t = u := ⟨_, rfl⟩
          rw [hu]
          by_cases hy : u = x2
          · have hyb : (u != x2) = false := by rw [bne_eq_false_iff_eq]; exact hy
            clear hy hu
            go_wp2
            go_meet
            exact ⟨false, rfl, rfl, fun h => (by cases h), fun _ => (by first | rfl | trivial)⟩
          · have hyb : (u != x2) = true := by rw [bne_iff_ne]; exact hy
            have HY : Hid (∀ m, ¬ SaysF m S.data.toList) := Lib.hid fun m hm => hy (by
              obtain ⟨-, e1, -, e2⟩ := HNo.out m hm
              rw [← hu, e1]
              exact e2)
            clear hy hu
            go_wp2
            go_meet
            exact ⟨true, rfl, rfl, fun _ => HY.out, fun h => (by cases h)⟩
        · have hxb : ((S.size : Int) - q != x1) = true := by rw [bne_iff_ne]; exact hx
          have HY : Hid (∀ m, ¬ SaysF m S.data.toList) := Lib.hid fun m hm => hx (HNo.out m hm).2.2.1
          clear hx
          go_wp2
          go_meet
          exact ⟨true, rfl, rfl, fun _ => HY.out, fun h => (by cases h)⟩
    case rest =>
      obtain ⟨v, rfl, hw, hv1, hv2⟩ := hcut
      subst hw
      have HR4 := Lib.hid (HF4.out.step.blk HR2.out (blk_ne HR2.out HF0.out.blk (by decide)))
      have HS4 : Hid (Step No w w4) := Lib.hid (HS2.out.trans HF4.out.step (fun i e hlt => absurd hlt (by have := HBE.out; omega)))
      cases v with
      | true =>
        have HN := Lib.hid (hv1 rfl)
        have HR := HR4
        have HST := HS4
        clear hv1 hv2 hex hTl hsz hwr
        have k0 := blk_cell HR.out 0
        have y0 := blk_free HR.out 0
        have k1 := blk_cell HR.out 1
        have y1 := blk_free HR.out 1
        have k2 := blk_cell HR.out 2
        have y2 := blk_free HR.out 2
        have k3 := blk_cell HR.out 3
        have y3 := blk_free HR.out 3
        have k4 := blk_cell HR.out 4
        have y4 := blk_free HR.out 4
        have k5 := blk_cell HR.out 5
        have y5 := blk_free HR.out 5
        have k6 := blk_cell HR.out 6
        have y6 := blk_free HR.out 6
        have k7 := blk_cell HR.out 7
        have y7 := blk_free HR.out 7
        have k8 := blk_cell HR.out 8
        have y8 := blk_free HR.out 8
        have k9 := blk_cell HR.out 9
        have y9 := blk_free HR.out 9
        have k10 := blk_cell HR.out 10
        have y10 := blk_free HR.out 10
        have k11 := blk_cell HR.out 11
        have y11 := blk_free HR.out 11
        have k12 := blk_cell HR.out 12
        have y12 := blk_free HR.out 12
        simp [mZ] at k0 k1 k2 k3 k4 k5 k6 k7 k8 k9 k10 k11 k12
        have HD := Lib.hid (filled (vs := [.int .i64 0, .int .i64 0, .int .i64 0, .int .i64 0, .int .i64 0, .int .i64 0, .bool false, .slice none 0 0, .slice none 0 0, .string ⟨#[]⟩, .int .i64 0, .int .i64 0, .slice none 0 0]) HR.out rfl HLE.out HST.out)
        have HM : Hid True := Lib.hid trivial
        simp only [sets, Nat.reduceAdd] at HD HM
        clear HR HST
        go_wp2
        generalize hW : World.setCell (World.setCell (World.setCell (World.setCell (World.setCell (World.setCell (World.setCell (World.setCell (World.setCell (World.setCell (World.setCell (World.setCell (World.setCell _ ⟨r, 0, none⟩ _) ⟨r, 1, none⟩ _) ⟨r, 2, none⟩ _) ⟨r, 3, none⟩ _) ⟨r, 4, none⟩ _) ⟨r, 5, none⟩ _) ⟨r, 6, none⟩ _) ⟨r, 7, none⟩ _) ⟨r, 8, none⟩ _) ⟨r, 9, none⟩ _) ⟨r, 10, none⟩ _) ⟨r, 11, none⟩ _) ⟨r, 12, none⟩ _ = W at *
        clear hW
        have r0 := blk_cell HD.out.1 0
        have r1 := blk_cell HD.out.1 1
        have r2 := blk_cell HD.out.1 2
        have r3 := blk_cell HD.out.1 3
        have r4 := blk_cell HD.out.1 4
        have r5 := blk_cell HD.out.1 5
        have r6 := blk_cell HD.out.1 6
        have r7 := blk_cell HD.out.1 7
        have r8 := blk_cell HD.out.1 8
        have r9 := blk_cell HD.out.1 9
        have r10 := blk_cell HD.out.1 10
        have r11 := blk_cell HD.out.1 11
        have r12 := blk_cell HD.out.1 12
        simp at r0 r1 r2 r3 r4 r5 r6 r7 r8 r9 r10 r11 r12
        exact bodyPost_ret (by simp [results, Tryz.results27, go_sem, r0, r1, r2, r3, r4, r5, r6, r7, r8, r9, r10, r11, r12]; rfl) rfl (⟨HD.out.2.1, .inr ⟨HN.out, rfl⟩⟩)
      | false =>
        obtain rfl := hv2 rfl
        clear hv1 hv2 hwr
        go_wp2_with fail
        refine (GetMsg_x HMay.out ⟨t.toArray⟩ (by show t.length ≤ _; omega) w4).mono ?_
        rintro e w5 hp
        obtain ⟨k, ev, env, nv, E, rfl, hrd, hs5, hkk, HW⟩ := get_what hp
        obtain ⟨A1, n1, rfl, -, -⟩ := comps_len (msg_reads hrd).edit
        obtain ⟨A2, n2, rfl, -, -⟩ := sl_len (msg_reads hrd).entries
        obtain ⟨A3, n3, rfl, -, -⟩ := sl_len (msg_reads hrd).nodes
        have HRd := Lib.hid (msg_base hrd HS4.out.size)
        have HKk := Lib.hid hkk
        have HR5 := Lib.hid (hs5.blk HR4.out (fun f => f))
        have HS5 : Hid (Step No w w5) := Lib.hid (HS4.out.trans hs5 (fun _ f _ => f))
        clear hp hrd hkk hs5 c0 c1 c2' f1 f2 hex HR4 HS4
        obtain ⟨kd, cl, rv, sq, fm, ls, rf, es, en, tx, ⟨rt, nx, ns⟩⟩ := k
        simp only [msgCells]
        go_upto_region 9 with (fail)
        have hc := blk_new w5 (.cells #[.int .i64 kd, .int .i64 cl, .int .i64 rv, .int .i64 sq, .int .i64 fm, .int .i64 ls, .bool rf, .slice A1 es.length n1, .slice A2 en.length n2, .string tx, .int .i64 rt, .int .i64 nx, .slice A3 ns.length n3] TM)
        have hs6 : Step No w5 (w5.alloc (.cells #[.int .i64 kd, .int .i64 cl, .int .i64 rv, .int .i64 sq, .int .i64 fm, .int .i64 ls, .bool rf, .slice A1 es.length n1, .slice A2 en.length n2, .string tx, .int .i64 rt, .int .i64 nx, .slice A3 ns.length n3] TM)) := (Step.refl No w5).alloc _
        generalize hW : World.alloc w5 _ = w6 at *
        generalize w5.heap.size = bC at *
        clear hW
        have HC6 := Lib.hid hc
        have HRd6 := Lib.hid (HRd.out.go hs6 (Types.no _ _ _))
        have HR6 := Lib.hid (hs6.blk HR5.out (fun f => f))
        have HS6 : Hid (Step No w w6) := Lib.hid (HS5.out.trans hs6 (fun _ f _ => f))
        clear hc hs6 HRd HR5 HS5
        obtain ⟨a0, a1, a2, a3, a4, a5, a6, a7, a8, a9, a10, a11, a12⟩ := C13.cells13 HC6.out
        go_wp2_with fail
        refine (fput_ref _ ⟨kd, cl, rv, sq, fm, ls, rf, es, en, tx, ⟨rt, nx, ns⟩⟩ _ _ _ (msg_reads HRd6.out) (HMay.out _ _ _ _ _ (msg_reads HRd6.out) HKk.out)).mono ?_
        rintro e w7 hp
        obtain ⟨U, E2, rfl, hs7, HUE⟩ := fput_two hp
        have HR : Hid (w7.heap[r]? = some (.cells mZ TM (0, 0))) := Lib.hid (hs7.blk HR6.out (fun f => f))
        have HST : Hid (Step No w w7) := Lib.hid (HS6.out.trans hs7 (fun _ f _ => f))
        have HM0 := Lib.hid (HRd6.out.go hs7 (Types.no _ _ _))
        have HC7 := Lib.hid (hs7.blk HC6.out (fun f => f))
        clear a0 a1 a2 a3 a4 a5 a6 a7 a8 a9 a10 a11 a12 hp hs7 HC6 HRd6 HR6 HS6
        go_upto_region 10 with (fail)
        go_cut [75] (fun s9 wx => ∃ v : Bool, s9 = .bool v ∧ w7 = wx ∧ (v = true → ∀ m, ¬ SaysF m S.data.toList) ∧ (v = false → SaysF ⟨kd, cl, rv, sq, fm, ls, rf, es, en, tx, ⟨rt, nx, ns⟩⟩ S.data.toList))
        case first =>
          clear HM0 HC7
          rcases HW.out with ⟨rfl, hsp⟩ | ⟨rfl, hno⟩
          · have HSp := Lib.hid hsp
            rcases HUE.out with ⟨hok, hU, rfl⟩ | ⟨hno, -⟩
            · rw [hsp.2] at hU
              by_cases hq2 : wrapS t = S.data.toList
              · have HQ := Lib.hid hq2
                have hq3 : ((U.toList == S.toList) : Bool) = true := by rw [hU, hq2]; simp [ba]
                have hq4 : ((U.toList != S.toList) : Bool) = false := by simp only [bne, hq3]; rfl
                clear hq2 hU hsp
                go_wp2
                go_meet
                exact ⟨false, rfl, rfl, fun h => (by cases h), fun _ => SaysF.of HSp.out HQ.out⟩
              · have HQ := Lib.hid hq2
                have hq3 : ((U.toList == S.toList) : Bool) = false := by
                  rw [hU, beq_eq_false_iff_ne]
                  intro e
                  refine HQ.out ?_
                  have h2 : (ba (wrapS t)).toList = (⟨S.data.toList.toArray⟩ : ByteArray).toList := by rw [e]
                  exact (str_eq _ _).1 (by rw [beq_iff_eq]; exact h2)
                have hq4 : ((U.toList != S.toList) : Bool) = true := by simp only [bne, hq3]; rfl
                have HY : Hid (∀ m, ¬ SaysF m S.data.toList) := Lib.hid fun m hm => HQ.out (by
                  have e1 := (HNo.out m hm).2.1
                  rw [e1]
                  exact hm.2)
                clear hq2 hU hsp
                go_wp2
                go_meet
                exact ⟨true, rfl, rfl, fun _ => HY.out, fun h => (by cases h)⟩
            · exact absurd hsp.1 (by rw [hno]; exact Bool.false_ne_true)
          · have HY : Hid (∀ m, ¬ SaysF m S.data.toList) := Lib.hid fun m hm => hno m ⟨hm.1, (HNo.out m hm).2.1.symm⟩
            clear hno
            go_wp2
            go_meet
            exact ⟨true, rfl, rfl, fun _ => HY.out, fun h => (by cases h)⟩
        case rest =>
          obtain ⟨v, rfl, hw, hv1, hv2⟩ := hcut
          subst hw
          cases v with
          | true =>
            have HN := Lib.hid (hv1 rfl)
            clear hv1 hv2 HM0 HC7
            have k0 := blk_cell HR.out 0
            have y0 := blk_free HR.out 0
            have k1 := blk_cell HR.out 1
            have y1 := blk_free HR.out 1
            have k2 := blk_cell HR.out 2
            have y2 := blk_free HR.out 2
            have k3 := blk_cell HR.out 3
            have y3 := blk_free HR.out 3
            have k4 := blk_cell HR.out 4
            have y4 := blk_free HR.out 4
            have k5 := blk_cell HR.out 5
            have y5 := blk_free HR.out 5
            have k6 := blk_cell HR.out 6
            have y6 := blk_free HR.out 6
            have k7 := blk_cell HR.out 7
            have y7 := blk_free HR.out 7
            have k8 := blk_cell HR.out 8
            have y8 := blk_free HR.out 8
            have k9 := blk_cell HR.out 9
            have y9 := blk_free HR.out 9
            have k10 := blk_cell HR.out 10
            have y10 := blk_free HR.out 10
            have k11 := blk_cell HR.out 11
            have y11 := blk_free HR.out 11
            have k12 := blk_cell HR.out 12
            have y12 := blk_free HR.out 12
            simp [mZ] at k0 k1 k2 k3 k4 k5 k6 k7 k8 k9 k10 k11 k12
            have HD := Lib.hid (filled (vs := [.int .i64 0, .int .i64 0, .int .i64 0, .int .i64 0, .int .i64 0, .int .i64 0, .bool false, .slice none 0 0, .slice none 0 0, .string ⟨#[]⟩, .int .i64 0, .int .i64 0, .slice none 0 0]) HR.out rfl HLE.out HST.out)
            have HM : Hid True := Lib.hid trivial
            simp only [sets, Nat.reduceAdd] at HD HM
            clear HR HST
            go_wp2
            generalize hW : World.setCell (World.setCell (World.setCell (World.setCell (World.setCell (World.setCell (World.setCell (World.setCell (World.setCell (World.setCell (World.setCell (World.setCell (World.setCell _ ⟨r, 0, none⟩ _) ⟨r, 1, none⟩ _) ⟨r, 2, none⟩ _) ⟨r, 3, none⟩ _) ⟨r, 4, none⟩ _) ⟨r, 5, none⟩ _) ⟨r, 6, none⟩ _) ⟨r, 7, none⟩ _) ⟨r, 8, none⟩ _) ⟨r, 9, none⟩ _) ⟨r, 10, none⟩ _) ⟨r, 11, none⟩ _) ⟨r, 12, none⟩ _ = W at *
            clear hW
            have r0 := blk_cell HD.out.1 0
            have r1 := blk_cell HD.out.1 1
            have r2 := blk_cell HD.out.1 2
            have r3 := blk_cell HD.out.1 3
            have r4 := blk_cell HD.out.1 4
            have r5 := blk_cell HD.out.1 5
            have r6 := blk_cell HD.out.1 6
            have r7 := blk_cell HD.out.1 7
            have r8 := blk_cell HD.out.1 8
            have r9 := blk_cell HD.out.1 9
            have r10 := blk_cell HD.out.1 10
            have r11 := blk_cell HD.out.1 11
            have r12 := blk_cell HD.out.1 12
            simp at r0 r1 r2 r3 r4 r5 r6 r7 r8 r9 r10 r11 r12
            exact bodyPost_ret (by simp [results, Tryz.results27, go_sem, r0, r1, r2, r3, r4, r5, r6, r7, r8, r9, r10, r11, r12]; rfl) rfl (⟨HD.out.2.1, .inr ⟨HN.out, rfl⟩⟩)
          | false =>
            have HQ := Lib.hid (hv2 rfl)
            clear hv1 hv2
            obtain ⟨g0, g1, g2, g3, g4, g5, g6, g7, g8, g9, g10, g11, g12⟩ := C13.cells13 HC7.out
            have k0 := blk_cell HR.out 0
            have y0 := blk_free HR.out 0
            have k1 := blk_cell HR.out 1
            have y1 := blk_free HR.out 1
            have k2 := blk_cell HR.out 2
            have y2 := blk_free HR.out 2
            have k3 := blk_cell HR.out 3
            have y3 := blk_free HR.out 3
            have k4 := blk_cell HR.out 4
            have y4 := blk_free HR.out 4
            have k5 := blk_cell HR.out 5
            have y5 := blk_free HR.out 5
            have k6 := blk_cell HR.out 6
            have y6 := blk_free HR.out 6
            have k7 := blk_cell HR.out 7
            have y7 := blk_free HR.out 7
            have k8 := blk_cell HR.out 8
            have y8 := blk_free HR.out 8
            have k9 := blk_cell HR.out 9
            have y9 := blk_free HR.out 9
            have k10 := blk_cell HR.out 10
            have y10 := blk_free HR.out 10
            have k11 := blk_cell HR.out 11
            have y11 := blk_free HR.out 11
            have k12 := blk_cell HR.out 12
            have y12 := blk_free HR.out 12
            simp [mZ] at k0 k1 k2 k3 k4 k5 k6 k7 k8 k9 k10 k11 k12
            have HD := Lib.hid (filled (vs := [.int .i64 kd, .int .i64 cl, .int .i64 rv, .int .i64 sq, .int .i64 fm, .int .i64 ls, .bool rf, .slice A1 es.length n1, .slice A2 en.length n2, .string tx, .int .i64 rt, .int .i64 nx, .slice A3 ns.length n3]) HR.out rfl HLE.out HST.out)
            have HM := Lib.hid (HM0.out.go HD.out.2.2 (Types.at HR.out (by decide)))
            simp only [sets, Nat.reduceAdd] at HD HM
            clear HR HST
            go_wp2
            generalize hW : World.setCell (World.setCell (World.setCell (World.setCell (World.setCell (World.setCell (World.setCell (World.setCell (World.setCell (World.setCell (World.setCell (World.setCell (World.setCell _ ⟨r, 0, none⟩ _) ⟨r, 1, none⟩ _) ⟨r, 2, none⟩ _) ⟨r, 3, none⟩ _) ⟨r, 4, none⟩ _) ⟨r, 5, none⟩ _) ⟨r, 6, none⟩ _) ⟨r, 7, none⟩ _) ⟨r, 8, none⟩ _) ⟨r, 9, none⟩ _) ⟨r, 10, none⟩ _) ⟨r, 11, none⟩ _) ⟨r, 12, none⟩ _ = W at *
            clear hW
            have r0 := blk_cell HD.out.1 0
            have r1 := blk_cell HD.out.1 1
            have r2 := blk_cell HD.out.1 2
            have r3 := blk_cell HD.out.1 3
            have r4 := blk_cell HD.out.1 4
            have r5 := blk_cell HD.out.1 5
            have r6 := blk_cell HD.out.1 6
            have r7 := blk_cell HD.out.1 7
            have r8 := blk_cell HD.out.1 8
            have r9 := blk_cell HD.out.1 9
            have r10 := blk_cell HD.out.1 10
            have r11 := blk_cell HD.out.1 11
            have r12 := blk_cell HD.out.1 12
            simp at r0 r1 r2 r3 r4 r5 r6 r7 r8 r9 r10 r11 r12
            exact bodyPost_ret (by simp [results, Tryz.results27, go_sem, r0, r1, r2, r3, r4, r5, r6, r7, r8, r9, r10, r11, r12]; rfl) rfl (⟨HD.out.2.1, .inl ⟨_, _, _, _, HQ.out, rfl, msg_reads HM.out⟩⟩)
end Go.Proofs.YtjeamfoicpgkhaaGreatDoor.RefGetFr
