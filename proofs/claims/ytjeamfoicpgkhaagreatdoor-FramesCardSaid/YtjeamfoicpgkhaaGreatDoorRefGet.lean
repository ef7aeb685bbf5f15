/- The reference's GetMsg; what it says of whether a message may be is a premise. -/
import Derived.Test.YtjeamfoicpgkhaaGreatDoorLumpG
import Derived.Test.YtjeamfoicpgkhaaGreatDoorRefPut
namespace Go.Proofs.YtjeamfoicpgkhaaGreatDoor.RefGet
open Go.RowKit Go.Lib Go.Proofs.YtjeamfoicpgkhaaGreatDoor.Mem Go.Proofs.YtjeamfoicpgkhaaGreatDoor.Read Go.Proofs.YtjeamfoicpgkhaaGreatDoor.Dec Go.Proofs.YtjeamfoicpgkhaaGreatDoor.Take Go.Proofs.YtjeamfoicpgkhaaGreatDoor.Tree Go.Proofs.YtjeamfoicpgkhaaGreatDoor.Data Go.Proofs.YtjeamfoicpgkhaaGreatDoor.Pk Go.Proofs.YtjeamfoicpgkhaaGreatDoor.OwnR Go.Proofs.YtjeamfoicpgkhaaGreatDoor.PkR Go.Proofs.YtjeamfoicpgkhaaGreatDoor.CompR Go.Proofs.YtjeamfoicpgkhaaGreatDoor.MsgR Go.Proofs.YtjeamfoicpgkhaaGreatDoor.May Go.Proofs.YtjeamfoicpgkhaaGreatDoor.Each Go.Proofs.YtjeamfoicpgkhaaGreatDoor.EachS Go.Proofs.YtjeamfoicpgkhaaGreatDoor.TakeE Go.Proofs.YtjeamfoicpgkhaaGreatDoor.TakeM Go.Proofs.YtjeamfoicpgkhaaGreatDoor.RefTaker Go.Proofs.YtjeamfoicpgkhaaGreatDoor.RefTk Go.Proofs.YtjeamfoicpgkhaaGreatDoor.RefTs
open Go.Proofs.YtjeamfoicpgkhaaGreatDoor.Get (SaysP zM zV filled msg_reads msg_base str_eq str_ne)
open Go.Proofs.YtjeamfoicpgkhaaGreatDoor.Put (PutPost)
open Go.Proofs.YtjeamfoicpgkhaaGreatDoor.RefPut (MayAt put_ref)
open Go.Proofs.YtjeamfoicpgkhaaGreatDoor.MayLen (putOk)
open Go.Proofs.YtjeamfoicpgkhaaGreatDoor.CopyM (set_new)
set_option linter.unusedVariables false
set_option linter.unusedSimpArgs false
def GetPostX (w : World) (l : List UInt8) (e : Ending) (w' : World) : Prop := Step No w w' ∧
  ((∃ m ev env nv, SaysP m l ∧ e = .returned (.tuple #[.agg (msgCells m ev env nv), .int .i64 0]) ∧ MsgW w.heap.size w' m ev env nv) ∨
   ((∀ m, ¬ SaysP m l) ∧ e = .returned (.tuple #[.agg (msgCells zM zV zV zV), .int .i64 1700])))
def MayAll : Prop := ∀ (m : MsgD) (ev env nv : Value) (w : World), MsgR w m ev env nv → (∀ x ∈ m.tree.nodes, x.kids.length ≤ 140737488355328) → MayAt m ev env nv w
theorem not_says {l : List UInt8} {m : MsgD} {st : SF} (h : msgF l = (m, st)) (hn : st.2 = true ∨ putOk m = false ∨ putS m ≠ l) (k : MsgD) : ¬ SaysP k l := fun hs => by
  have hb := msg_b (msg_wf hs.says.1)
  rw [hs.2, h] at hb
  obtain ⟨rfl, h2⟩ := hb
  rcases hn with h | h | h
  · simp only at h2
    rw [h2] at h
    cases h
  · rw [hs.1] at h
    cases h
  · exact h hs.2
theorem get_not {w w' : World} {l : List UInt8} {m : MsgD} {st : SF} (hs : Step No w w') (h : msgF l = (m, st)) (hn : st.2 = true ∨ putOk m = false ∨ putS m ≠ l) : GetPostX w l (.returned (.tuple #[.agg (msgCells zM zV zV zV), .int .i64 1700])) w' := ⟨hs, .inr ⟨not_says h hn, rfl⟩⟩
theorem get_len {w w' : World} {l : List UInt8} (hs : Step No w w') (h : l.length < 1 ∨ 1000000 < l.length) : GetPostX w l (.returned (.tuple #[.agg (msgCells zM zV zV zV), .int .i64 1700])) w' := ⟨hs, .inr ⟨fun m hm => by
  have h1 := hm.1
  unfold putOk at h1
  rw [Bool.and_eq_true, decide_eq_true_eq, hm.2] at h1
  have h2 : 1 ≤ (putS m).length := by simp [putS]
  rw [hm.2] at h2
  omega, rfl⟩⟩
theorem put_two {m : MsgD} {e : Ending} (h : (putOk m = true ∧ e = .returned (.tuple #[.string (ba (putS m)), .int .i64 0])) ∨ (putOk m = false ∧ e = .returned (.tuple #[.string ⟨#[]⟩, .int .i64 1700]))) : ∃ (U : ByteArray) (E : Int), e = .returned (.tuple #[.string U, .int .i64 E]) ∧ Hid ((putOk m = true ∧ U = ba (putS m) ∧ E = 0) ∨ (putOk m = false ∧ E = 1700)) := by
  rcases h with ⟨h1, rfl⟩ | ⟨h1, rfl⟩
  · exact ⟨_, _, rfl, Lib.hid (.inl ⟨h1, rfl, rfl⟩)⟩
  · exact ⟨_, _, rfl, Lib.hid (.inr ⟨h1, rfl⟩)⟩
theorem node_kids (t : List UInt8) (p : SF) : (nodeF t p).1.kids.length ≤ 1000000000 := by
  have h := numsF_len t (digF 44 t (digF 44 t (digF 44 t (digF 44 t p).2).2).2).2
  unfold nodeF
  simp only
  exact h
theorem tree_kids {t : List UInt8} {p s : SF} {T : TreeD} (h : treeF t p = (T, s)) : ∀ x ∈ T.nodes, x.kids.length ≤ 140737488355328 := fun x hx => by
  have e : T = (treeF t p).1 := by rw [h]
  rw [e] at hx
  unfold treeF rowF at hx
  simp only at hx
  obtain ⟨q, rfl⟩ := eachF_mem _ _ _ hx
  have := node_kids t q
  omega
theorem msg_P {t : List UInt8} {s1 s2 s3 s4 : SF} {x1 x2 x3 : Int} {cs : List CompD} (hg : t.getD 0 0 = 80) (h1 : digF 44 t (1, false) = (x1, s1)) (h2 : digF 44 t s1 = (x2, s2)) (h3 : digF 44 t s2 = (x3, s3)) (h4 : compsX t s3 = (cs, s4)) : msgF t = (⟨0, x1, x2, x3, 0, 0, false, cs, [], ba [], noTree⟩, s4) := by
  unfold msgF
  rw [if_pos hg]
  simp only [h1, h2, h3, h4]
theorem msg_C {t : List UInt8} {s1 s2 s4 : SF} {x1 x2 : Int} {es : List EntryD} (hg : t.getD 0 0 = 67) (h1 : digF 44 t (1, false) = (x1, s1)) (h2 : digF 44 t s1 = (x2, s2)) (h4 : rowF (entryF t) t s2 = (es, s4)) : msgF t = (⟨1, x1, x2, 0, 0, 0, false, [], es, ba [], noTree⟩, s4) := by
  unfold msgF
  rw [if_neg (by rw [hg]; decide), if_pos hg]
  simp only [h1, h2, h4]
theorem msg_S {t : List UInt8} {s1 s2 s3 s4 s5 s6 s7 s8 : SF} {x1 x2 x3 x4 x5 x6 : Int} {tx : List UInt8} {T : TreeD} (hg : t.getD 0 0 ≠ 80) (hg2 : t.getD 0 0 ≠ 67) (h1 : digF 44 t (1, false) = (x1, s1)) (h2 : digF 44 t s1 = (x2, s2)) (h3 : digF 44 t s2 = (x3, s3)) (h4 : digF 44 t s3 = (x4, s4)) (h5 : digF 44 t s4 = (x5, s5)) (h6 : digF 44 t s5 = (x6, s6)) (h7 : strF t s6 = (tx, s7)) (h8 : treeF t s7 = (T, s8)) :
    msgF t = (⟨2, x1, x2, x3, x4, x5, x6 == 1, [], [], ba tx, T⟩, s8) := by
  unfold msgF
  rw [if_neg hg, if_neg hg2]
  simp only [h1, h2, h3, h4, h5, h6, h7, h8]
set_option maxHeartbeats 16000000 in
set_option maxRecDepth 100000 in
theorem GetMsg_x (hMay : MayAll) (S : ByteArray) (hS : S.size ≤ 140737488355328) (w : World) : Calls Tryz.prog 15 #[.string S] w (GetPostX w S.data.toList) := by
  have HMay := Lib.hid hMay
  clear hMay
  go_enter Tryz.func15, Tryz.ntmps15
  go_upto_region 1 with (fail)
  have hr1 := blk_new w (.cells mZ TM)
  have hs1 : Step No w (w.alloc (.cells mZ TM)) := (Step.refl No w).alloc _
  have hz1 : (w.alloc (.cells mZ TM)).heap.size = w.heap.size + 1 := by simp
  simp only [mZ] at hr1 hs1 hz1
  generalize hW : World.alloc w _ = w1 at *
  clear hW
  obtain ⟨r, hr⟩ : ∃ r, w.heap.size = r := ⟨_, rfl⟩
  have HRr := Lib.hid hr
  have HLE : Hid (w.heap.size ≤ r) := Lib.hid (Nat.le_of_eq hr)
  rw [hr] at hr1 hz1 ⊢
  have HR1 : Hid (w1.heap[r]? = some (.cells mZ TM (0, 0))) := Lib.hid hr1
  have HS1 := Lib.hid hs1
  have HZ1 := Lib.hid hz1
  clear hr hr1 hs1 hz1
  by_cases hlo : S.size < 1
  · have t1 : decide ((S.size : Int) < 1) = true := decide_eq_true (by omega)
    have HLo : Hid (S.data.toList.length < 1 ∨ 1000000 < S.data.toList.length) := Lib.hid (.inl (by rw [lenS]; exact hlo))
    have HR := HR1
    have HST := HS1
    clear hlo
    have HM1 := Lib.hid (trivial : True)
    have k0 := blk_cell HR.out 0
    have y0 := blk_free HR.out 0
    have k1 := blk_cell HR.out 1
    have y1 := blk_free HR.out 1
    have k2 := blk_cell HR.out 2
    have y2 := blk_free HR.out 2
    have k3 := blk_cell HR.out 3
    have y3 := blk_free HR.out 3
    have k4 := blk_cell HR.out 4
    have y4 := blk_free HR.out 4
    have k5 := blk_cell HR.out 5
    have y5 := blk_free HR.out 5
    have k6 := blk_cell HR.out 6
    have y6 := blk_free HR.out 6
    have k7 := blk_cell HR.out 7
    have y7 := blk_free HR.out 7
    have k8 := blk_cell HR.out 8
    have y8 := blk_free HR.out 8
    have k9 := blk_cell HR.out 9
    have y9 := blk_free HR.out 9
    have k10 := blk_cell HR.out 10
    have y10 := blk_free HR.out 10
    have k11 := blk_cell HR.out 11
    have y11 := blk_free HR.out 11
    have k12 := blk_cell HR.out 12
    have y12 := blk_free HR.out 12
    simp [mZ] at k0 k1 k2 k3 k4 k5 k6 k7 k8 k9 k10 k11 k12
    have HD := Lib.hid (filled (vs := [.int .i64 0, .int .i64 0, .int .i64 0, .int .i64 0, .int .i64 0, .int .i64 0, .bool false, .slice none 0 0, .slice none 0 0, .string ⟨#[]⟩, .int .i64 0, .int .i64 0, .slice none 0 0]) HR.out rfl HLE.out HST.out)
    have HM : Hid True := Lib.hid trivial
    simp only [sets, Nat.reduceAdd] at HD HM
    clear HR HST
    go_wp2
    generalize hW : World.setCell (World.setCell (World.setCell (World.setCell (World.setCell (World.setCell (World.setCell (World.setCell (World.setCell (World.setCell (World.setCell (World.setCell (World.setCell _ ⟨r, 0, none⟩ _) ⟨r, 1, none⟩ _) ⟨r, 2, none⟩ _) ⟨r, 3, none⟩ _) ⟨r, 4, none⟩ _) ⟨r, 5, none⟩ _) ⟨r, 6, none⟩ _) ⟨r, 7, none⟩ _) ⟨r, 8, none⟩ _) ⟨r, 9, none⟩ _) ⟨r, 10, none⟩ _) ⟨r, 11, none⟩ _) ⟨r, 12, none⟩ _ = W at *
    clear hW
    have r0 := blk_cell HD.out.1 0
    have r1 := blk_cell HD.out.1 1
    have r2 := blk_cell HD.out.1 2
    have r3 := blk_cell HD.out.1 3
    have r4 := blk_cell HD.out.1 4
    have r5 := blk_cell HD.out.1 5
    have r6 := blk_cell HD.out.1 6
    have r7 := blk_cell HD.out.1 7
    have r8 := blk_cell HD.out.1 8
    have r9 := blk_cell HD.out.1 9
    have r10 := blk_cell HD.out.1 10
    have r11 := blk_cell HD.out.1 11
    have r12 := blk_cell HD.out.1 12
    simp at r0 r1 r2 r3 r4 r5 r6 r7 r8 r9 r10 r11 r12
    exact bodyPost_ret (by simp [results, Tryz.results15, go_sem, r0, r1, r2, r3, r4, r5, r6, r7, r8, r9, r10, r11, r12]; rfl) rfl (get_len HD.out.2.1 HLo.out)
  by_cases hhi : 1000000 < S.size
  · have t1 : decide ((S.size : Int) < 1) = false := decide_eq_false (by omega)
    have t2 : decide ((1000000 : Int) < S.size) = true := decide_eq_true (by omega)
    have HLo : Hid (S.data.toList.length < 1 ∨ 1000000 < S.data.toList.length) := Lib.hid (.inr (by rw [lenS]; exact hhi))
    have HR := HR1
    have HST := HS1
    clear hlo hhi
    have HM1 := Lib.hid (trivial : True)
    have k0 := blk_cell HR.out 0
    have y0 := blk_free HR.out 0
    have k1 := blk_cell HR.out 1
    have y1 := blk_free HR.out 1
    have k2 := blk_cell HR.out 2
    have y2 := blk_free HR.out 2
    have k3 := blk_cell HR.out 3
    have y3 := blk_free HR.out 3
    have k4 := blk_cell HR.out 4
    have y4 := blk_free HR.out 4
    have k5 := blk_cell HR.out 5
    have y5 := blk_free HR.out 5
    have k6 := blk_cell HR.out 6
    have y6 := blk_free HR.out 6
    have k7 := blk_cell HR.out 7
    have y7 := blk_free HR.out 7
    have k8 := blk_cell HR.out 8
    have y8 := blk_free HR.out 8
    have k9 := blk_cell HR.out 9
    have y9 := blk_free HR.out 9
    have k10 := blk_cell HR.out 10
    have y10 := blk_free HR.out 10
    have k11 := blk_cell HR.out 11
    have y11 := blk_free HR.out 11
    have k12 := blk_cell HR.out 12
    have y12 := blk_free HR.out 12
    simp [mZ] at k0 k1 k2 k3 k4 k5 k6 k7 k8 k9 k10 k11 k12
    have HD := Lib.hid (filled (vs := [.int .i64 0, .int .i64 0, .int .i64 0, .int .i64 0, .int .i64 0, .int .i64 0, .bool false, .slice none 0 0, .slice none 0 0, .string ⟨#[]⟩, .int .i64 0, .int .i64 0, .slice none 0 0]) HR.out rfl HLE.out HST.out)
    have HM : Hid True := Lib.hid trivial
    simp only [sets, Nat.reduceAdd] at HD HM
    clear HR HST
    go_wp2
    generalize hW : World.setCell (World.setCell (World.setCell (World.setCell (World.setCell (World.setCell (World.setCell (World.setCell (World.setCell (World.setCell (World.setCell (World.setCell (World.setCell _ ⟨r, 0, none⟩ _) ⟨r, 1, none⟩ _) ⟨r, 2, none⟩ _) ⟨r, 3, none⟩ _) ⟨r, 4, none⟩ _) ⟨r, 5, none⟩ _) ⟨r, 6, none⟩ _) ⟨r, 7, none⟩ _) ⟨r, 8, none⟩ _) ⟨r, 9, none⟩ _) ⟨r, 10, none⟩ _) ⟨r, 11, none⟩ _) ⟨r, 12, none⟩ _ = W at *
    clear hW
    have r0 := blk_cell HD.out.1 0
    have r1 := blk_cell HD.out.1 1
    have r2 := blk_cell HD.out.1 2
    have r3 := blk_cell HD.out.1 3
    have r4 := blk_cell HD.out.1 4
    have r5 := blk_cell HD.out.1 5
    have r6 := blk_cell HD.out.1 6
    have r7 := blk_cell HD.out.1 7
    have r8 := blk_cell HD.out.1 8
    have r9 := blk_cell HD.out.1 9
    have r10 := blk_cell HD.out.1 10
    have r11 := blk_cell HD.out.1 11
    have r12 := blk_cell HD.out.1 12
    simp at r0 r1 r2 r3 r4 r5 r6 r7 r8 r9 r10 r11 r12
    exact bodyPost_ret (by simp [results, Tryz.results15, go_sem, r0, r1, r2, r3, r4, r5, r6, r7, r8, r9, r10, r11, r12]; rfl) rfl (get_len HD.out.2.1 HLo.out)
  have t1 : decide ((S.size : Int) < 1) = false := decide_eq_false (by omega)
  have t2 : decide ((1000000 : Int) < S.size) = false := decide_eq_false (by omega)
  have hi0 : (0 : Int) < S.size := by omega
  have h0S : 0 < S.size := by omega
  obtain ⟨x1, s1, h1⟩ : ∃ x s', digF 44 S.data.toList (1, false) = (x, s') := ⟨_, _, rfl⟩
  obtain ⟨x2, s2, h2⟩ : ∃ x s', digF 44 S.data.toList s1 = (x, s') := ⟨_, _, rfl⟩
  have D1 := Lib.hid h1
  have D2 := Lib.hid h2
  have hf0 : FK S (w1.alloc (.cells #[.string S, .int .i64 1, .bool false] TF)) w1.heap.size (1, false) (w1.alloc (.cells #[.string S, .int .i64 1, .bool false] TF)) := ⟨blk_new _ _, by simp only; omega, Step.refl _ _⟩
  have hr2 := blk_alloc HR1.out (.cells #[.string S, .int .i64 1, .bool false] TF)
  have hs2 : Step No w (w1.alloc (.cells #[.string S, .int .i64 1, .bool false] TF)) := HS1.out.alloc _
  clear h1 h2
  go_wp2_with fail
  generalize hW : World.alloc w1 _ = w2 at *
  generalize hb : w1.heap.size = b at *
  have HF0 := Lib.hid hf0
  have HR2 := Lib.hid hr2
  have HS2 := Lib.hid hs2
  have HBE : Hid (w.heap.size < b) := Lib.hid (by have := HZ1.out; have := HRr.out; omega)
  clear hf0 hr2 hs2 hW hb
  refine (num_x hS HF0.out D1.out).mono ?_
  rintro e w3 ⟨rfl, hk⟩
  have HB := Lib.hid (EY.born (T := TM) hk hk.step (Nat.le_refl _) #[.int .i64 0, .int .i64 x1, .int .i64 0, .int .i64 0, .int .i64 0, .int .i64 0, .bool false, .slice none 0 0, .slice none 0 0, .string ⟨#[]⟩, .int .i64 0, .int .i64 0, .slice none 0 0])
  clear hk
  go_wp2_with fail
  generalize hW : World.alloc w3 _ = w4 at *
  generalize w3.heap.size = M at *
  clear hW
  refine (num_x hS HB.out.fk D2.out).mono ?_
  rintro e wn ⟨rfl, hk⟩
  have HX := Lib.hid (HB.out.next (by decide) hk)
  clear hk HB
  have HB := Lib.hid (HX.out.store (by decide) 2 (.int .i64 x2))
  have d := blk_cell HX.out.y 2
  have f := blk_free HX.out.y 2
  simp at d HB
  clear HX
  go_upto_region 6 with (fail)
  generalize hW : World.setCell wn _ _ = wm at *
  clear hW d f
  obtain ⟨ch, hc, hcS⟩ : ∃ ch : UInt8, S[0]'h0S = ch ∧ Hid (S.data.toList.getD 0 0 = ch) := ⟨_, rfl, Lib.hid (RefTaker.byte_at S 0 h0S)⟩
  go_upto_block 0 with (fail)
  go_cut [] (fun wy => ∃ (m : MsgD) (ev env nv : Value) (st : SF), EY TM S w2 w2 b M (msgCells m ev env nv) st wy ∧ MsgW w2.heap.size wy m ev env nv ∧ msgF S.data.toList = (m, st) ∧ ∀ x ∈ m.tree.nodes, x.kids.length ≤ 140737488355328)
  case first =>
    by_cases k1 : ch = 80
    · have b1 : ((ch.toNat : Int) == 80) = true := byte_eq (c := 80) (by decide) k1
      obtain ⟨x3, s3, h3⟩ : ∃ x s', digF 44 S.data.toList s2 = (x, s') := ⟨_, _, rfl⟩
      obtain ⟨cs, s4, h4⟩ : ∃ x s', compsX S.data.toList s3 = (x, s') := ⟨_, _, rfl⟩
      have HMs := Lib.hid (msg_P (by rw [hcS.out]; exact k1) D1.out D2.out h3 h4)
      have D3 := Lib.hid h3
      have D4 := Lib.hid h4
      clear h3 h4 k1
      go_wp2_with fail
      refine (num_x hS HB.out.fk D3.out).mono ?_
      rintro e wn ⟨rfl, hk⟩
      have HX := Lib.hid (HB.out.next (by decide) hk)
      clear hk HB
      have HB := Lib.hid (HX.out.store (by decide) 3 (.int .i64 x3))
      have d := blk_cell HX.out.y 3
      have f := blk_free HX.out.y 3
      simp at d HB
      clear HX
      go_wp2_with fail
      generalize hW : World.setCell wn _ _ = wm at *
      clear hW d f
      refine (comps_y hS HB.out.fk D4.out).mono ?_
      rintro e wn ⟨cv, rfl, hc, hk⟩
      obtain ⟨Ac, nc, cc, rfl⟩ := comps_slice hc
      have HY := Lib.hid (HB.out.next (by decide) hk)
      have HC := Lib.hid (comps_base (comps_go hc (w' := wn.setCell ⟨M, 7, none⟩ (.slice Ac nc cc)) (F := fun k => k = M) (by refine set_at (Step.refl _ _) ?_ _ <;> rfl) (Types.at HY.out.y (by decide))) HB.out.step.size)
      clear hk HB hc
      have HB := Lib.hid (HY.out.store (by decide) 7 (.slice Ac nc cc))
      have d := blk_cell HY.out.y 7
      have f := blk_free HY.out.y 7
      simp at d HB
      clear HY
      go_wp2
      generalize hW : World.setCell wn _ _ = wm at *
      clear hW d f
      have HMW : Hid (MsgW w2.heap.size wm ⟨0, x1, x2, x3, 0, 0, false, cs, [], ba [], noTree⟩ (.slice Ac nc cc) (.slice none 0 0) (.slice none 0 0)) := Lib.hid ⟨HC.out, ⟨[], rfl, RowO.nil _⟩, ⟨[], rfl, RowO.nil _⟩, Nat.zero_le _⟩
      clear HC
      go_meet
      exact ⟨⟨0, x1, x2, x3, 0, 0, false, cs, [], ba [], noTree⟩, _, _, _, s4, HB.out, HMW.out, HMs.out, (fun x hx => absurd hx (by simp [noTree]))⟩
    · have b1 : ((ch.toNat : Int) == 80) = false := byte_ne (c := 80) (by decide) k1
      by_cases k2 : ch = 67
      · have b2 : ((ch.toNat : Int) == 67) = true := byte_eq (c := 67) (by decide) k2
        obtain ⟨x3, s3, h3⟩ : ∃ x s', countF S.data.toList s2 = (x, s') := ⟨_, _, rfl⟩
        have hcn := countF_num S.data.toList s2
        rw [h3] at hcn
        obtain ⟨K, rfl⟩ := Int.eq_ofNat_of_zero_le hcn.1
        have hK : (K : Int) ≤ 1000000000 := hcn.2
        have HMs0 := Lib.hid (fun es s4 (he : eachF (entryF S.data.toList) K s3 = (es, s4)) => msg_C (by rw [hcS.out]; exact k2) D1.out D2.out (show rowF (entryF S.data.toList) S.data.toList s2 = (es, s4) by unfold rowF; rw [h3]; simpa using he))
        have D3 := Lib.hid h3
        clear h3 k1 k2 hcn
        have d := blk_cell HB.out.y 0
        have f := blk_free HB.out.y 0
        have HB1 := Lib.hid (HB.out.store (by decide) 0 (.int .i64 1))
        simp at d HB1
        go_wp2_with fail
        generalize hW : World.setCell wm _ _ = wk at *
        clear hW d f HB
        have HB := HB1
        clear HB1
        refine (count_x hS HB.out.fk D3.out).mono ?_
        rintro e w5 ⟨rfl, hk⟩
        have HB5 := Lib.hid (HB.out.next (by decide) hk)
        clear hk HB
        go_wp2
        go_loopw [7] (fun i wr => ∃ (k : Nat) (ys : List (EntryD × Value × Value)) (v : Value) (s : SF), k ≤ K ∧ i = .int .i64 k ∧ ys.length = k ∧ EY TM S w2 w2 b M #[.int .i64 1, .int .i64 x1, .int .i64 x2, .int .i64 0, .int .i64 0, .int .i64 0, .bool false, .slice none 0 0, v, .string ⟨#[]⟩, .int .i64 0, .int .i64 0, .slice none 0 0] s wr ∧ EntriesW w2.heap.size wr ys v ∧ eachF (entryF S.data.toList) K s3 = (ys.map (·.1) ++ (eachF (entryF S.data.toList) (K - k) s).1, (eachF (entryF S.data.toList) (K - k) s).2)) (fun i _ => K - (RowKit.intOf i).toNat)
        case atStart => exact ⟨0, [], _, s3, Nat.zero_le _, rfl, rfl, HB5.out, RowO.nil _, by simp⟩
        case round =>
          obtain ⟨k, ys, v, s, hkK, rfl, hyl, hX, hN, he⟩ := hrel
          subst hyl
          obtain ⟨A, c, rfl, -, -⟩ := row_slice hN.1
          obtain ⟨c0, c1, c2', f1, f2⟩ := f_cells hX.fk.rep
          have HX := Lib.hid hX
          have HN := Lib.hid hN
          have HE := Lib.hid he
          clear hX hN he
          by_cases hlt : ys.length < K
          · have hi1 : (ys.length : Int) < K := by omega
            by_cases hx : s.2 = true
            · rw [hx] at c2'
              have HXt := Lib.hid hx
              clear hx
              have HMs := Lib.hid (HMs0.out _ _ (each_stop HE.out (.inr HXt.out)))
              have HMW : Hid (MsgW w2.heap.size wr ⟨1, x1, x2, 0, 0, 0, false, [], ys.map (·.1), ba [], noTree⟩ (.slice none 0 0) (.slice A ys.length c) (.slice none 0 0)) := Lib.hid ⟨RowO.nil _, ⟨ys, rfl, HN.out⟩, ⟨[], rfl, RowO.nil _⟩, Nat.zero_le _⟩
              go_wp2
              go_meet
              exact ⟨⟨1, x1, x2, 0, 0, 0, false, [], ys.map (·.1), ba [], noTree⟩, _, _, _, s, HX.out, HMW.out, HMs.out, (fun x hx => absurd hx (by simp [noTree]))⟩
            · obtain ⟨q, x⟩ := s
              obtain rfl : x = false := by simpa using hx
              clear hx
              obtain ⟨⟨ec, eq, ee, ed⟩, t1, hen⟩ : ∃ x s', entryF S.data.toList (q, false) = (x, s') := ⟨_, _, rfl⟩
              have G1 := Lib.hid hen
              have hm9 : ys.length + 1 ≤ maxLen := by unfold maxLen; omega
              have hb9 : (ys.length + 1) * 64 ≤ 140737488355328 := by omega
              clear hen
              have HXd := Lib.hid (HX.out.no ((Step.refl No wr).drew))
              have HNd := Lib.hid (RowO.no (stabE _) HN.out ((Step.refl No wr).drew))
              have d8 : wr.cell? ⟨M, 8, none⟩ = some (.slice A ys.length c) := blk_cell HX.out.y 8
              have d8d : wr.drew.cell? ⟨M, 8, none⟩ = some (.slice A ys.length c) := blk_cell HXd.out.y 8
              go_upto_region 23 with (fail)
              clear c0 c1 c2' f1 f2
              go_region_law (first | (refine step_append_own rfl (.tmp 76) (.tmp 79) 23 54 _ 4 64 rfl Tryz.underlying23 infoE rfl (by decide) (.slice A ys.length c) ys.length (ys.flatMap encE) (by simp [Act.eval, Act.put]) (by exact HN6.out.1.alloc _) ⟨w6.heap.size, 0, none⟩ 1 1 [.int .i64 ec, .int .i64 eq, .slice Ae ne ce, .slice Ad nd cd] (by simp [Act.eval, Act.put]) rfl (by exact cells_new w6 #[.int .i64 ec, .int .i64 eq, .slice Ae ne ce, .slice Ad nd cd] TE) (by simp [Value.oneCell']) hm9 hb9 ?_; (intro v7 w7 hown hg0 hat; have hg := (show (w6.alloc (.cells #[.int .i64 ec, .int .i64 eq, .slice Ae ne ce, .slice Ad nd cd] TE)).grownBy w7 (Value.slice A ys.length c).ownBlock from hg0); have hX7 := HX6.out.grown HN6.out.1 (by decide) (by decide) HN6.out.2.1 hg; have b7 := (show w7.cell? ⟨M, 8, none⟩ = some (.slice A ys.length c) from blk_cell hX7.y 8); have f7 := blk_free hX7.y 8; have HR7 := Lib.hid (entries_go (RowO.next (stabE _) (show TsE TE from ⟨by decide, by decide, by decide⟩) HO6.out HZ6.out (x := (⟨ec, eq, ee, ed⟩, .slice Ae ne ce, .slice Ad nd cd)) HE6.out hown hg hat) (w' := w7.setCell ⟨M, 8, none⟩ v7) (F := fun k => k = M) (by refine set_at (Step.refl _ _) ?_ _ <;> rfl) (Types.at hX7.y ⟨by decide, by decide, by decide, by decide⟩)); have HX7 := Lib.hid (hX7.store (by decide) 8 v7); obtain ⟨A7, c7, rfl, -, -⟩ := row_slice hown; clear hown hg hg0 hat hX7)) | (go_simp; go_at_call 51; refine (entry_x S hS _ b (q, false) HXd.out.fk.rep HXd.out.fk.far G1.out).mono ?_; rintro e w6 ⟨ev, dv, rfl, hsub, hk⟩; obtain ⟨Ae, ne, ce, Ad, nd, cd, rfl, rfl⟩ := sub_slices hsub; have HX6 := Lib.hid (HXd.out.next (by decide) hk); have HN6 := Lib.hid (entries_go HNd.out hk.step (HXd.out.fk.types ⟨by decide, by decide, by decide, by decide⟩)); have e8 := (show w6.cell? ⟨M, 8, none⟩ = some (.slice A ys.length c) from blk_cell HX6.out.y 8); have e8a := (show (w6.alloc (.cells #[.int .i64 ec, .int .i64 eq, .slice Ae ne ce, .slice Ad nd cd] 54)).cell? ⟨M, 8, none⟩ = some (.slice A ys.length c) from (Step.alloc (Step.refl No w6) _).cell e8 (fun f => f)); have HO6 := Lib.hid (RowO.no (stabE _) HN6.out (Step.alloc (Step.refl No w6) (.cells #[.int .i64 ec, .int .i64 eq, .slice Ae ne ce, .slice Ad nd cd] TE))); have HE6 := Lib.hid (subE_new (hsub.base HXd.out.step.size) (.cells #[.int .i64 ec, .int .i64 eq, .slice Ae ne ce, .slice Ad nd cd] TE)); have HZ6 : Hid (w2.heap.size ≤ (w6.alloc (.cells #[.int .i64 ec, .int .i64 eq, .slice Ae ne ce, .slice Ad nd cd] TE)).heap.size) := Lib.hid (Nat.le_trans HX6.out.step.size (by simp)); clear hsub hk))
              all_goals
                go_wp2
                go_roundw
                case rel => exact ⟨ys.length + 1, ys ++ [(⟨ec, eq, ee, ed⟩, .slice Ae ne ce, .slice Ad nd cd)], _, t1, hlt, by go_num, by simp, HX7.out, HR7.out, each_more HE.out hlt G1.out⟩
                case measure => simp [RowKit.intOf]; omega
          · have hi1 : ¬ (ys.length : Int) < K := by omega
            have HMs := Lib.hid (HMs0.out _ _ (each_stop HE.out (.inl (by omega))))
            have HMW : Hid (MsgW w2.heap.size wr ⟨1, x1, x2, 0, 0, 0, false, [], ys.map (·.1), ba [], noTree⟩ (.slice none 0 0) (.slice A ys.length c) (.slice none 0 0)) := Lib.hid ⟨RowO.nil _, ⟨ys, rfl, HN.out⟩, ⟨[], rfl, RowO.nil _⟩, Nat.zero_le _⟩
            go_wp2
            go_meet
            exact ⟨⟨1, x1, x2, 0, 0, 0, false, [], ys.map (·.1), ba [], noTree⟩, _, _, _, s, HX.out, HMW.out, HMs.out, (fun x hx => absurd hx (by simp [noTree]))⟩
      · have b2 : ((ch.toNat : Int) == 67) = false := byte_ne (c := 67) (by decide) k2
        obtain ⟨x3, s3, h3⟩ : ∃ x s', digF 44 S.data.toList s2 = (x, s') := ⟨_, _, rfl⟩
        obtain ⟨x4, s4, h4⟩ : ∃ x s', digF 44 S.data.toList s3 = (x, s') := ⟨_, _, rfl⟩
        obtain ⟨x5, s5, h5⟩ : ∃ x s', digF 44 S.data.toList s4 = (x, s') := ⟨_, _, rfl⟩
        obtain ⟨x6, s6, h6⟩ : ∃ x s', digF 44 S.data.toList s5 = (x, s') := ⟨_, _, rfl⟩
        obtain ⟨tx, s7, h7⟩ : ∃ x s', strF S.data.toList s6 = (x, s') := ⟨_, _, rfl⟩
        obtain ⟨⟨rt, nx, ns⟩, s8, h8⟩ : ∃ x s', treeF S.data.toList s7 = (x, s') := ⟨_, _, rfl⟩
        have hms := msg_S (by rw [hcS.out]; exact k1) (by rw [hcS.out]; exact k2) D1.out D2.out h3 h4 h5 h6 h7 h8
        have HKs := Lib.hid (tree_kids h8)
        have HTx : Hid (tx.length ≤ S.size) := Lib.hid (by have := strF_len S.data.toList s6; rw [h7, lenS] at this; exact this)
        obtain ⟨u, hu⟩ : ∃ u : Bool, (x6 == 1) = u := ⟨_, rfl⟩
        rw [hu] at hms
        have HMs := Lib.hid hms
        have D3 := Lib.hid h3
        have D4 := Lib.hid h4
        have D5 := Lib.hid h5
        have D6 := Lib.hid h6
        have D7 := Lib.hid h7
        have D8 := Lib.hid h8
        clear h3 h4 h5 h6 h7 h8 k1 k2 hms
        have d := blk_cell HB.out.y 0
        have f := blk_free HB.out.y 0
        have HB1 := Lib.hid (HB.out.store (by decide) 0 (.int .i64 2))
        simp at d HB1
        go_wp2_with fail
        generalize hW : World.setCell wm _ _ = wk at *
        clear hW d f HB
        have HB := HB1
        clear HB1
        refine (num_x hS HB.out.fk D3.out).mono ?_
        rintro e wn ⟨rfl, hk⟩
        have HX := Lib.hid (HB.out.next (by decide) hk)
        clear hk HB
        have HB := Lib.hid (HX.out.store (by decide) 3 (.int .i64 x3))
        have d := blk_cell HX.out.y 3
        have f := blk_free HX.out.y 3
        simp at d HB
        clear HX
        go_wp2_with fail
        generalize hW : World.setCell wn _ _ = wm at *
        clear hW d f
        refine (num_x hS HB.out.fk D4.out).mono ?_
        rintro e wn ⟨rfl, hk⟩
        have HX := Lib.hid (HB.out.next (by decide) hk)
        clear hk HB
        have HB := Lib.hid (HX.out.store (by decide) 4 (.int .i64 x4))
        have d := blk_cell HX.out.y 4
        have f := blk_free HX.out.y 4
        simp at d HB
        clear HX
        go_wp2_with fail
        generalize hW : World.setCell wn _ _ = wm at *
        clear hW d f
        refine (num_x hS HB.out.fk D5.out).mono ?_
        rintro e wn ⟨rfl, hk⟩
        have HX := Lib.hid (HB.out.next (by decide) hk)
        clear hk HB
        have HB := Lib.hid (HX.out.store (by decide) 5 (.int .i64 x5))
        have d := blk_cell HX.out.y 5
        have f := blk_free HX.out.y 5
        simp at d HB
        clear HX
        go_wp2_with fail
        generalize hW : World.setCell wn _ _ = wm at *
        clear hW d f
        refine (num_x hS HB.out.fk D6.out).mono ?_
        rintro e wn ⟨rfl, hk⟩
        have HX := Lib.hid (HB.out.next (by decide) hk)
        clear hk HB
        have HB := Lib.hid (HX.out.store (by decide) 6 (.bool u))
        have d := blk_cell HX.out.y 6
        have f := blk_free HX.out.y 6
        simp at d HB
        clear HX
        go_wp2_with fail
        generalize hW : World.setCell wn _ _ = wm at *
        clear hW d f hu
        refine (str_x hS HB.out.fk D7.out).mono ?_
        rintro e wn ⟨rfl, hk⟩
        have HX := Lib.hid (HB.out.next (by decide) hk)
        clear hk HB
        have HB := Lib.hid (HX.out.store (by decide) 9 (.string ⟨tx.toArray⟩))
        have d := blk_cell HX.out.y 9
        have f := blk_free HX.out.y 9
        simp at d HB
        clear HX
        go_wp2_with fail
        generalize hW : World.setCell wn _ _ = wm at *
        clear hW d f
        refine (tree_x S hS _ b s7 HB.out.fk.rep HB.out.fk.far D8.out).mono ?_
        rintro e wn ⟨nv, zn, rfl, hzn, hN, hk⟩
        obtain ⟨An, nn, cn, rfl⟩ := nodes_slice hN
        have HX := Lib.hid (HB.out.next (by decide) hk)
        have hst : Step (fun k => k = M) wn (((wn.setCell ⟨M, 10, none⟩ (.int .i64 rt)).setCell ⟨M, 11, none⟩ (.int .i64 nx)).setCell ⟨M, 12, none⟩ (.slice An nn cn)) := by refine set_at (set_at (set_at (Step.refl _ _) ?_ _) ?_ _) ?_ _ <;> rfl
        have HN := Lib.hid (nodes_base (nodes_go hN hst (Types.at HX.out.y ⟨by decide, by decide⟩)) HB.out.step.size)
        clear hk HB hN
        have HB := Lib.hid (((HX.out.store (by decide) 10 (.int .i64 rt)).store (by decide) 11 (.int .i64 nx)).store (by decide) 12 (.slice An nn cn))
        have d10 := blk_cell HX.out.y 10
        have d11 := blk_cell HX.out.y 11
        have d12 := blk_cell HX.out.y 12
        have f10 := blk_free HX.out.y 10
        have f11 := blk_free HX.out.y 11
        have f12 := blk_free HX.out.y 12
        simp at d10 d11 d12 HB
        clear HX hst
        go_wp2
        generalize hW : World.setCell (World.setCell (World.setCell wn _ _) _ _) _ _ = wm at *
        clear hW d10 d11 d12 f10 f11 f12
        have HMW : Hid (MsgW w2.heap.size wm ⟨2, x1, x2, x3, x4, x5, u, [], [], ba tx, ⟨rt, nx, ns⟩⟩ (.slice none 0 0) (.slice none 0 0) (.slice An nn cn)) := Lib.hid ⟨RowO.nil _, ⟨[], rfl, RowO.nil _⟩, ⟨zn, hzn, HN.out⟩, by have := HTx.out; unfold maxLen; simp only [ba, ByteArray.size, List.size_toArray]; omega⟩
        clear HN
        go_meet
        exact ⟨⟨2, x1, x2, x3, x4, x5, u, [], [], ba tx, ⟨rt, nx, ns⟩⟩, _, _, _, s8, HB.out, HMW.out, HMs.out, HKs.out⟩
  case rest =>
    obtain ⟨m, ev, env, nv, st, hB, hMw, hms, hkk⟩ := hcut
    obtain ⟨⟨A1, n1, c1, rfl⟩, ⟨A2, n2, c2, rfl⟩, A3, n3, c3, rfl⟩ := hMw.slices
    obtain ⟨kd, cl, rv, sq, fm, ls, rf, es, en, tx, ⟨rt, nx, ns⟩⟩ := m
    obtain ⟨wy, hwy⟩ : ∃ wy, wy = wc := ⟨_, rfl⟩
    subst hwy
    simp only [msgCells] at hB
    have HB' := Lib.hid hB
    have HMW := Lib.hid hMw
    have HMs := Lib.hid hms
    have HKs := Lib.hid hkk
    clear hB hMw hms hkk HB
    have HB := HB'
    clear HB'
    go_upto_region 24 with (fail)
    have g0 := blk_cell HB.out.y 0
    have g1 := blk_cell HB.out.y 1
    have g2 := blk_cell HB.out.y 2
    have g3 := blk_cell HB.out.y 3
    have g4 := blk_cell HB.out.y 4
    have g5 := blk_cell HB.out.y 5
    have g6 := blk_cell HB.out.y 6
    have g7 := blk_cell HB.out.y 7
    have g8 := blk_cell HB.out.y 8
    have g9 := blk_cell HB.out.y 9
    have g10 := blk_cell HB.out.y 10
    have g11 := blk_cell HB.out.y 11
    have g12 := blk_cell HB.out.y 12
    simp at g0 g1 g2 g3 g4 g5 g6 g7 g8 g9 g10 g11 g12
    go_wp2_with fail
    refine (put_ref _ ⟨kd, cl, rv, sq, fm, ls, rf, es, en, tx, ⟨rt, nx, ns⟩⟩ _ _ _ (msg_reads HMW.out) (HMay.out _ _ _ _ _ (msg_reads HMW.out) HKs.out)).mono ?_
    rintro e w5 ⟨hs5, hp⟩
    obtain ⟨U, E, rfl, HUE⟩ := put_two hp
    clear hp
    have HR : Hid (w5.heap[r]? = some (.cells mZ TM (0, 0))) := Lib.hid (hs5.blk (HB.out.step.blk HR2.out (blk_ne HR2.out HF0.out.blk (by decide))) (fun f => f))
    have HST : Hid (Step No w w5) := Lib.hid ((HS2.out.trans HB.out.step (fun i e hlt => absurd hlt (by have := HBE.out; omega))).trans hs5 (fun _ f _ => f))
    have HG5 := Lib.hid (hs5.blk HB.out.y (fun f => f))
    have ht5 := hs5.blk HB.out.fk.blk (fun f => f)
    have HM0 := Lib.hid (msg_base (HMW.out.go hs5 (Types.no _ _ _)) HS2.out.size)
    have t1 := blk_cell ht5 2
    simp at t1
    clear g0 g1 g2 g3 g4 g5 g6 g7 g8 g9 g10 g11 g12 hs5 ht5 HMW
    have g0 := blk_cell HG5.out 0
    have g1 := blk_cell HG5.out 1
    have g2 := blk_cell HG5.out 2
    have g3 := blk_cell HG5.out 3
    have g4 := blk_cell HG5.out 4
    have g5 := blk_cell HG5.out 5
    have g6 := blk_cell HG5.out 6
    have g7 := blk_cell HG5.out 7
    have g8 := blk_cell HG5.out 8
    have g9 := blk_cell HG5.out 9
    have g10 := blk_cell HG5.out 10
    have g11 := blk_cell HG5.out 11
    have g12 := blk_cell HG5.out 12
    simp at g0 g1 g2 g3 g4 g5 g6 g7 g8 g9 g10 g11 g12
    go_upto_region 25 with (fail)
    go_cut [99] (fun s9 wx => ∃ v : Bool, s9 = .bool v ∧ w5 = wx ∧ (v = true → st.2 = true ∨ putOk ⟨kd, cl, rv, sq, fm, ls, rf, es, en, tx, ⟨rt, nx, ns⟩⟩ = false ∨ putS ⟨kd, cl, rv, sq, fm, ls, rf, es, en, tx, ⟨rt, nx, ns⟩⟩ ≠ S.data.toList) ∧ (v = false → SaysP ⟨kd, cl, rv, sq, fm, ls, rf, es, en, tx, ⟨rt, nx, ns⟩⟩ S.data.toList))
    case first =>
      clear g0 g1 g2 g3 g4 g5 g6 g7 g8 g9 g10 g11 g12 HM0 HG5
      by_cases hbad : st.2 = true
      · rw [hbad] at t1
        have HBd := Lib.hid hbad
        clear hbad
        go_wp2
        go_meet
        exact ⟨true, rfl, rfl, fun _ => .inl HBd.out, fun h => (by cases h)⟩
      · have hbad2 : st.2 = false := by simpa using hbad
        rw [hbad2] at t1
        clear hbad hbad2
        rcases HUE.out with ⟨hok, hU, rfl⟩ | ⟨hno, rfl⟩
        · have HOk := Lib.hid hok
          by_cases hq : putS ⟨kd, cl, rv, sq, fm, ls, rf, es, en, tx, ⟨rt, nx, ns⟩⟩ = S.data.toList
          · have HQ := Lib.hid hq
            have hq1 : ((U.toList == S.toList) : Bool) = true := by rw [hU, hq]; simp [ba]
            clear hq hok hU
            go_wp2
            go_meet
            exact ⟨false, rfl, rfl, fun h => (by cases h), fun _ => ⟨HOk.out, HQ.out⟩⟩
          · have HQ := Lib.hid hq
            have hq1 : ((U.toList == S.toList) : Bool) = false := by
              rw [hU, beq_eq_false_iff_ne]
              intro e
              refine HQ.out ?_
              have h2 : (ba (putS ⟨kd, cl, rv, sq, fm, ls, rf, es, en, tx, ⟨rt, nx, ns⟩⟩)).toList = (⟨S.data.toList.toArray⟩ : ByteArray).toList := by rw [e]
              exact (str_eq _ _).1 (by rw [beq_iff_eq]; exact h2)
            clear hq hok hU
            go_wp2
            go_meet
            exact ⟨true, by first | rfl | (simp; done), rfl, fun _ => .inr (.inr HQ.out), fun h => (by cases h)⟩
        · have HOk := Lib.hid hno
          clear hno
          go_wp2
          go_meet
          exact ⟨true, rfl, rfl, fun _ => .inr (.inl HOk.out), fun h => (by cases h)⟩
    case rest =>
      obtain ⟨v, rfl, hw, hv1, hv2⟩ := hcut
      subst hw
      clear t1
      cases v with
      | true =>
        have HN := Lib.hid (hv1 rfl)
        clear hv1 hv2 HM0 g0 g1 g2 g3 g4 g5 g6 g7 g8 g9 g10 g11 g12 HG5
        have HM1 := Lib.hid (trivial : True)
        have k0 := blk_cell HR.out 0
        have y0 := blk_free HR.out 0
        have k1 := blk_cell HR.out 1
        have y1 := blk_free HR.out 1
        have k2 := blk_cell HR.out 2
        have y2 := blk_free HR.out 2
        have k3 := blk_cell HR.out 3
        have y3 := blk_free HR.out 3
        have k4 := blk_cell HR.out 4
        have y4 := blk_free HR.out 4
        have k5 := blk_cell HR.out 5
        have y5 := blk_free HR.out 5
        have k6 := blk_cell HR.out 6
        have y6 := blk_free HR.out 6
        have k7 := blk_cell HR.out 7
        have y7 := blk_free HR.out 7
        have k8 := blk_cell HR.out 8
        have y8 := blk_free HR.out 8
        have k9 := blk_cell HR.out 9
        have y9 := blk_free HR.out 9
        have k10 := blk_cell HR.out 10
        have y10 := blk_free HR.out 10
        have k11 := blk_cell HR.out 11
        have y11 := blk_free HR.out 11
        have k12 := blk_cell HR.out 12
        have y12 := blk_free HR.out 12
        simp [mZ] at k0 k1 k2 k3 k4 k5 k6 k7 k8 k9 k10 k11 k12
        have HD := Lib.hid (filled (vs := [.int .i64 0, .int .i64 0, .int .i64 0, .int .i64 0, .int .i64 0, .int .i64 0, .bool false, .slice none 0 0, .slice none 0 0, .string ⟨#[]⟩, .int .i64 0, .int .i64 0, .slice none 0 0]) HR.out rfl HLE.out HST.out)
        have HM : Hid True := Lib.hid trivial
        simp only [sets, Nat.reduceAdd] at HD HM
        clear HR HST
        go_wp2
        generalize hW : World.setCell (World.setCell (World.setCell (World.setCell (World.setCell (World.setCell (World.setCell (World.setCell (World.setCell (World.setCell (World.setCell (World.setCell (World.setCell _ ⟨r, 0, none⟩ _) ⟨r, 1, none⟩ _) ⟨r, 2, none⟩ _) ⟨r, 3, none⟩ _) ⟨r, 4, none⟩ _) ⟨r, 5, none⟩ _) ⟨r, 6, none⟩ _) ⟨r, 7, none⟩ _) ⟨r, 8, none⟩ _) ⟨r, 9, none⟩ _) ⟨r, 10, none⟩ _) ⟨r, 11, none⟩ _) ⟨r, 12, none⟩ _ = W at *
        clear hW
        have r0 := blk_cell HD.out.1 0
        have r1 := blk_cell HD.out.1 1
        have r2 := blk_cell HD.out.1 2
        have r3 := blk_cell HD.out.1 3
        have r4 := blk_cell HD.out.1 4
        have r5 := blk_cell HD.out.1 5
        have r6 := blk_cell HD.out.1 6
        have r7 := blk_cell HD.out.1 7
        have r8 := blk_cell HD.out.1 8
        have r9 := blk_cell HD.out.1 9
        have r10 := blk_cell HD.out.1 10
        have r11 := blk_cell HD.out.1 11
        have r12 := blk_cell HD.out.1 12
        simp at r0 r1 r2 r3 r4 r5 r6 r7 r8 r9 r10 r11 r12
        exact bodyPost_ret (by simp [results, Tryz.results15, go_sem, r0, r1, r2, r3, r4, r5, r6, r7, r8, r9, r10, r11, r12]; rfl) rfl (get_not HD.out.2.1 HMs.out HN.out)
      | false =>
        have HQ := Lib.hid (hv2 rfl)
        clear hv1 hv2
        have k0 := blk_cell HR.out 0
        have y0 := blk_free HR.out 0
        have k1 := blk_cell HR.out 1
        have y1 := blk_free HR.out 1
        have k2 := blk_cell HR.out 2
        have y2 := blk_free HR.out 2
        have k3 := blk_cell HR.out 3
        have y3 := blk_free HR.out 3
        have k4 := blk_cell HR.out 4
        have y4 := blk_free HR.out 4
        have k5 := blk_cell HR.out 5
        have y5 := blk_free HR.out 5
        have k6 := blk_cell HR.out 6
        have y6 := blk_free HR.out 6
        have k7 := blk_cell HR.out 7
        have y7 := blk_free HR.out 7
        have k8 := blk_cell HR.out 8
        have y8 := blk_free HR.out 8
        have k9 := blk_cell HR.out 9
        have y9 := blk_free HR.out 9
        have k10 := blk_cell HR.out 10
        have y10 := blk_free HR.out 10
        have k11 := blk_cell HR.out 11
        have y11 := blk_free HR.out 11
        have k12 := blk_cell HR.out 12
        have y12 := blk_free HR.out 12
        simp [mZ] at k0 k1 k2 k3 k4 k5 k6 k7 k8 k9 k10 k11 k12
        have HD := Lib.hid (filled (vs := [.int .i64 kd, .int .i64 cl, .int .i64 rv, .int .i64 sq, .int .i64 fm, .int .i64 ls, .bool rf, .slice A1 n1 c1, .slice A2 n2 c2, .string tx, .int .i64 rt, .int .i64 nx, .slice A3 n3 c3]) HR.out rfl HLE.out HST.out)
        have HM := Lib.hid (HM0.out.go HD.out.2.2 (Types.at HR.out (by decide)))
        simp only [sets, Nat.reduceAdd] at HD HM
        clear HR HST
        go_wp2
        generalize hW : World.setCell (World.setCell (World.setCell (World.setCell (World.setCell (World.setCell (World.setCell (World.setCell (World.setCell (World.setCell (World.setCell (World.setCell (World.setCell _ ⟨r, 0, none⟩ _) ⟨r, 1, none⟩ _) ⟨r, 2, none⟩ _) ⟨r, 3, none⟩ _) ⟨r, 4, none⟩ _) ⟨r, 5, none⟩ _) ⟨r, 6, none⟩ _) ⟨r, 7, none⟩ _) ⟨r, 8, none⟩ _) ⟨r, 9, none⟩ _) ⟨r, 10, none⟩ _) ⟨r, 11, none⟩ _) ⟨r, 12, none⟩ _ = W at *
        clear hW
        have r0 := blk_cell HD.out.1 0
        have r1 := blk_cell HD.out.1 1
        have r2 := blk_cell HD.out.1 2
        have r3 := blk_cell HD.out.1 3
        have r4 := blk_cell HD.out.1 4
        have r5 := blk_cell HD.out.1 5
        have r6 := blk_cell HD.out.1 6
        have r7 := blk_cell HD.out.1 7
        have r8 := blk_cell HD.out.1 8
        have r9 := blk_cell HD.out.1 9
        have r10 := blk_cell HD.out.1 10
        have r11 := blk_cell HD.out.1 11
        have r12 := blk_cell HD.out.1 12
        simp at r0 r1 r2 r3 r4 r5 r6 r7 r8 r9 r10 r11 r12
        exact bodyPost_ret (by simp [results, Tryz.results15, go_sem, r0, r1, r2, r3, r4, r5, r6, r7, r8, r9, r10, r11, r12]; rfl) rfl (⟨HD.out.2.1, .inl ⟨_, _, _, _, HQ.out, rfl, HM.out⟩⟩)
end Go.Proofs.YtjeamfoicpgkhaaGreatDoor.RefGet
