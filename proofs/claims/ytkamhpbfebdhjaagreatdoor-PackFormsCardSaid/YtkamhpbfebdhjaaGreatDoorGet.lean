/- pack.Get. -/
import Derived.Test.YtkamhpbfebdhjaaGreatDoorTakeM
import Derived.Test.YtkamhpbfebdhjaaGreatDoorPut
namespace Go.Proofs.YtkamhpbfebdhjaaGreatDoor.Get
open Go.RowKit Go.Lib Go.Proofs.YtkamhpbfebdhjaaGreatDoor.Mem Go.Proofs.YtkamhpbfebdhjaaGreatDoor.Read Go.Proofs.YtkamhpbfebdhjaaGreatDoor.Tree Go.Proofs.YtkamhpbfebdhjaaGreatDoor.Data Go.Proofs.YtkamhpbfebdhjaaGreatDoor.Env Go.Proofs.YtkamhpbfebdhjaaGreatDoor.Take Go.Proofs.YtkamhpbfebdhjaaGreatDoor.Taker Go.Proofs.YtkamhpbfebdhjaaGreatDoor.Pk Go.Proofs.YtkamhpbfebdhjaaGreatDoor.PkR Go.Proofs.YtkamhpbfebdhjaaGreatDoor.OwnR Go.Proofs.YtkamhpbfebdhjaaGreatDoor.Each Go.Proofs.YtkamhpbfebdhjaaGreatDoor.EachS Go.Proofs.YtkamhpbfebdhjaaGreatDoor.MsgR Go.Proofs.YtkamhpbfebdhjaaGreatDoor.CompR Go.Proofs.YtkamhpbfebdhjaaGreatDoor.TakeE Go.Proofs.YtkamhpbfebdhjaaGreatDoor.May Go.Proofs.YtkamhpbfebdhjaaGreatDoor.TakeM
open Go.Proofs.YtkamhpbfebdhjaaGreatDoor.Writer (EnvS)
open Go.Proofs.YtkamhpbfebdhjaaGreatDoor.TakeS (TS)
open Go.Proofs.YtkamhpbfebdhjaaGreatDoor.Put (PutPost put_any)
open Go.Proofs.YtkamhpbfebdhjaaGreatDoor.MayLen (putOk)
set_option linter.unusedVariables false
set_option linter.unusedSimpArgs false
theorem ints_reads {base : Nat} {w : World} {xs : List Int} {v : Value} (h : IntsR base w xs v) : SlR 1 intR w xs v := by
  have := RowO.reads (R := intR) (by decide) id h (fun _ _ => rfl) (fun a _ => rfl)
  rwa [List.map_id] at this
theorem comps_reads {base : Nat} {w : World} {xs : List CompD} {v : Value} (h : CompsW base w xs v) : CompsR w xs v := by
  have := RowO.reads (R := compR) (by decide) id h (fun _ _ => rfl) (fun a ha => ⟨rfl, h.2.2 a ha⟩)
  rwa [List.map_id] at this
theorem steps_reads {base : Nat} {w : World} {xs : List (StepD × Value)} {v : Value} (h : StepsW base w xs v) : StepsR w (xs.map (·.1)) v :=
  RowO.reads (R := stepR) (by decide) (·.1) h (fun _ _ => rfl) (fun a ha => ⟨a.2, rfl, ints_reads (base := base) (xs := a.1.kids) (h.2.2 a ha)⟩)
theorem nodes_reads {base : Nat} {w : World} {xs : List (NodeD × Value)} {v : Value} (h : NodesW base w xs v) : NodesR w (xs.map (·.1)) v :=
  RowO.reads (R := nodeR) (by decide) (·.1) h (fun _ _ => rfl) (fun a ha => ⟨a.2, rfl, ints_reads (base := base) (xs := a.1.kids) (h.2.2 a ha)⟩)
theorem entries_reads {base : Nat} {w : World} {xs : List (EntryD × Value × Value)} {v : Value} (h : EntriesW base w xs v) : EntriesR w (xs.map (·.1)) v :=
  RowO.reads (R := entryR) (by decide) (·.1) h (fun _ _ => rfl) (fun a ha => by
    obtain ⟨h1, ss, h2, h3⟩ := h.2.2 a ha
    exact ⟨a.2.1, a.2.2, rfl, comps_reads h1, by rw [← h2]; exact steps_reads h3⟩)
theorem msg_reads {base : Nat} {w : World} {m : MsgD} {ev env nv : Value} (h : MsgW base w m ev env nv) : MsgR w m ev env nv := by
  obtain ⟨h1, ⟨es, e2, h2⟩, ⟨ns, e3, h3⟩, h4⟩ := h
  exact ⟨comps_reads h1, by rw [← e2]; exact entries_reads h2, by rw [← e3]; exact nodes_reads h3, h4⟩
/-- A text is that of a message, and of no more than a million bytes. -/
def SaysP (m : MsgD) (l : List UInt8) : Prop := putOk m = true ∧ putS m = l
theorem SaysP.says {m : MsgD} {l : List UInt8} (h : SaysP m l) : Says m l := by
  obtain ⟨h1, h2⟩ := h
  unfold putOk at h1
  rw [Bool.and_eq_true] at h1
  exact ⟨h1.1, h2⟩
theorem SaysP.got {m : MsgD} {l : List UInt8} (h : SaysP m l) : takeM (l, false) = (m, [], false) := by
  have := says_got h.says []
  rwa [List.append_nil] at this
def zM : MsgD := ⟨0, 0, 0, 0, 0, 0, false, [], [], ba [], noTree⟩
def zV : Value := .slice none 0 0
def GetPost (w : World) (l : List UInt8) (e : Ending) (w' : World) : Prop := Step No w w' ∧
  ((∃ m ev env nv, SaysP m l ∧ e = .returned (.tuple #[.agg (msgCells m ev env nv), .int .i64 0]) ∧ MsgW w.heap.size w' m ev env nv) ∨
   ((∀ m, ¬ SaysP m l) ∧ e = .returned (.tuple #[.agg (msgCells zM zV zV zV), .int .i64 1700])))
theorem get_no {w w' : World} {l : List UInt8} {m : MsgD} {st : St} (hs : Step No w w') (ht : takeM (l, false) = (m, st)) (h : st.2 = true ∨ putOk m = false ∨ putS m ≠ l) : GetPost w l (.returned (.tuple #[.agg (msgCells zM zV zV zV), .int .i64 1700])) w' := by
  refine ⟨hs, .inr ⟨fun m' h' => ?_, rfl⟩⟩
  have h1 := h'.got
  rw [ht] at h1
  injection h1 with a b
  subst a
  rcases h with h | h | h
  · rw [b] at h; cases h
  · rw [h'.1] at h; cases h
  · exact h h'.2
theorem rng_n {st st' : St} {m : MsgD} (h : takeM st = (m, st')) : ParMay.RngN m.tree.nodes := by
  intro x hx
  have h1 := msg_small st x (by rw [h]; exact hx)
  exact ⟨Put.small_rng h1.1, fun k hk => Put.small_rng (h1.2 k hk)⟩
theorem get_step {w w' : World} {cs ds : Array Value} {t u : TypeId} (h : Step (fun k => k = w.heap.size + 1) ((w.alloc (.cells cs t)).alloc (.cells ds u)) w') : Step No w w' :=
  (((Step.refl No w).alloc _).alloc _).trans h (fun i e hlt => by omega)
theorem msg_base {base base' : Nat} {w : World} {m : MsgD} {ev env nv : Value} (h : MsgW base w m ev env nv) (hb : base' ≤ base) : MsgW base' w m ev env nv := by
  obtain ⟨h1, ⟨es, e2, h2⟩, ⟨ns, e3, h3⟩, h4⟩ := h
  exact ⟨comps_base h1 hb, ⟨es, e2, entries_base h2 hb⟩, ⟨ns, e3, nodes_base h3 hb⟩, h4⟩
theorem str_eq (a b : List UInt8) : (((⟨a.toArray⟩ : ByteArray).toList == (⟨b.toArray⟩ : ByteArray).toList) = true) ↔ a = b := by
  rw [ByteArray.toList_eq, ByteArray.toList_eq]
  simp
theorem str_ne {a b : List UInt8} (h : a ≠ b) : ((⟨a.toArray⟩ : ByteArray).toList == (⟨b.toArray⟩ : ByteArray).toList) = false := by
  rw [← Bool.not_eq_true, str_eq]; exact h
/-- The result's place, filled. -/
theorem filled {w wr : World} {r : Nat} {vs : List Value} (hr : wr.heap[r]? = some (.cells mZ TM (0, 0))) (hl : vs.length = 13) (hle : w.heap.size ≤ r) (hs : Step No w wr) :
    (sets wr r 0 vs).heap[r]? = some (.cells ⟨vs⟩ TM (0, 0)) ∧ Step No w (sets wr r 0 vs) ∧ Step (fun k => k = r) wr (sets wr r 0 vs) := by
  have h1 := sets_step r vs wr 0
  refine ⟨?_, hs.trans h1 (fun k f hk => absurd f (by omega)), h1⟩
  have := sets_blk vs [] mZ.toList wr (by simpa using hr) (by rw [hl]; rfl)
  simpa using this
set_option maxHeartbeats 16000000 in
set_option maxRecDepth 100000 in
theorem get_any (w : World) (l : List UInt8) (hl : l.length ≤ 140737488355328) (hE : Env w) : Calls Tryz.prog 10 #[.string ⟨l.toArray⟩] w (GetPost w l) := by
  have HE := Lib.hid hE
  have HLn := Lib.hid hl
  have HT : Hid (TRep ((w.alloc (.cells mZ TM)).alloc (.cells #[.string ⟨l.toArray⟩, .bool false] TT)) (w.heap.size + 1) (l, false)) := Lib.hid ⟨by simpa using blk_new (w.alloc (.cells mZ TM)) (.cells #[.string ⟨l.toArray⟩, .bool false] TT), hl⟩
  have HR1 : Hid (((w.alloc (.cells mZ TM)).alloc (.cells #[.string ⟨l.toArray⟩, .bool false] TT)).heap[w.heap.size]? = some (.cells mZ TM (0, 0))) := Lib.hid (blk_alloc (blk_new _ _) _)
  have HS1 : Hid (Step No w ((w.alloc (.cells mZ TM)).alloc (.cells #[.string ⟨l.toArray⟩, .bool false] TT))) := Lib.hid (((Step.refl No w).alloc _).alloc _)
  have HBE : Hid (w.heap.size < w.heap.size + 1) := Lib.hid (Nat.lt_succ_self _)
  clear hE hl
  simp only [mZ] at HT HR1 HS1
  go_enter Tryz.func10, Tryz.ntmps10
  go_wp2_with fail
  generalize hW : World.alloc (World.alloc w _) _ = w2 at *
  clear hW
  obtain ⟨r, hr⟩ : ∃ r, w.heap.size = r := ⟨_, rfl⟩
  have HRr := Lib.hid hr
  have HLE : Hid (w.heap.size ≤ r) := Lib.hid (Nat.le_of_eq hr)
  rw [hr] at HR1 HBE HT ⊢
  generalize hb : r + 1 = b at *
  clear hb hr
  refine (message_any w2 b (l, false) HT.out (fun w' hs => HE.out.step (HS1.out.trans hs (fun i e hlt => by have := HBE.out; have := HRr.out; omega)))).mono ?_
  rintro e w3 ⟨m, ev, env, nv, st', htm, rfl, hmw, htk⟩
  obtain ⟨⟨A1, n1, c1, rfl⟩, ⟨A2, n2, c2, rfl⟩, A3, n3, c3, rfl⟩ := hmw.slices
  have HTM := Lib.hid htm
  have HMW := Lib.hid (msg_base hmw HS1.out.size)
  have HTK := Lib.hid htk
  have HST3 : Hid (Step No w w3) := Lib.hid (HS1.out.trans htk.2 (fun i e hlt => by have := HBE.out; have := HRr.out; omega))
  have HR3 := Lib.hid (res_at HR1.out HT.out.1 (by decide) htk.2)
  clear hmw htk htm HR1 HT HS1
  obtain ⟨kd, cl, rv, sq, fm, ls, rf, es, en, tx, ⟨rt, nx, ns⟩⟩ := m
  simp only [msgCells]
  have hs4 : Step No w3 (w3.alloc (.cells #[.int .i64 kd, .int .i64 cl, .int .i64 rv, .int .i64 sq, .int .i64 fm, .int .i64 ls, .bool rf, .slice A1 n1 c1, .slice A2 n2 c2, .string tx, .int .i64 rt, .int .i64 nx, .slice A3 n3 c3] TM)) := Step.alloc (Step.refl _ _) _
  have HMW4 := Lib.hid (HMW.out.go hs4 (Types.no _ _ _))
  have HST4 : Hid (Step No w (w3.alloc (.cells #[.int .i64 kd, .int .i64 cl, .int .i64 rv, .int .i64 sq, .int .i64 fm, .int .i64 ls, .bool rf, .slice A1 n1 c1, .slice A2 n2 c2, .string tx, .int .i64 rt, .int .i64 nx, .slice A3 n3 c3] TM))) := Lib.hid (HST3.out.trans hs4 (fun _ f _ => f))
  clear hs4
  go_wp2_with fail
  refine (put_any ⟨kd, cl, rv, sq, fm, ls, rf, es, en, tx, ⟨rt, nx, ns⟩⟩ _ _ _ _ (msg_reads HMW4.out) (rng_n HTM.out) (HE.out.step HST4.out)).mono ?_
  rintro e w5 ⟨hs5, hp⟩
  have hs35 : Step No w3 w5 := (Step.alloc (Step.refl _ _) _).trans hs5 (fun _ f _ => f)
  have hB := hs5.blk (blk_new w3 (.cells #[.int .i64 kd, .int .i64 cl, .int .i64 rv, .int .i64 sq, .int .i64 fm, .int .i64 ls, .bool rf, .slice A1 n1 c1, .slice A2 n2 c2, .string tx, .int .i64 rt, .int .i64 nx, .slice A3 n3 c3] TM)) (fun f => f)
  have HST : Hid (Step No w w5) := Lib.hid (HST4.out.trans hs5 (fun _ f _ => f))
  have HR : Hid (w5.heap[r]? = some (.cells mZ TM (0, 0))) := Lib.hid (hs35.blk HR3.out (fun f => f))
  have ht5 := hs35.blk HTK.out.blk (fun f => f)
  have HM0 := Lib.hid (HMW4.out.go hs5 (Types.no _ _ _))
  have g0 := blk_cell hB 0
  have g1 := blk_cell hB 1
  have g2 := blk_cell hB 2
  have g3 := blk_cell hB 3
  have g4 := blk_cell hB 4
  have g5 := blk_cell hB 5
  have g6 := blk_cell hB 6
  have g7 := blk_cell hB 7
  have g8 := blk_cell hB 8
  have g9 := blk_cell hB 9
  have g10 := blk_cell hB 10
  have g11 := blk_cell hB 11
  have g12 := blk_cell hB 12
  simp at g0 g1 g2 g3 g4 g5 g6 g7 g8 g9 g10 g11 g12
  have t1 := blk_cell ht5 1
  clear hB ht5 hs5 hs35 HMW HMW4 HR3 HST3 HST4 HTK
  obtain ⟨tl, bad⟩ := st'
  simp at t1
  generalize w3.heap.size = q at *
  cases bad with
  | true =>
    rcases hp with ⟨hp, rfl⟩ | ⟨hp, rfl⟩
    · clear hp
      unfold ba
      generalize hpl : putS _ = pl
      clear hpl
      have k0 := blk_cell HR.out 0
      have y0 := blk_free HR.out 0
      have k1 := blk_cell HR.out 1
      have y1 := blk_free HR.out 1
      have k2 := blk_cell HR.out 2
      have y2 := blk_free HR.out 2
      have k3 := blk_cell HR.out 3
      have y3 := blk_free HR.out 3
      have k4 := blk_cell HR.out 4
      have y4 := blk_free HR.out 4
      have k5 := blk_cell HR.out 5
      have y5 := blk_free HR.out 5
      have k6 := blk_cell HR.out 6
      have y6 := blk_free HR.out 6
      have k7 := blk_cell HR.out 7
      have y7 := blk_free HR.out 7
      have k8 := blk_cell HR.out 8
      have y8 := blk_free HR.out 8
      have k9 := blk_cell HR.out 9
      have y9 := blk_free HR.out 9
      have k10 := blk_cell HR.out 10
      have y10 := blk_free HR.out 10
      have k11 := blk_cell HR.out 11
      have y11 := blk_free HR.out 11
      have k12 := blk_cell HR.out 12
      have y12 := blk_free HR.out 12
      simp [mZ] at k0 k1 k2 k3 k4 k5 k6 k7 k8 k9 k10 k11 k12
      have HD := Lib.hid (filled (vs := [.int .i64 0, .int .i64 0, .int .i64 0, .int .i64 0, .int .i64 0, .int .i64 0, .bool false, .slice none 0 0, .slice none 0 0, .string ⟨#[]⟩, .int .i64 0, .int .i64 0, .slice none 0 0]) HR.out rfl HLE.out HST.out)
      have HM : Hid True := Lib.hid trivial
      simp only [sets, Nat.reduceAdd] at HD HM
      clear HR HST
      go_wp2
      generalize hW : World.setCell (World.setCell (World.setCell (World.setCell (World.setCell (World.setCell (World.setCell (World.setCell (World.setCell (World.setCell (World.setCell (World.setCell (World.setCell _ ⟨r, 0, none⟩ _) ⟨r, 1, none⟩ _) ⟨r, 2, none⟩ _) ⟨r, 3, none⟩ _) ⟨r, 4, none⟩ _) ⟨r, 5, none⟩ _) ⟨r, 6, none⟩ _) ⟨r, 7, none⟩ _) ⟨r, 8, none⟩ _) ⟨r, 9, none⟩ _) ⟨r, 10, none⟩ _) ⟨r, 11, none⟩ _) ⟨r, 12, none⟩ _ = W at *
      clear hW
      have r0 := blk_cell HD.out.1 0
      have r1 := blk_cell HD.out.1 1
      have r2 := blk_cell HD.out.1 2
      have r3 := blk_cell HD.out.1 3
      have r4 := blk_cell HD.out.1 4
      have r5 := blk_cell HD.out.1 5
      have r6 := blk_cell HD.out.1 6
      have r7 := blk_cell HD.out.1 7
      have r8 := blk_cell HD.out.1 8
      have r9 := blk_cell HD.out.1 9
      have r10 := blk_cell HD.out.1 10
      have r11 := blk_cell HD.out.1 11
      have r12 := blk_cell HD.out.1 12
      simp at r0 r1 r2 r3 r4 r5 r6 r7 r8 r9 r10 r11 r12
      exact bodyPost_ret (by simp [results, Tryz.results10, go_sem, r0, r1, r2, r3, r4, r5, r6, r7, r8, r9, r10, r11, r12]; rfl) rfl (get_no HD.out.2.1 HTM.out (.inl rfl))
    · clear hp
      have k0 := blk_cell HR.out 0
      have y0 := blk_free HR.out 0
      have k1 := blk_cell HR.out 1
      have y1 := blk_free HR.out 1
      have k2 := blk_cell HR.out 2
      have y2 := blk_free HR.out 2
      have k3 := blk_cell HR.out 3
      have y3 := blk_free HR.out 3
      have k4 := blk_cell HR.out 4
      have y4 := blk_free HR.out 4
      have k5 := blk_cell HR.out 5
      have y5 := blk_free HR.out 5
      have k6 := blk_cell HR.out 6
      have y6 := blk_free HR.out 6
      have k7 := blk_cell HR.out 7
      have y7 := blk_free HR.out 7
      have k8 := blk_cell HR.out 8
      have y8 := blk_free HR.out 8
      have k9 := blk_cell HR.out 9
      have y9 := blk_free HR.out 9
      have k10 := blk_cell HR.out 10
      have y10 := blk_free HR.out 10
      have k11 := blk_cell HR.out 11
      have y11 := blk_free HR.out 11
      have k12 := blk_cell HR.out 12
      have y12 := blk_free HR.out 12
      simp [mZ] at k0 k1 k2 k3 k4 k5 k6 k7 k8 k9 k10 k11 k12
      have HD := Lib.hid (filled (vs := [.int .i64 0, .int .i64 0, .int .i64 0, .int .i64 0, .int .i64 0, .int .i64 0, .bool false, .slice none 0 0, .slice none 0 0, .string ⟨#[]⟩, .int .i64 0, .int .i64 0, .slice none 0 0]) HR.out rfl HLE.out HST.out)
      have HM : Hid True := Lib.hid trivial
      simp only [sets, Nat.reduceAdd] at HD HM
      clear HR HST
      go_wp2
      generalize hW : World.setCell (World.setCell (World.setCell (World.setCell (World.setCell (World.setCell (World.setCell (World.setCell (World.setCell (World.setCell (World.setCell (World.setCell (World.setCell _ ⟨r, 0, none⟩ _) ⟨r, 1, none⟩ _) ⟨r, 2, none⟩ _) ⟨r, 3, none⟩ _) ⟨r, 4, none⟩ _) ⟨r, 5, none⟩ _) ⟨r, 6, none⟩ _) ⟨r, 7, none⟩ _) ⟨r, 8, none⟩ _) ⟨r, 9, none⟩ _) ⟨r, 10, none⟩ _) ⟨r, 11, none⟩ _) ⟨r, 12, none⟩ _ = W at *
      clear hW
      have r0 := blk_cell HD.out.1 0
      have r1 := blk_cell HD.out.1 1
      have r2 := blk_cell HD.out.1 2
      have r3 := blk_cell HD.out.1 3
      have r4 := blk_cell HD.out.1 4
      have r5 := blk_cell HD.out.1 5
      have r6 := blk_cell HD.out.1 6
      have r7 := blk_cell HD.out.1 7
      have r8 := blk_cell HD.out.1 8
      have r9 := blk_cell HD.out.1 9
      have r10 := blk_cell HD.out.1 10
      have r11 := blk_cell HD.out.1 11
      have r12 := blk_cell HD.out.1 12
      simp at r0 r1 r2 r3 r4 r5 r6 r7 r8 r9 r10 r11 r12
      exact bodyPost_ret (by simp [results, Tryz.results10, go_sem, r0, r1, r2, r3, r4, r5, r6, r7, r8, r9, r10, r11, r12]; rfl) rfl (get_no HD.out.2.1 HTM.out (.inl rfl))
  | false =>
    rcases hp with ⟨hp, rfl⟩ | ⟨hp, rfl⟩
    · have HP := Lib.hid hp
      by_cases hq : putS ⟨kd, cl, rv, sq, fm, ls, rf, es, en, tx, ⟨rt, nx, ns⟩⟩ = l
      · have HQ := Lib.hid hq
        have hq1 : (putS ⟨kd, cl, rv, sq, fm, ls, rf, es, en, tx, ⟨rt, nx, ns⟩⟩ == l) = true := beq_iff_eq.2 hq
        clear hp hq
        unfold ba
        generalize hpl : putS _ = pl at hq1 ⊢
        clear hpl
        have k0 := blk_cell HR.out 0
        have y0 := blk_free HR.out 0
        have k1 := blk_cell HR.out 1
        have y1 := blk_free HR.out 1
        have k2 := blk_cell HR.out 2
        have y2 := blk_free HR.out 2
        have k3 := blk_cell HR.out 3
        have y3 := blk_free HR.out 3
        have k4 := blk_cell HR.out 4
        have y4 := blk_free HR.out 4
        have k5 := blk_cell HR.out 5
        have y5 := blk_free HR.out 5
        have k6 := blk_cell HR.out 6
        have y6 := blk_free HR.out 6
        have k7 := blk_cell HR.out 7
        have y7 := blk_free HR.out 7
        have k8 := blk_cell HR.out 8
        have y8 := blk_free HR.out 8
        have k9 := blk_cell HR.out 9
        have y9 := blk_free HR.out 9
        have k10 := blk_cell HR.out 10
        have y10 := blk_free HR.out 10
        have k11 := blk_cell HR.out 11
        have y11 := blk_free HR.out 11
        have k12 := blk_cell HR.out 12
        have y12 := blk_free HR.out 12
        simp [mZ] at k0 k1 k2 k3 k4 k5 k6 k7 k8 k9 k10 k11 k12
        have HD := Lib.hid (filled (vs := [.int .i64 kd, .int .i64 cl, .int .i64 rv, .int .i64 sq, .int .i64 fm, .int .i64 ls, .bool rf, .slice A1 n1 c1, .slice A2 n2 c2, .string tx, .int .i64 rt, .int .i64 nx, .slice A3 n3 c3]) HR.out rfl HLE.out HST.out)
        have HM := Lib.hid (HM0.out.go HD.out.2.2 (Types.at HR.out (by decide)))
        simp only [sets, Nat.reduceAdd] at HD HM
        clear HR HST
        go_wp2
        generalize hW : World.setCell (World.setCell (World.setCell (World.setCell (World.setCell (World.setCell (World.setCell (World.setCell (World.setCell (World.setCell (World.setCell (World.setCell (World.setCell _ ⟨r, 0, none⟩ _) ⟨r, 1, none⟩ _) ⟨r, 2, none⟩ _) ⟨r, 3, none⟩ _) ⟨r, 4, none⟩ _) ⟨r, 5, none⟩ _) ⟨r, 6, none⟩ _) ⟨r, 7, none⟩ _) ⟨r, 8, none⟩ _) ⟨r, 9, none⟩ _) ⟨r, 10, none⟩ _) ⟨r, 11, none⟩ _) ⟨r, 12, none⟩ _ = W at *
        clear hW
        have r0 := blk_cell HD.out.1 0
        have r1 := blk_cell HD.out.1 1
        have r2 := blk_cell HD.out.1 2
        have r3 := blk_cell HD.out.1 3
        have r4 := blk_cell HD.out.1 4
        have r5 := blk_cell HD.out.1 5
        have r6 := blk_cell HD.out.1 6
        have r7 := blk_cell HD.out.1 7
        have r8 := blk_cell HD.out.1 8
        have r9 := blk_cell HD.out.1 9
        have r10 := blk_cell HD.out.1 10
        have r11 := blk_cell HD.out.1 11
        have r12 := blk_cell HD.out.1 12
        simp at r0 r1 r2 r3 r4 r5 r6 r7 r8 r9 r10 r11 r12
        exact bodyPost_ret (by simp [results, Tryz.results10, go_sem, r0, r1, r2, r3, r4, r5, r6, r7, r8, r9, r10, r11, r12]; rfl) rfl (⟨HD.out.2.1, .inl ⟨_, _, _, _, ⟨HP.out, HQ.out⟩, rfl, HM.out⟩⟩)
      · have HQ := Lib.hid hq
        have hq1 : (putS ⟨kd, cl, rv, sq, fm, ls, rf, es, en, tx, ⟨rt, nx, ns⟩⟩ == l) = false := beq_eq_false_iff_ne.2 hq
        clear hp hq
        unfold ba
        generalize hpl : putS _ = pl at hq1 ⊢
        clear hpl
        have k0 := blk_cell HR.out 0
        have y0 := blk_free HR.out 0
        have k1 := blk_cell HR.out 1
        have y1 := blk_free HR.out 1
        have k2 := blk_cell HR.out 2
        have y2 := blk_free HR.out 2
        have k3 := blk_cell HR.out 3
        have y3 := blk_free HR.out 3
        have k4 := blk_cell HR.out 4
        have y4 := blk_free HR.out 4
        have k5 := blk_cell HR.out 5
        have y5 := blk_free HR.out 5
        have k6 := blk_cell HR.out 6
        have y6 := blk_free HR.out 6
        have k7 := blk_cell HR.out 7
        have y7 := blk_free HR.out 7
        have k8 := blk_cell HR.out 8
        have y8 := blk_free HR.out 8
        have k9 := blk_cell HR.out 9
        have y9 := blk_free HR.out 9
        have k10 := blk_cell HR.out 10
        have y10 := blk_free HR.out 10
        have k11 := blk_cell HR.out 11
        have y11 := blk_free HR.out 11
        have k12 := blk_cell HR.out 12
        have y12 := blk_free HR.out 12
        simp [mZ] at k0 k1 k2 k3 k4 k5 k6 k7 k8 k9 k10 k11 k12
        have HD := Lib.hid (filled (vs := [.int .i64 0, .int .i64 0, .int .i64 0, .int .i64 0, .int .i64 0, .int .i64 0, .bool false, .slice none 0 0, .slice none 0 0, .string ⟨#[]⟩, .int .i64 0, .int .i64 0, .slice none 0 0]) HR.out rfl HLE.out HST.out)
        have HM : Hid True := Lib.hid trivial
        simp only [sets, Nat.reduceAdd] at HD HM
        clear HR HST
        go_wp2
        generalize hW : World.setCell (World.setCell (World.setCell (World.setCell (World.setCell (World.setCell (World.setCell (World.setCell (World.setCell (World.setCell (World.setCell (World.setCell (World.setCell _ ⟨r, 0, none⟩ _) ⟨r, 1, none⟩ _) ⟨r, 2, none⟩ _) ⟨r, 3, none⟩ _) ⟨r, 4, none⟩ _) ⟨r, 5, none⟩ _) ⟨r, 6, none⟩ _) ⟨r, 7, none⟩ _) ⟨r, 8, none⟩ _) ⟨r, 9, none⟩ _) ⟨r, 10, none⟩ _) ⟨r, 11, none⟩ _) ⟨r, 12, none⟩ _ = W at *
        clear hW
        have r0 := blk_cell HD.out.1 0
        have r1 := blk_cell HD.out.1 1
        have r2 := blk_cell HD.out.1 2
        have r3 := blk_cell HD.out.1 3
        have r4 := blk_cell HD.out.1 4
        have r5 := blk_cell HD.out.1 5
        have r6 := blk_cell HD.out.1 6
        have r7 := blk_cell HD.out.1 7
        have r8 := blk_cell HD.out.1 8
        have r9 := blk_cell HD.out.1 9
        have r10 := blk_cell HD.out.1 10
        have r11 := blk_cell HD.out.1 11
        have r12 := blk_cell HD.out.1 12
        simp at r0 r1 r2 r3 r4 r5 r6 r7 r8 r9 r10 r11 r12
        exact bodyPost_ret (by simp [results, Tryz.results10, go_sem, r0, r1, r2, r3, r4, r5, r6, r7, r8, r9, r10, r11, r12]; rfl) rfl (get_no HD.out.2.1 HTM.out (.inr (.inr HQ.out)))
    · have HP := Lib.hid hp
      clear hp
      have k0 := blk_cell HR.out 0
      have y0 := blk_free HR.out 0
      have k1 := blk_cell HR.out 1
      have y1 := blk_free HR.out 1
      have k2 := blk_cell HR.out 2
      have y2 := blk_free HR.out 2
      have k3 := blk_cell HR.out 3
      have y3 := blk_free HR.out 3
      have k4 := blk_cell HR.out 4
      have y4 := blk_free HR.out 4
      have k5 := blk_cell HR.out 5
      have y5 := blk_free HR.out 5
      have k6 := blk_cell HR.out 6
      have y6 := blk_free HR.out 6
      have k7 := blk_cell HR.out 7
      have y7 := blk_free HR.out 7
      have k8 := blk_cell HR.out 8
      have y8 := blk_free HR.out 8
      have k9 := blk_cell HR.out 9
      have y9 := blk_free HR.out 9
      have k10 := blk_cell HR.out 10
      have y10 := blk_free HR.out 10
      have k11 := blk_cell HR.out 11
      have y11 := blk_free HR.out 11
      have k12 := blk_cell HR.out 12
      have y12 := blk_free HR.out 12
      simp [mZ] at k0 k1 k2 k3 k4 k5 k6 k7 k8 k9 k10 k11 k12
      have HD := Lib.hid (filled (vs := [.int .i64 0, .int .i64 0, .int .i64 0, .int .i64 0, .int .i64 0, .int .i64 0, .bool false, .slice none 0 0, .slice none 0 0, .string ⟨#[]⟩, .int .i64 0, .int .i64 0, .slice none 0 0]) HR.out rfl HLE.out HST.out)
      have HM : Hid True := Lib.hid trivial
      simp only [sets, Nat.reduceAdd] at HD HM
      clear HR HST
      go_wp2
      generalize hW : World.setCell (World.setCell (World.setCell (World.setCell (World.setCell (World.setCell (World.setCell (World.setCell (World.setCell (World.setCell (World.setCell (World.setCell (World.setCell _ ⟨r, 0, none⟩ _) ⟨r, 1, none⟩ _) ⟨r, 2, none⟩ _) ⟨r, 3, none⟩ _) ⟨r, 4, none⟩ _) ⟨r, 5, none⟩ _) ⟨r, 6, none⟩ _) ⟨r, 7, none⟩ _) ⟨r, 8, none⟩ _) ⟨r, 9, none⟩ _) ⟨r, 10, none⟩ _) ⟨r, 11, none⟩ _) ⟨r, 12, none⟩ _ = W at *
      clear hW
      have r0 := blk_cell HD.out.1 0
      have r1 := blk_cell HD.out.1 1
      have r2 := blk_cell HD.out.1 2
      have r3 := blk_cell HD.out.1 3
      have r4 := blk_cell HD.out.1 4
      have r5 := blk_cell HD.out.1 5
      have r6 := blk_cell HD.out.1 6
      have r7 := blk_cell HD.out.1 7
      have r8 := blk_cell HD.out.1 8
      have r9 := blk_cell HD.out.1 9
      have r10 := blk_cell HD.out.1 10
      have r11 := blk_cell HD.out.1 11
      have r12 := blk_cell HD.out.1 12
      simp at r0 r1 r2 r3 r4 r5 r6 r7 r8 r9 r10 r11 r12
      exact bodyPost_ret (by simp [results, Tryz.results10, go_sem, r0, r1, r2, r3, r4, r5, r6, r7, r8, r9, r10, r11, r12]; rfl) rfl (get_no HD.out.2.1 HTM.out (.inr (.inl HP.out)))
end Go.Proofs.YtkamhpbfebdhjaaGreatDoor.Get
