/- A message, put: the program's answer. -/
import Derived.Test.YtkamhpbfebdhjaaGreatDoorLumpW
import Derived.Test.YtkamhpbfebdhjaaGreatDoorMsgMay
import Derived.Test.YtkamhpbfebdhjaaGreatDoorLumpA
namespace Go.Proofs.YtkamhpbfebdhjaaGreatDoor.Put
open Go.RowKit Go.Lib Go.Proofs.YtkamhpbfebdhjaaGreatDoor.Mem Go.Proofs.YtkamhpbfebdhjaaGreatDoor.Build Go.Proofs.YtkamhpbfebdhjaaGreatDoor.Env Go.Proofs.YtkamhpbfebdhjaaGreatDoor.Take Go.Proofs.YtkamhpbfebdhjaaGreatDoor.Read Go.Proofs.YtkamhpbfebdhjaaGreatDoor.Tree Go.Proofs.YtkamhpbfebdhjaaGreatDoor.Data Go.Proofs.YtkamhpbfebdhjaaGreatDoor.CompR Go.Proofs.YtkamhpbfebdhjaaGreatDoor.MsgR Go.Proofs.YtkamhpbfebdhjaaGreatDoor.Pk Go.Proofs.YtkamhpbfebdhjaaGreatDoor.May Go.Proofs.YtkamhpbfebdhjaaGreatDoor.MayLen Go.Proofs.YtkamhpbfebdhjaaGreatDoor.Writer Go.Proofs.YtkamhpbfebdhjaaGreatDoor.MsgMay
set_option linter.unusedVariables false
set_option linter.unusedSimpArgs false
theorem small_rng {x : Int} (h : Small x) : Rng x := ⟨by have := h.1; omega, by have := h.2; omega⟩
theorem fineK {ks : List Int} (h : WfK ks) : FineK ks := ⟨fun k hk => small_rng (h.2 k hk), by have := h.1.2; omega⟩
theorem fineC {c : CompD} (h : WfC c) : FineC c := by
  rcases h with ⟨_, h1, h2⟩ | ⟨_, h1, h2⟩
  · exact ⟨⟨by omega, by omega⟩, by have := h2.2; omega⟩
  · exact ⟨small_rng h1, by rw [h2]; exact Nat.zero_le _⟩
theorem fineS {s : StepD} (h : WfS s) : FineS s := ⟨small_rng h.1, small_rng h.2.1, small_rng h.2.2.1, small_rng h.2.2.2.1, small_rng h.2.2.2.2.1, fineK h.2.2.2.2.2⟩
theorem fineEn {e : EntryD} (h : WfEn e) : FineEn e := ⟨small_rng h.1, small_rng h.2.1, fun c hc => fineC (h.2.2.1.2 c hc), by have := h.2.2.1.1.2; omega, fun s hs => fineS (h.2.2.2.2 s hs), by have := h.2.2.2.1.2; omega⟩
theorem fineN {x : NodeD} (h : WfN x) : FineN x := ⟨small_rng h.1, small_rng h.2.1, small_rng h.2.2.1, small_rng h.2.2.2.1, fineK h.2.2.2.2⟩
theorem fineT {t : TreeD} (h : WfT t) : FineT t := ⟨small_rng h.1, small_rng h.2.1, fun x hx => fineN (h.2.2.2 x hx), by have := h.2.2.1.2; omega⟩
theorem len_any (ok : Nat → Prop) (w : World) (b : Nat) (l : List UInt8) (h : WRep ok w b l) : Calls Tryz.prog 33 #[.pointer (some ⟨b, 0, none⟩)] w fun e w' => e = .returned (.int .i64 l.length) ∧ w = w' := by
  obtain ⟨p, v, h1, h2, h3, h4, h5⟩ := h
  obtain ⟨A, c, rfl, -, -⟩ := row_slice h4
  have c1 : w.cell? ⟨b, 1, none⟩ = some (.slice A l.length c) := blk_cell h1 1
  clear h1 h2 h3 h4 h5
  go_enter Tryz.func33, Tryz.ntmps33
  go_wp2
  go_ret
  exact ⟨rfl, rfl⟩
def PutPost (m : MsgD) (w : World) (e : Ending) (w' : World) : Prop :=
  Step No w w' ∧ ((putOk m = true ∧ e = .returned (.tuple #[.string (ba (putS m)), .int .i64 0])) ∨ (putOk m = false ∧ e = .returned (.tuple #[.string ⟨#[]⟩, .int .i64 1700])))
theorem put_no {m : MsgD} {w w' : World} (h : msgB m = false) (hs : Step No w w') : PutPost m w (.returned (.tuple #[.string ⟨#[]⟩, .int .i64 1700])) w' := ⟨hs, .inr ⟨by unfold putOk; rw [h]; rfl, rfl⟩⟩
theorem put_long {m : MsgD} {w w' : World} (h : ¬ (putS m).length ≤ 1000000) (hs : Step No w w') : PutPost m w (.returned (.tuple #[.string ⟨#[]⟩, .int .i64 1700])) w' := ⟨hs, .inr ⟨by unfold putOk; rw [decide_eq_false h, Bool.and_false], rfl⟩⟩
theorem put_yes {m : MsgD} {w w' : World} (hm : msgB m = true) (h : (putS m).length ≤ 1000000) (hs : Step No w w') : PutPost m w (.returned (.tuple #[.string ⟨(putS m).toArray⟩, .int .i64 0])) w' := ⟨hs, .inl ⟨by unfold putOk; rw [hm, decide_eq_true h]; rfl, rfl⟩⟩
/-- What lies before the writer is made. -/
structure Base (w2 : World) (bM : Nat) (m : MsgD) (ev env nv : Value) : Prop where
  box : w2.heap[bM]? = some (.cells (msgCells m ev env nv) TM (0, 0))
  data : MsgR w2 m ev env nv
  env : Env w2
def Own (b k : Nat) : Prop := k = b
theorem own_no {w2 w' : World} {o : Obj} (h : Step (Own w2.heap.size) (w2.alloc o) w') : Step No w2 w' := ((Step.refl No w2).alloc o).trans h (fun i e hlt => by unfold Own at e; omega)
set_option maxHeartbeats 16000000 in
set_option maxRecDepth 100000 in
theorem put_any (m : MsgD) (ev env nv : Value) (w : World) (hm : MsgR w m ev env nv) (hr : ParMay.RngN m.tree.nodes) (hE : Env w) : Calls Tryz.prog 8 #[aggM m ev env nv] w (PutPost m w) := by
  obtain ⟨A, c, rfl, -, -⟩ := comps_len hm.edit
  obtain ⟨A', c', rfl, -, -⟩ := sl_len hm.entries
  obtain ⟨A'', c'', rfl, -, -⟩ := nodes_len hm.nodes
  have HR := Lib.hid hm
  have HRn := Lib.hid hr
  have HE := Lib.hid hE
  clear hm hr hE
  unfold aggM msgCells
  go_enter Tryz.func8, Tryz.ntmps8
  go_wp2_with fail
  refine (may_any m _ _ _ _ (HR.out.to (by repeat' (first | exact Step.refl _ _ | with_reducible assumption | refine Step.drew ?_ | refine Step.drewN ?_ _ | refine Step.alloc ?_ _))) HRn.out).mono ?_
  rintro e w2 ⟨rfl, hs2⟩
  have Hs2 : Hid (Step No w w2) := Lib.hid (((Step.refl No w).alloc _).trans hs2 (fun _ f _ => f))
  have HB : Hid (Base w2 w.heap.size m (.slice A m.edit.length c) (.slice A' m.entries.length c') (.slice A'' m.tree.nodes.length c'')) := Lib.hid ⟨hs2.blk (blk_new _ _) (fun f => f), HR.out.to Hs2.out, HE.out.step Hs2.out⟩
  clear hs2
  cases hb : msgB m with
  | false =>
    have Hm := Lib.hid hb
    clear hb
    go_wp2
    go_ret2
    exact put_no Hm.out Hs2.out
  | true =>
    have Hm := Lib.hid hb
    clear hb
    generalize w.heap.size = bM at *
    have H0 : Hid (WS (Own w2.heap.size) (w2.alloc (.cells #[.pointer none, .slice none 0 0] TW)) (w2.alloc (.cells #[.pointer none, .slice none 0 0] TW)) w2.heap.size []) := Lib.hid (WS.start (WRep.new w2))
    have HEn : Hid (EnvS (Own w2.heap.size) (w2.alloc (.cells #[.pointer none, .slice none 0 0] TW))) := Lib.hid fun w' h => HB.out.env.step (own_no h)
    have HMC : Hid (∀ w', Step (Own w2.heap.size) (w2.alloc (.cells #[.pointer none, .slice none 0 0] TW)) w' → MC w' bM m (.slice A m.edit.length c) (.slice A' m.entries.length c') (.slice A'' m.tree.nodes.length c'')) := Lib.hid fun w' h => MC.of ((own_no h).blk HB.out.box (fun f => f))
    have HW := Lib.hid (msg_wf Hm.out)
    obtain ⟨k, cl, rv, sq, fm, ls, rf, es, en, tx, ⟨rt, nx, ns⟩⟩ := m
    simp only at *
    have HLen := Lib.hid (put_len Hm.out)
    have hk := (msg_wf Hm.out).kind
    simp only at hk
    rcases hk with ⟨rfl, -, -, -, -, -, -, he⟩ | ⟨rfl, -, -, -, -, -, -, -, hen, he⟩ | ⟨rfl, -, -, hf, hl, ht, hT⟩
    · have HF := Lib.hid (fun c hc => fineC (he.2 c hc))
      have HE2 : Hid (putS ⟨0, cl, rv, sq, fm, ls, rf, es, en, tx, ⟨rt, nx, ns⟩⟩ = [80] ++ nums [cl, rv] ++ nums [sq] ++ editS es) := Lib.hid (by simp [putS, bodyS, letter, nums])
      have HL : Hid (([80] ++ nums [cl, rv] ++ nums [sq] ++ editS es).length ≤ 700000000 ∧ ([80] ++ nums [cl, rv] ++ nums [sq]).length ≤ 700000000 ∧ ([80] ++ nums [cl, rv]).length ≤ 700000000) := Lib.hid (by
        have := HLen.out
        rw [HE2.out] at this
        simp only [List.length_append] at *
        omega)
      have hle : es.length ≤ 1000000000000 := by have := he.1.2; omega
      clear he
      go_upto_region 4 with (fail)
      go_region_held3 (fun w' => w'.cell? ⟨bM, 0, none⟩ = some (.int .i64 0)) (first | exact (HMC.out _ Hw4.out.2).c0 | exact (HMC.out _ (Step.none (by repeat' (first | exact Step.refl _ _ | with_reducible assumption | refine Step.drew ?_ | refine Step.drewN ?_ _ | refine Step.alloc ?_ _)))).c0) ((go_at_call 27; refine (WriteByte_any _ _ _ [] 80 (H0.out.rep (by repeat' (first | exact Step.refl _ _ | with_reducible assumption | refine Step.drew ?_ | refine Step.drewN ?_ _ | refine Step.alloc ?_ _))) (by simp)).mono ?_; rintro e w4 hp; obtain ⟨rfl, hw4⟩ := H0.out.back (by repeat' (first | exact Step.refl _ _ | with_reducible assumption | refine Step.drew ?_ | refine Step.drewN ?_ _ | refine Step.alloc ?_ _)) hp; have Hw4 := Lib.hid hw4; clear hp hw4))
      have m1 := (HMC.out _ Hw4.out.2).c1
      have m2 := (HMC.out _ Hw4.out.2).c2
      simp only at m1 m2
      go_wp2_with fail
      refine (NumNew_any Hw4.out HEn.out (by repeat' (first | exact Step.refl _ _ | with_reducible assumption | refine Step.drew ?_ | refine Step.drewN ?_ _ | refine Step.alloc ?_ _)) [cl, rv] w4.heap.size (Nat.le_refl _) (by exact blk_new _ _) (rng_cons (small_rng HW.out.client) (rng_cons (small_rng HW.out.rev) rng_nil)) (by simp) (by simp)).mono ?_
      rintro e w5 ⟨rfl, hw5, -⟩
      have Hw5 : Hid (WS (Own w2.heap.size) (w2.alloc (.cells #[.pointer none, .slice none 0 0] TW)) w5 w2.heap.size ([80] ++ nums [cl, rv])) := Lib.hid hw5
      clear hw5 m1 m2
      have m0 := (HMC.out _ Hw5.out.2).c0
      simp only at m0
      have m3 := (HMC.out _ Hw5.out.2).c3
      simp only at m3
      go_wp2_with fail
      refine (NumNew_any Hw5.out HEn.out (by repeat' (first | exact Step.refl _ _ | with_reducible assumption | refine Step.drew ?_ | refine Step.drewN ?_ _ | refine Step.alloc ?_ _)) [sq] w5.heap.size (Nat.le_refl _) (by exact blk_new _ _) (rng_cons (small_rng HW.out.seq) rng_nil) (by have := HL.out.2.2; omega) (by simp)).mono ?_
      rintro e w6 ⟨rfl, hw6, -⟩
      have m7 := (HMC.out _ hw6.2).c7
      have Hw6 := Lib.hid hw6
      clear hw6 m3
      go_wp2_with fail
      refine (edit_any _ _ _ _ es _ (Hw6.out.rep (Step.refl _ _)) (Hw6.out.env HEn.out (Step.refl _ _)) (fun w' hst => (HB.out.data.to (own_no (Hw6.out.to (Step.refl _ _) hst))).edit) HF.out (by have := HL.out.1; omega) hle).mono ?_
      rintro e w7 hp
      obtain ⟨rfl, hw7⟩ := Hw6.out.back (Step.refl _ _) hp
      have Hw7 := Lib.hid hw7
      clear hp hw7 m7
      have HLs : Hid ([80] ++ nums [cl, rv] ++ nums [sq] ++ editS es = putS ⟨0, cl, rv, sq, fm, ls, rf, es, en, tx, ⟨rt, nx, ns⟩⟩) := Lib.hid HE2.out.symm
      go_wp2_with fail
      refine (len_any _ _ w2.heap.size _ Hw7.out.1).mono ?_
      rintro e w' ⟨rfl, rfl⟩
      by_cases hl : (putS ⟨0, cl, rv, sq, fm, ls, rf, es, en, tx, ⟨rt, nx, ns⟩⟩).length ≤ 1000000
      · have hlb : decide ((1000000 : Int) < (putS ⟨0, cl, rv, sq, fm, ls, rf, es, en, tx, ⟨rt, nx, ns⟩⟩).length) = false := decide_eq_false (by omega)
        have HL := Lib.hid hl
        clear hl
        rw [HLs.out]
        go_wp2_with fail
        refine (String_any _ _ w2.heap.size _ (by have := Hw7.out.1; rw [HLs.out] at this; exact this)).mono ?_
        rintro e w9 ⟨rfl, hs9⟩
        have HS9 : Hid (Step No w w9) := Lib.hid (Hs2.out.trans (own_no (Hw7.out.2.trans hs9 (fun i o hlt => o.elim id (fun o => absurd hlt (Nat.not_lt.2 o))))) (fun _ f _ => f))
        clear hs9
        go_wp2
        go_ret2
        exact put_yes Hm.out HL.out HS9.out
      · have hlb : decide ((1000000 : Int) < (putS ⟨0, cl, rv, sq, fm, ls, rf, es, en, tx, ⟨rt, nx, ns⟩⟩).length) = true := decide_eq_true (by omega)
        have HL := Lib.hid hl
        clear hl
        rw [HLs.out]
        go_wp2
        go_ret2
        exact put_long HL.out (Hs2.out.trans (own_no Hw7.out.2) (fun _ f _ => f))
    · have HF := Lib.hid (fun e h => fineEn (he e h))
      have HE2 : Hid (putS ⟨1, cl, rv, sq, fm, ls, rf, es, en, tx, ⟨rt, nx, ns⟩⟩ = [67] ++ nums [cl, rv] ++ nums [(en.length : Int)] ++ en.flatMap entryS) := Lib.hid (by simp [putS, bodyS, letter, nums])
      have HL : Hid (([67] ++ nums [cl, rv] ++ nums [(en.length : Int)] ++ en.flatMap entryS).length ≤ 700000000 ∧ ([67] ++ nums [cl, rv] ++ nums [(en.length : Int)]).length ≤ 700000000 ∧ ([67] ++ nums [cl, rv]).length ≤ 700000000) := Lib.hid (by
        have := HLen.out
        rw [HE2.out] at this
        simp only [List.length_append] at *
        omega)
      have hle : en.length ≤ 1000000000 := by have := hen.2; omega
      have HEn2 := Lib.hid (small_rng hen)
      clear he hen
      go_upto_region 4 with (fail)
      go_region_held3 (fun w' => w'.cell? ⟨bM, 0, none⟩ = some (.int .i64 1)) (first | exact (HMC.out _ Hw4.out.2).c0 | exact (HMC.out _ (Step.none (by repeat' (first | exact Step.refl _ _ | with_reducible assumption | refine Step.drew ?_ | refine Step.drewN ?_ _ | refine Step.alloc ?_ _)))).c0) ((go_at_call 27; refine (WriteByte_any _ _ _ [] 67 (H0.out.rep (by repeat' (first | exact Step.refl _ _ | with_reducible assumption | refine Step.drew ?_ | refine Step.drewN ?_ _ | refine Step.alloc ?_ _))) (by simp)).mono ?_; rintro e w4 hp; obtain ⟨rfl, hw4⟩ := H0.out.back (by repeat' (first | exact Step.refl _ _ | with_reducible assumption | refine Step.drew ?_ | refine Step.drewN ?_ _ | refine Step.alloc ?_ _)) hp; have Hw4 := Lib.hid hw4; clear hp hw4))
      have m1 := (HMC.out _ Hw4.out.2).c1
      have m2 := (HMC.out _ Hw4.out.2).c2
      simp only at m1 m2
      go_wp2_with fail
      refine (NumNew_any Hw4.out HEn.out (by repeat' (first | exact Step.refl _ _ | with_reducible assumption | refine Step.drew ?_ | refine Step.drewN ?_ _ | refine Step.alloc ?_ _)) [cl, rv] w4.heap.size (Nat.le_refl _) (by exact blk_new _ _) (rng_cons (small_rng HW.out.client) (rng_cons (small_rng HW.out.rev) rng_nil)) (by simp) (by simp)).mono ?_
      rintro e w5 ⟨rfl, hw5, -⟩
      have Hw5 : Hid (WS (Own w2.heap.size) (w2.alloc (.cells #[.pointer none, .slice none 0 0] TW)) w5 w2.heap.size ([67] ++ nums [cl, rv])) := Lib.hid hw5
      clear hw5 m1 m2
      have m0 := (HMC.out _ Hw5.out.2).c0
      simp only at m0
      have m8 := (HMC.out _ Hw5.out.2).c8
      go_wp2_with fail
      refine (NumNew_any Hw5.out HEn.out (by repeat' (first | exact Step.refl _ _ | with_reducible assumption | refine Step.drew ?_ | refine Step.drewN ?_ _ | refine Step.alloc ?_ _)) [(en.length : Int)] w5.heap.size (Nat.le_refl _) (by exact blk_new _ _) (rng_cons HEn2.out rng_nil) (by have := HL.out.2.2; omega) (by simp)).mono ?_
      rintro e w6 ⟨rfl, hw6, -⟩
      have m8 := (HMC.out _ hw6.2).c8
      have H6 : Hid (WS (Own w2.heap.size) (w2.alloc (.cells #[.pointer none, .slice none 0 0] TW)) w6 w2.heap.size ([67] ++ nums [cl, rv] ++ nums [(en.length : Int)] ++ (en.take 0).flatMap entryS)) := Lib.hid (by simpa using hw6)
      clear hw6
      go_wp2
      go_loopw [50] (fun i wr => ∃ j : Nat, j ≤ en.length ∧ i = .int .i64 j ∧ WS (Own w2.heap.size) (w2.alloc (.cells #[.pointer none, .slice none 0 0] TW)) wr w2.heap.size ([67] ++ nums [cl, rv] ++ nums [(en.length : Int)] ++ (en.take j).flatMap entryS)) (fun i _ => en.length - (RowKit.intOf i).toNat)
      case atStart => exact ⟨0, Nat.zero_le _, rfl, H6.out⟩
      case round =>
        clear m8
        obtain ⟨j, hj, rfl, hw⟩ := hrel
        have m8 := (HMC.out _ hw.2).c8
        by_cases hlt : j < en.length
        · obtain ⟨ad, ev, dv, rfl, hev, hdv, c0, c1, c2, c3⟩ := entries_cells HB.out.data.entries j hlt
          have hi0 : (0 : Int) ≤ j := by omega
          have hi1 : (j : Int) < en.length := by omega
          have HAt : Hid (EntryAt w2 (ad.add (j * 4)) en[j] ev dv) := Lib.hid ⟨c0, c1, c2, c3, hev, hdv⟩
          have HFj := Lib.hid (HF.out _ (List.getElem_mem hlt))
          have HT := Lib.hid (take_flat entryS en j hlt)
          have HTL := Lib.hid (take_flat_len entryS en j hlt)
          generalize en[j] = x at *
          have HLm : Hid ((([67] ++ nums [cl, rv] ++ nums [(en.length : Int)] ++ (en.take j).flatMap entryS) ++ entryS x).length ≤ 100000000000000) := Lib.hid (by
            have h1 := HL.out.1
            have h2 := HTL.out
            simp only [List.length_append] at *
            omega)
          have HT2 : Hid ([67] ++ nums [cl, rv] ++ nums [(en.length : Int)] ++ (en.take (j + 1)).flatMap entryS = ([67] ++ nums [cl, rv] ++ nums [(en.length : Int)] ++ (en.take j).flatMap entryS) ++ entryS x) := Lib.hid (by rw [HT.out, ← List.append_assoc])
          generalize [67] ++ nums [cl, rv] ++ nums [(en.length : Int)] ++ (en.take j).flatMap entryS = q at *
          clear c0 c1 c2 c3 hev hdv
          have Hhw := Lib.hid hw
          clear hw
          go_wp2_with fail
          refine (entry_any _ _ _ _ x (ad.add (j * 4)) ev dv (Hhw.out.rep (Step.refl _ _)) (Hhw.out.env HEn.out (Step.refl _ _)) w2 (fun w' hst => own_no (Hhw.out.to (Step.refl _ _) hst)) HAt.out HFj.out HLm.out).mono ?_
          rintro e w7 hp
          obtain ⟨rfl, hw7⟩ := Hhw.out.back (Step.refl _ _) hp
          have Hw7 := Lib.hid hw7
          clear hp hw7
          go_wp2
          go_roundw
          case rel => exact ⟨j + 1, hlt, rfl, by rw [HT2.out]; exact Hw7.out⟩
          case measure => simp [RowKit.intOf]; omega
        · obtain rfl : j = en.length := by omega
          rw [List.take_length] at hw
          have Hhw := Lib.hid hw
          clear hw
          have HLs : Hid ([67] ++ nums [cl, rv] ++ nums [(en.length : Int)] ++ en.flatMap entryS = putS ⟨1, cl, rv, sq, fm, ls, rf, es, en, tx, ⟨rt, nx, ns⟩⟩) := Lib.hid HE2.out.symm
          go_wp2_with fail
          refine (len_any _ _ w2.heap.size _ Hhw.out.1).mono ?_
          rintro e w' ⟨rfl, rfl⟩
          by_cases hl : (putS ⟨1, cl, rv, sq, fm, ls, rf, es, en, tx, ⟨rt, nx, ns⟩⟩).length ≤ 1000000
          · have hlb : decide ((1000000 : Int) < (putS ⟨1, cl, rv, sq, fm, ls, rf, es, en, tx, ⟨rt, nx, ns⟩⟩).length) = false := decide_eq_false (by omega)
            have HL := Lib.hid hl
            clear hl
            rw [HLs.out]
            go_wp2_with fail
            refine (String_any _ _ w2.heap.size _ (by have := Hhw.out.1; rw [HLs.out] at this; exact this)).mono ?_
            rintro e w9 ⟨rfl, hs9⟩
            have HS9 : Hid (Step No w w9) := Lib.hid (Hs2.out.trans (own_no (Hhw.out.2.trans hs9 (fun i o hlt => o.elim id (fun o => absurd hlt (Nat.not_lt.2 o))))) (fun _ f _ => f))
            clear hs9
            go_wp2
            go_ret2
            exact put_yes Hm.out HL.out HS9.out
          · have hlb : decide ((1000000 : Int) < (putS ⟨1, cl, rv, sq, fm, ls, rf, es, en, tx, ⟨rt, nx, ns⟩⟩).length) = true := decide_eq_true (by omega)
            have HL := Lib.hid hl
            clear hl
            rw [HLs.out]
            go_wp2
            go_ret2
            exact put_long HL.out (Hs2.out.trans (own_no Hhw.out.2) (fun _ f _ => f))
    · have HF := Lib.hid (fineT hT)
      have HE2 : Hid (putS ⟨2, cl, rv, sq, fm, ls, rf, es, en, tx, ⟨rt, nx, ns⟩⟩ = [83] ++ nums [cl, rv] ++ nums [sq, fm, ls, bit rf] ++ str tx.data.toList ++ treeS ⟨rt, nx, ns⟩) := Lib.hid (by simp [putS, bodyS, letter, nums])
      have HL : Hid (([83] ++ nums [cl, rv] ++ nums [sq, fm, ls, bit rf] ++ str tx.data.toList ++ treeS ⟨rt, nx, ns⟩).length ≤ 700000000 ∧ ([83] ++ nums [cl, rv] ++ nums [sq, fm, ls, bit rf]).length ≤ 700000000 ∧ ([83] ++ nums [cl, rv]).length ≤ 700000000) := Lib.hid (by
        have := HLen.out
        rw [HE2.out] at this
        simp only [List.length_append] at *
        omega)
      have HR4 : Hid (∀ y ∈ [sq, fm, ls, bit rf], Rng y) := Lib.hid (rng_cons (small_rng HW.out.seq) (rng_cons (small_rng hf) (rng_cons (small_rng hl) (rng_cons (by cases rf <;> exact ⟨by decide, by decide⟩) rng_nil))))
      have HtS : Hid (tx.size ≤ 1000000000) := Lib.hid (by have := ht.2; omega)
      clear hf hl ht hT
      go_upto_region 4 with (fail)
      go_region_held3 (fun w' => w'.cell? ⟨bM, 0, none⟩ = some (.int .i64 2)) (first | exact (HMC.out _ Hw4.out.2).c0 | exact (HMC.out _ (Step.none (by repeat' (first | exact Step.refl _ _ | with_reducible assumption | refine Step.drew ?_ | refine Step.drewN ?_ _ | refine Step.alloc ?_ _)))).c0) ((go_at_call 27; refine (WriteByte_any _ _ _ [] 83 (H0.out.rep (by repeat' (first | exact Step.refl _ _ | with_reducible assumption | refine Step.drew ?_ | refine Step.drewN ?_ _ | refine Step.alloc ?_ _))) (by simp)).mono ?_; rintro e w4 hp; obtain ⟨rfl, hw4⟩ := H0.out.back (by repeat' (first | exact Step.refl _ _ | with_reducible assumption | refine Step.drew ?_ | refine Step.drewN ?_ _ | refine Step.alloc ?_ _)) hp; have Hw4 := Lib.hid hw4; clear hp hw4))
      have m1 := (HMC.out _ Hw4.out.2).c1
      have m2 := (HMC.out _ Hw4.out.2).c2
      simp only at m1 m2
      go_wp2_with fail
      refine (NumNew_any Hw4.out HEn.out (by repeat' (first | exact Step.refl _ _ | with_reducible assumption | refine Step.drew ?_ | refine Step.drewN ?_ _ | refine Step.alloc ?_ _)) [cl, rv] w4.heap.size (Nat.le_refl _) (by exact blk_new _ _) (rng_cons (small_rng HW.out.client) (rng_cons (small_rng HW.out.rev) rng_nil)) (by simp) (by simp)).mono ?_
      rintro e w5 ⟨rfl, hw5, -⟩
      have Hw5 : Hid (WS (Own w2.heap.size) (w2.alloc (.cells #[.pointer none, .slice none 0 0] TW)) w5 w2.heap.size ([83] ++ nums [cl, rv])) := Lib.hid hw5
      clear hw5 m1 m2
      have m0 := (HMC.out _ Hw5.out.2).c0
      simp only at m0
      obtain ⟨-, -, -, m3, m4, m5, m6, -, -, -, -, -, -⟩ := HMC.out _ Hw5.out.2
      cases rf with
      | false =>
        go_wp2_with fail
        refine (NumNew_any Hw5.out HEn.out (by repeat' (first | exact Step.refl _ _ | with_reducible assumption | refine Step.drew ?_ | refine Step.drewN ?_ _ | refine Step.alloc ?_ _)) [sq, fm, ls, 0] w5.heap.size (Nat.le_refl _) (by exact blk_new _ _) HR4.out (by have := HL.out.2.2; omega) (by simp)).mono ?_
        rintro e w6 ⟨rfl, hw6, -⟩
        have m9 := (HMC.out _ hw6.2).c9
        have Hw6 := Lib.hid hw6
        clear hw6 m3 m4 m5 m6
        go_wp2_with fail
        refine (Str_any _ _ _ _ tx (Hw6.out.rep (Step.refl _ _)) (Hw6.out.env HEn.out (Step.refl _ _)) (by have h1 := HL.out.2.1; have h2 := HtS.out; simp only [bit, if_true, Bool.false_eq_true, if_false] at h1; omega)).mono ?_
        rintro e w7 hp
        obtain ⟨rfl, hw7⟩ := Hw6.out.back (Step.refl _ _) hp
        have Hw7 := Lib.hid hw7
        clear hp hw7 m9
        have HAt : Hid (TreeAt w2 ⟨bM, 10, none⟩ ⟨rt, nx, ns⟩ (.slice A'' ns.length c'')) := Lib.hid ⟨blk_cell HB.out.box 10, blk_cell HB.out.box 11, blk_cell HB.out.box 12, HB.out.data.nodes⟩
        go_wp2_with fail
        refine (tree_any _ _ _ _ ⟨rt, nx, ns⟩ ⟨bM, 10, none⟩ _ (Hw7.out.rep (Step.refl _ _)) (Hw7.out.env HEn.out (Step.refl _ _)) w2 (fun w' hst => own_no (Hw7.out.to (Step.refl _ _) hst)) HAt.out HF.out (by have h1 := HL.out.1; simp only [bit, if_true, Bool.false_eq_true, if_false] at h1; omega)).mono ?_
        rintro e w8 hp
        obtain ⟨rfl, hw8⟩ := Hw7.out.back (Step.refl _ _) hp
        have Hw8 := Lib.hid hw8
        clear hp hw8
        have HLs : Hid ([83] ++ nums [cl, rv] ++ nums [sq, fm, ls, 0] ++ str tx.data.toList ++ treeS ⟨rt, nx, ns⟩ = putS ⟨2, cl, rv, sq, fm, ls, false, es, en, tx, ⟨rt, nx, ns⟩⟩) := Lib.hid HE2.out.symm
        go_wp2_with fail
        refine (len_any _ _ w2.heap.size _ Hw8.out.1).mono ?_
        rintro e w' ⟨rfl, rfl⟩
        by_cases hl : (putS ⟨2, cl, rv, sq, fm, ls, false, es, en, tx, ⟨rt, nx, ns⟩⟩).length ≤ 1000000
        · have hlb : decide ((1000000 : Int) < (putS ⟨2, cl, rv, sq, fm, ls, false, es, en, tx, ⟨rt, nx, ns⟩⟩).length) = false := decide_eq_false (by omega)
          have HL := Lib.hid hl
          clear hl
          rw [HLs.out]
          go_wp2_with fail
          refine (String_any _ _ w2.heap.size _ (by have := Hw8.out.1; rw [HLs.out] at this; exact this)).mono ?_
          rintro e w9 ⟨rfl, hs9⟩
          have HS9 : Hid (Step No w w9) := Lib.hid (Hs2.out.trans (own_no (Hw8.out.2.trans hs9 (fun i o hlt => o.elim id (fun o => absurd hlt (Nat.not_lt.2 o))))) (fun _ f _ => f))
          clear hs9
          go_wp2
          go_ret2
          exact put_yes Hm.out HL.out HS9.out
        · have hlb : decide ((1000000 : Int) < (putS ⟨2, cl, rv, sq, fm, ls, false, es, en, tx, ⟨rt, nx, ns⟩⟩).length) = true := decide_eq_true (by omega)
          have HL := Lib.hid hl
          clear hl
          rw [HLs.out]
          go_wp2
          go_ret2
          exact put_long HL.out (Hs2.out.trans (own_no Hw8.out.2) (fun _ f _ => f))
      | true =>
        go_wp2_with fail
        refine (NumNew_any Hw5.out HEn.out (by repeat' (first | exact Step.refl _ _ | with_reducible assumption | refine Step.drew ?_ | refine Step.drewN ?_ _ | refine Step.alloc ?_ _)) [sq, fm, ls, 1] w5.heap.size (Nat.le_refl _) (by exact blk_new _ _) HR4.out (by have := HL.out.2.2; omega) (by simp)).mono ?_
        rintro e w6 ⟨rfl, hw6, -⟩
        have m9 := (HMC.out _ hw6.2).c9
        have Hw6 := Lib.hid hw6
        clear hw6 m3 m4 m5 m6
        go_wp2_with fail
        refine (Str_any _ _ _ _ tx (Hw6.out.rep (Step.refl _ _)) (Hw6.out.env HEn.out (Step.refl _ _)) (by have h1 := HL.out.2.1; have h2 := HtS.out; simp only [bit, if_true, Bool.false_eq_true, if_false] at h1; omega)).mono ?_
        rintro e w7 hp
        obtain ⟨rfl, hw7⟩ := Hw6.out.back (Step.refl _ _) hp
        have Hw7 := Lib.hid hw7
        clear hp hw7 m9
        have HAt : Hid (TreeAt w2 ⟨bM, 10, none⟩ ⟨rt, nx, ns⟩ (.slice A'' ns.length c'')) := Lib.hid ⟨blk_cell HB.out.box 10, blk_cell HB.out.box 11, blk_cell HB.out.box 12, HB.out.data.nodes⟩
        go_wp2_with fail
        refine (tree_any _ _ _ _ ⟨rt, nx, ns⟩ ⟨bM, 10, none⟩ _ (Hw7.out.rep (Step.refl _ _)) (Hw7.out.env HEn.out (Step.refl _ _)) w2 (fun w' hst => own_no (Hw7.out.to (Step.refl _ _) hst)) HAt.out HF.out (by have h1 := HL.out.1; simp only [bit, if_true, Bool.false_eq_true, if_false] at h1; omega)).mono ?_
        rintro e w8 hp
        obtain ⟨rfl, hw8⟩ := Hw7.out.back (Step.refl _ _) hp
        have Hw8 := Lib.hid hw8
        clear hp hw8
        have HLs : Hid ([83] ++ nums [cl, rv] ++ nums [sq, fm, ls, 1] ++ str tx.data.toList ++ treeS ⟨rt, nx, ns⟩ = putS ⟨2, cl, rv, sq, fm, ls, true, es, en, tx, ⟨rt, nx, ns⟩⟩) := Lib.hid HE2.out.symm
        go_wp2_with fail
        refine (len_any _ _ w2.heap.size _ Hw8.out.1).mono ?_
        rintro e w' ⟨rfl, rfl⟩
        by_cases hl : (putS ⟨2, cl, rv, sq, fm, ls, true, es, en, tx, ⟨rt, nx, ns⟩⟩).length ≤ 1000000
        · have hlb : decide ((1000000 : Int) < (putS ⟨2, cl, rv, sq, fm, ls, true, es, en, tx, ⟨rt, nx, ns⟩⟩).length) = false := decide_eq_false (by omega)
          have HL := Lib.hid hl
          clear hl
          rw [HLs.out]
          go_wp2_with fail
          refine (String_any _ _ w2.heap.size _ (by have := Hw8.out.1; rw [HLs.out] at this; exact this)).mono ?_
          rintro e w9 ⟨rfl, hs9⟩
          have HS9 : Hid (Step No w w9) := Lib.hid (Hs2.out.trans (own_no (Hw8.out.2.trans hs9 (fun i o hlt => o.elim id (fun o => absurd hlt (Nat.not_lt.2 o))))) (fun _ f _ => f))
          clear hs9
          go_wp2
          go_ret2
          exact put_yes Hm.out HL.out HS9.out
        · have hlb : decide ((1000000 : Int) < (putS ⟨2, cl, rv, sq, fm, ls, true, es, en, tx, ⟨rt, nx, ns⟩⟩).length) = true := decide_eq_true (by omega)
          have HL := Lib.hid hl
          clear hl
          rw [HLs.out]
          go_wp2
          go_ret2
          exact put_long HL.out (Hs2.out.trans (own_no Hw8.out.2) (fun _ f _ => f))
end Go.Proofs.YtkamhpbfebdhjaaGreatDoor.Put
