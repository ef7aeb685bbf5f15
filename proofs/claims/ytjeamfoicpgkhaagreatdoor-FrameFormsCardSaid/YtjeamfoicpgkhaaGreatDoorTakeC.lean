/- Pieces of edits, taken from a text. -/
import Derived.Test.YtjeamfoicpgkhaaGreatDoorEach
namespace Go.Proofs.YtjeamfoicpgkhaaGreatDoor.Each
open Go.RowKit Go.Lib Go.Proofs.YtjeamfoicpgkhaaGreatDoor.Mem Go.Proofs.YtjeamfoicpgkhaaGreatDoor.Read Go.Proofs.YtjeamfoicpgkhaaGreatDoor.Tree Go.Proofs.YtjeamfoicpgkhaaGreatDoor.Data Go.Proofs.YtjeamfoicpgkhaaGreatDoor.Env Go.Proofs.YtjeamfoicpgkhaaGreatDoor.Take Go.Proofs.YtjeamfoicpgkhaaGreatDoor.Taker Go.Proofs.YtjeamfoicpgkhaaGreatDoor.Pk Go.Proofs.YtjeamfoicpgkhaaGreatDoor.PkR Go.Proofs.YtjeamfoicpgkhaaGreatDoor.OwnR Go.Proofs.YtjeamfoicpgkhaaGreatDoor.CompR
open Go.Proofs.YtjeamfoicpgkhaaGreatDoor.Writer (EnvS)
set_option linter.unusedVariables false
set_option linter.unusedSimpArgs false
theorem mkPut (s : ByteArray) (w : World) : Calls Tryz.prog 126 #[.string s] w fun e w' => e = .returned (.agg #[.int .i64 1, .int .i64 0, .string s]) ∧ Step No w w' := by
  go_enter Tryz.func126, Tryz.ntmps126
  go_wp2
  exact bodyPost_ret (by simp [results, Tryz.results126, go_sem]) rfl ⟨rfl, (by repeat' (first | exact Step.refl _ _ | with_reducible assumption | refine Step.drew ?_ | refine Step.drewN ?_ _ | refine Step.alloc ?_ _))⟩
theorem mkCut (n : Int) (w : World) : Calls Tryz.prog 127 #[.int .i64 n] w fun e w' => e = .returned (.agg #[.int .i64 2, .int .i64 n, .string ⟨#[]⟩]) ∧ Step No w w' := by
  go_enter Tryz.func127, Tryz.ntmps127
  go_wp2
  exact bodyPost_ret (by simp [results, Tryz.results127, go_sem]) rfl ⟨rfl, (by repeat' (first | exact Step.refl _ _ | with_reducible assumption | refine Step.drew ?_ | refine Step.drewN ?_ _ | refine Step.alloc ?_ _))⟩
theorem mkKeep (n : Int) (w : World) : Calls Tryz.prog 128 #[.int .i64 n] w fun e w' => e = .returned (.agg #[.int .i64 0, .int .i64 n, .string ⟨#[]⟩]) ∧ Step No w w' := by
  go_enter Tryz.func128, Tryz.ntmps128
  go_wp2
  exact bodyPost_ret (by simp [results, Tryz.results128, go_sem]) rfl ⟨rfl, (by repeat' (first | exact Step.refl _ _ | with_reducible assumption | refine Step.drew ?_ | refine Step.drewN ?_ _ | refine Step.alloc ?_ _))⟩
theorem comp_p {st : St} (h : (byteR st).1 = 112) : takeC st = (⟨1, 0, ⟨(Take.strR (byteR st).2).1.toArray⟩⟩, (Take.strR (byteR st).2).2) := by unfold takeC; simp only; rw [if_pos h]; rfl
theorem comp_c {st : St} (h : (byteR st).1 = 99) : takeC st = (⟨2, (digR 44 (byteR st).2).1, ⟨#[]⟩⟩, (digR 44 (byteR st).2).2) := by unfold takeC; simp only; rw [if_neg (by rw [h]; decide), if_pos h]; rfl
theorem comp_k {st : St} (h : (byteR st).1 = 107) : takeC st = (⟨0, (digR 44 (byteR st).2).1, ⟨#[]⟩⟩, (digR 44 (byteR st).2).2) := by unfold takeC; simp only; rw [if_neg (by rw [h]; decide), if_neg (by rw [h]; decide), if_pos h]; rfl
theorem comp_x {st : St} (h1 : (byteR st).1 ≠ 112) (h2 : (byteR st).1 ≠ 99) (h3 : (byteR st).1 ≠ 107) : takeC st = (⟨0, 0, ⟨#[]⟩⟩, ((byteR st).2.1, true)) := by unfold takeC; simp only; rw [if_neg h1, if_neg h2, if_neg h3]; rfl
theorem byte_eq {x : UInt8} {c : Nat} (hc : c < 256) (h : x = UInt8.ofNat c) : ((x.toNat : Int) == (c : Int)) = true := by
  subst h
  rw [UInt8.toNat_ofNat', beq_iff_eq]
  omega
theorem byte_ne {x : UInt8} {c : Nat} (hc : c < 256) (h : x ≠ UInt8.ofNat c) : ((x.toNat : Int) == (c : Int)) = false := by
  rw [beq_eq_false_iff_ne]
  intro e
  refine h (UInt8.toNat_inj.1 ?_)
  rw [UInt8.toNat_ofNat']
  omega
def comp0 : Array Value := #[.int .i64 0, .int .i64 0, .string ⟨#[]⟩]
/-- The result's place. -/
theorem res_at {w1 wx : World} {b r : Nat} {cs cs' : Array Value} {t : TypeId} (hr : w1.heap[r]? = some (.cells cs t (0, 0))) (hb : w1.heap[b]? = some (.cells cs' TT (0, 0))) (ht : t ≠ TT) (hs : Step (fun k => k = b) w1 wx) : wx.heap[r]? = some (.cells cs t (0, 0)) :=
  hs.blk hr (blk_ne hr hb ht)
theorem tk_store {w wr : World} {b r : Nat} {st : St} {cs : Array Value} {t : TypeId} (h : TK w b st wr) (hr : wr.heap[r]? = some (.cells cs t (0, 0))) (ht : t ≠ TT) (hle : w.heap.size ≤ r) (i : Nat) (v : Value) : TK w b st (wr.setCell ⟨r, i, none⟩ v) :=
  ⟨h.1.step (F := fun k => k = r) (by refine set_at (Step.refl _ _) ?_ _ <;> rfl) (blk_ne h.blk hr (fun e => ht e.symm)), h.2.setCell (p := ⟨r, i, none⟩) (fun e => absurd e (by simp only; omega)) _⟩
theorem comp_store {w wr : World} {b r : Nat} {st : St} (h : TK w b st wr) (hr : wr.heap[r]? = some (.cells comp0 TC (0, 0))) (hle : w.heap.size ≤ r) (x y z : Value) :
    (((wr.setCell ⟨r, 0, none⟩ x).setCell ⟨r, 1, none⟩ y).setCell ⟨r, 2, none⟩ z).heap[r]? = some (.cells #[x, y, z] TC (0, 0)) ∧ TK w b st (((wr.setCell ⟨r, 0, none⟩ x).setCell ⟨r, 1, none⟩ y).setCell ⟨r, 2, none⟩ z) :=
  ⟨by simpa [comp0] using blk_set (blk_set (blk_set hr 0 x) 1 y) 2 z, tk_store (tk_store (tk_store h hr (by decide) hle 0 x) (blk_set hr 0 x) (by decide) hle 1 y) (blk_set (blk_set hr 0 x) 1 y) (by decide) hle 2 z⟩
/-- A piece, as it is handed back. -/
def CompPost (w : World) (b : Nat) (st : St) (e : Ending) (w' : World) : Prop := e = .returned (.agg #[.int .i64 (takeC st).1.kind, .int .i64 (takeC st).1.n, .string (takeC st).1.text]) ∧ TK w b (takeC st).2 w'
theorem comp_post {w w' : World} {b : Nat} {st st' : St} {k n : Int} {t : ByteArray} (h : takeC st = (⟨k, n, t⟩, st')) (ht : TK w b st' w') : CompPost w b st (.returned (.agg #[.int .i64 k, .int .i64 n, .string t])) w' := by
  unfold CompPost; rw [h]; exact ⟨rfl, ht⟩
set_option maxHeartbeats 4000000 in
theorem comp_any (w : World) (b : Nat) (st : St) (h : TRep w b st) (hE : EnvS (fun k => k = b) w) : Calls Tryz.prog 92 #[.pointer (some ⟨b, 0, none⟩)] w (CompPost w b st) := by
  have hs1 : Step No w (w.alloc (.cells comp0 TC)) := Step.alloc (Step.refl _ _) _
  have HT := Lib.hid ((TK.start h).no hs1)
  have HR1 : Hid ((w.alloc (.cells comp0 TC)).heap[w.heap.size]? = some (.cells comp0 TC (0, 0))) := Lib.hid (blk_new _ _)
  have HE := Lib.hid hE
  clear hE h
  rw [show (w.alloc (.cells comp0 TC)) = w.alloc (.cells #[.int .i64 0, .int .i64 0, .string ⟨#[]⟩] TC) from rfl] at HT HR1 hs1
  go_enter Tryz.func92, Tryz.ntmps92
  go_wp2_with fail
  generalize hW : World.alloc w _ = w1 at *
  clear hW
  refine (Byte_any _ b st HT.out.1).mono ?_
  rintro e w2 hp
  obtain ⟨rfl, ht2⟩ := HT.out.next hp
  have HR2 := Lib.hid (res_at HR1.out HT.out.blk (by decide) hp.2.2)
  have Hht2 := Lib.hid ht2
  clear ht2
  clear hp
  by_cases k1 : (byteR st).1 = 112
  · have b1 : (((byteR st).1.toNat : Int) == 112) = true := byte_eq (c := 112) (by decide) k1
    have HC := Lib.hid (comp_p k1)
    clear k1
    generalize byteR st = bs at *
    obtain ⟨x, st2⟩ := bs
    simp only at b1 HC Hht2
    go_wp2_with fail
    refine (Str_any _ b st2 Hht2.out.1 (HE.out _ Hht2.out.2)).mono ?_
    rintro e w3 hp
    obtain ⟨rfl, ht3⟩ := Hht2.out.next hp
    have HR3 := Lib.hid (res_at HR2.out Hht2.out.blk (by decide) hp.2.2)
    have Hht3 := Lib.hid ht3
    clear ht3
    clear hp
    go_wp2_with fail
    refine (mkPut _ _).mono ?_
    rintro e w4 ⟨rfl, hs4⟩
    have HR4 := hs4.blk HR3.out (fun f => f)
    have HT4 := Lib.hid (Hht3.out.no hs4)
    have c0 := blk_cell HR4 0
    have c1 := blk_cell HR4 1
    have c2 := blk_cell HR4 2
    have f0 := blk_free HR4 0
    have f1 := blk_free HR4 1
    have f2 := blk_free HR4 2
    simp [comp0] at c0 c1 c2
    have HO := Lib.hid (comp_store HT4.out HR4 (Nat.le_refl _) (.int .i64 1) (.int .i64 0) (.string ⟨(Take.strR st2).1.toArray⟩))
    clear HR4 hs4
    go_wp2
    generalize hW : World.setCell (World.setCell (World.setCell _ _ _) _ _) _ _ = W at *
    clear hW
    have r0 := blk_cell HO.out.1 0
    have r1 := blk_cell HO.out.1 1
    have r2 := blk_cell HO.out.1 2
    simp at r0 r1 r2
    exact bodyPost_ret (by simp [results, Tryz.results92, go_sem, r0, r1, r2]) rfl (comp_post HC.out HO.out.2)
  · have b1 : (((byteR st).1.toNat : Int) == 112) = false := byte_ne (c := 112) (by decide) k1
    by_cases k2 : (byteR st).1 = 99
    · have b2 : (((byteR st).1.toNat : Int) == 99) = true := byte_eq (c := 99) (by decide) k2
      have HC := Lib.hid (comp_c k2)
      clear k1 k2
      generalize byteR st = bs at *
      obtain ⟨x, st2⟩ := bs
      simp only at b1 b2 HC Hht2
      go_wp2_with fail
      refine (Num_any _ b st2 Hht2.out.1 (HE.out _ Hht2.out.2)).mono ?_
      rintro e w3 hp
      obtain ⟨rfl, ht3⟩ := Hht2.out.next hp
      have HR3 := Lib.hid (res_at HR2.out Hht2.out.blk (by decide) hp.2.2)
      have Hht3 := Lib.hid ht3
      clear ht3
      clear hp
      go_wp2_with fail
      refine (mkCut _ _).mono ?_
      rintro e w4 ⟨rfl, hs4⟩
      have HR4 := hs4.blk HR3.out (fun f => f)
      have HT4 := Lib.hid (Hht3.out.no hs4)
      have c0 := blk_cell HR4 0
      have c1 := blk_cell HR4 1
      have c2 := blk_cell HR4 2
      have f0 := blk_free HR4 0
      have f1 := blk_free HR4 1
      have f2 := blk_free HR4 2
      simp [comp0] at c0 c1 c2
      have HO := Lib.hid (comp_store HT4.out HR4 (Nat.le_refl _) (.int .i64 2) (.int .i64 (digR 44 st2).1) (.string ⟨#[]⟩))
      clear HR4 hs4
      go_wp2
      generalize hW : World.setCell (World.setCell (World.setCell _ _ _) _ _) _ _ = W at *
      clear hW
      have r0 := blk_cell HO.out.1 0
      have r1 := blk_cell HO.out.1 1
      have r2 := blk_cell HO.out.1 2
      simp at r0 r1 r2
      exact bodyPost_ret (by simp [results, Tryz.results92, go_sem, r0, r1, r2]) rfl (comp_post HC.out HO.out.2)
    · have b2 : (((byteR st).1.toNat : Int) == 99) = false := byte_ne (c := 99) (by decide) k2
      by_cases k3 : (byteR st).1 = 107
      · have b3 : (((byteR st).1.toNat : Int) == 107) = true := byte_eq (c := 107) (by decide) k3
        have HC := Lib.hid (comp_k k3)
        clear k1 k2 k3
        generalize byteR st = bs at *
        obtain ⟨x, st2⟩ := bs
        simp only at b1 b2 b3 HC Hht2
        go_wp2_with fail
        refine (Num_any _ b st2 Hht2.out.1 (HE.out _ Hht2.out.2)).mono ?_
        rintro e w3 hp
        obtain ⟨rfl, ht3⟩ := Hht2.out.next hp
        have HR3 := Lib.hid (res_at HR2.out Hht2.out.blk (by decide) hp.2.2)
        have Hht3 := Lib.hid ht3
        clear ht3
        clear hp
        go_wp2_with fail
        refine (mkKeep _ _).mono ?_
        rintro e w4 ⟨rfl, hs4⟩
        have HR4 := hs4.blk HR3.out (fun f => f)
        have HT4 := Lib.hid (Hht3.out.no hs4)
        have c0 := blk_cell HR4 0
        have c1 := blk_cell HR4 1
        have c2 := blk_cell HR4 2
        have f0 := blk_free HR4 0
        have f1 := blk_free HR4 1
        have f2 := blk_free HR4 2
        simp [comp0] at c0 c1 c2
        have HO := Lib.hid (comp_store HT4.out HR4 (Nat.le_refl _) (.int .i64 0) (.int .i64 (digR 44 st2).1) (.string ⟨#[]⟩))
        clear HR4 hs4
        go_wp2
        generalize hW : World.setCell (World.setCell (World.setCell _ _ _) _ _) _ _ = W at *
        clear hW
        have r0 := blk_cell HO.out.1 0
        have r1 := blk_cell HO.out.1 1
        have r2 := blk_cell HO.out.1 2
        simp at r0 r1 r2
        exact bodyPost_ret (by simp [results, Tryz.results92, go_sem, r0, r1, r2]) rfl (comp_post HC.out HO.out.2)
      · have b3 : (((byteR st).1.toNat : Int) == 107) = false := byte_ne (c := 107) (by decide) k3
        have HC := Lib.hid (comp_x k1 k2 k3)
        clear k1 k2 k3
        generalize byteR st = bs at *
        obtain ⟨x, l, bad⟩ := bs
        simp only at b1 b2 b3 HC Hht2
        have d1 : w2.cell? ⟨b, 1, none⟩ = some (.bool bad) := blk_cell Hht2.out.blk 1
        have g1 := blk_free Hht2.out.blk 1
        have hbr := blk_ne HR2.out Hht2.out.blk (by decide)
        have hb3 : Step (fun k => k = b) w2 (w2.setCell ⟨b, 1, none⟩ (.bool true)) := by refine set_at (Step.refl _ _) ?_ _ <;> rfl
        have HT3 : Hid (TK w b (l, true) (w2.setCell ⟨b, 1, none⟩ (.bool true))) := Lib.hid ⟨⟨blk_set Hht2.out.blk 1 _, Hht2.out.1.2⟩, Hht2.out.2.trans hb3 (fun _ f _ => f)⟩
        have HR3 := res_at HR2.out Hht2.out.blk (by decide) hb3
        have c0 := blk_cell HR3 0
        have c1 := blk_cell HR3 1
        have c2 := blk_cell HR3 2
        have f0 := blk_free HR3 0
        have f1 := blk_free HR3 1
        have f2 := blk_free HR3 2
        simp [comp0] at c0 c1 c2
        have HO := Lib.hid (comp_store HT3.out HR3 (Nat.le_refl _) (.int .i64 0) (.int .i64 0) (.string ⟨#[]⟩))
        clear HR3 hb3 hbr
        go_wp2
        generalize hW : World.setCell (World.setCell (World.setCell _ _ _) _ _) _ _ = W at *
        clear hW
        have r0 := blk_cell HO.out.1 0
        have r1 := blk_cell HO.out.1 1
        have r2 := blk_cell HO.out.1 2
        simp at r0 r1 r2
        exact bodyPost_ret (by simp [results, Tryz.results92, go_sem, r0, r1, r2]) rfl (comp_post HC.out HO.out.2)
end Go.Proofs.YtjeamfoicpgkhaaGreatDoor.Each
