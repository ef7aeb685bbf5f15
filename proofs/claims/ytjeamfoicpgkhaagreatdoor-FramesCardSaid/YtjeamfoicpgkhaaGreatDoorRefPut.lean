/- The reference's text of a message; what it says of whether one may be is a premise. -/
import Derived.Test.YtjeamfoicpgkhaaGreatDoorLumpE
import Derived.Test.YtjeamfoicpgkhaaGreatDoorPut
import Derived.Test.YtjeamfoicpgkhaaGreatDoorLumpA
namespace Go.Proofs.YtjeamfoicpgkhaaGreatDoor.RefPut
open Go.RowKit Go.Lib Go.Proofs.YtjeamfoicpgkhaaGreatDoor.Mem Go.Proofs.YtjeamfoicpgkhaaGreatDoor.Read Go.Proofs.YtjeamfoicpgkhaaGreatDoor.Tree Go.Proofs.YtjeamfoicpgkhaaGreatDoor.Dec Go.Proofs.YtjeamfoicpgkhaaGreatDoor.Take Go.Proofs.YtjeamfoicpgkhaaGreatDoor.Data Go.Proofs.YtjeamfoicpgkhaaGreatDoor.Pk Go.Proofs.YtjeamfoicpgkhaaGreatDoor.May Go.Proofs.YtjeamfoicpgkhaaGreatDoor.MayLen Go.Proofs.YtjeamfoicpgkhaaGreatDoor.MsgR Go.Proofs.YtjeamfoicpgkhaaGreatDoor.CompR Go.Proofs.YtjeamfoicpgkhaaGreatDoor.Cat Go.Proofs.YtjeamfoicpgkhaaGreatDoor.RefEnc Go.Proofs.YtjeamfoicpgkhaaGreatDoor.C13
open Go.Proofs.YtjeamfoicpgkhaaGreatDoor.RefDec (num_ref str_ref)
open Go.Proofs.YtjeamfoicpgkhaaGreatDoor.Put (PutPost put_no put_long put_yes)
set_option linter.unusedVariables false
set_option linter.unusedSimpArgs false
theorem msg_cases {m : MsgD} (h : msgB m = true) : Small m.client ∧ Small m.rev ∧ Small m.seq ∧ ((m.kind = 0 ∧ editB m.edit = true) ∨ (m.kind = 1 ∧ m.entries.length ≤ 3 ∧ ∀ e ∈ m.entries, entryB e = true) ∨ (m.kind = 2 ∧ Small m.fr ∧ Small m.last ∧ m.text.size ≤ 300 ∧ treeB m.tree m.text.size = true)) := by
  simp only [msgB, headB, Bool.and_eq_true] at h
  obtain ⟨⟨⟨h1, h2⟩, h3⟩, h4⟩ := h
  refine ⟨up_small h1 (by decide), up_small h2 (by decide), up_small h3 (by decide), ?_⟩
  split at h4
  · rename_i hk
    simp only [pollB, Bool.and_eq_true] at h4
    exact .inl ⟨hk, h4.1.2⟩
  · split at h4
    · rename_i hk
      simp only [chgB, Bool.and_eq_true, decide_eq_true_eq, List.all_eq_true] at h4
      exact .inr (.inl ⟨hk, h4.1.2.2.2, h4.2⟩)
    · split at h4
      · rename_i hk
        simp only [snapB, Bool.and_eq_true, decide_eq_true_eq] at h4
        exact .inr (.inr ⟨hk, up_small h4.1.1.1.2 (by decide), up_small h4.1.1.2 (by decide), h4.1.2, h4.2⟩)
      · cases h4
def MayAt (m : MsgD) (ev env nv : Value) (w : World) : Prop := ∀ w', Step No w w' → Calls Tryz.prog 19 #[aggM m ev env nv] w' fun e w'' => e = .returned (.bool (msgB m)) ∧ Step No w' w''
set_option maxHeartbeats 16000000 in
set_option maxRecDepth 100000 in
theorem put0 (w : World) (cl rv sq fm ls : Int) (rf : Bool) (es : List CompD) (en : List EntryD) (tx : ByteArray) (rt nx : Int) (ns : List NodeD) (ev env nv : Value) (hm : MsgR w ⟨0, cl, rv, sq, fm, ls, rf, es, en, tx, ⟨rt, nx, ns⟩⟩ ev env nv) (hb : msgB ⟨0, cl, rv, sq, fm, ls, rf, es, en, tx, ⟨rt, nx, ns⟩⟩ = true) (hMay : MayAt ⟨0, cl, rv, sq, fm, ls, rf, es, en, tx, ⟨rt, nx, ns⟩⟩ ev env nv w) : Calls Tryz.prog 13 #[aggM ⟨0, cl, rv, sq, fm, ls, rf, es, en, tx, ⟨rt, nx, ns⟩⟩ ev env nv] w (PutPost ⟨0, cl, rv, sq, fm, ls, rf, es, en, tx, ⟨rt, nx, ns⟩⟩ w) := by
  obtain ⟨A1, n1, rfl, -, -⟩ := comps_len hm.edit
  obtain ⟨A2, n2, rfl, -, -⟩ := sl_len hm.entries
  obtain ⟨A3, n3, rfl, -, -⟩ := sl_len hm.nodes
  have HR1 := Lib.hid (show CompsR w es _ from hm.edit)
  have HR2 := Lib.hid (show EntriesR w en _ from hm.entries)
  have HR3 := Lib.hid (show NodesR w ns _ from hm.nodes)
  have HB := Lib.hid hb
  have HMay := Lib.hid hMay
  obtain ⟨hcl, hrv, hsq, hk⟩ := msg_cases hb
  simp only at hcl hrv hsq hk
  have HCl := Lib.hid hcl
  have HRv := Lib.hid hrv
  have HSq := Lib.hid hsq
  have hEd : editB es = true := by
    rcases hk with hk | hk | hk
    · exact hk.2
    · exact absurd hk.1 (by decide)
    · exact absurd hk.1 (by decide)
  have HEd := Lib.hid hEd
  have HRaw := Lib.hid (edit_parts hEd).1
  have HEl := Lib.hid (edit_parts hEd).2
  clear hEd
  have HM : Hid ((⟨#[80]⟩ : ByteArray) = ⟨([80] : List UInt8).toArray⟩) := Lib.hid rfl
  have e0 : (⟨#[80]⟩ : ByteArray).size = 1 := rfl
  obtain ⟨D0, HD0, zD0⟩ := list_str (num cl)
  have yD0 : D0.size ≤ 10 := by rw [zD0]; exact num_len HCl.out
  obtain ⟨N0, EN0, HN0, zN0⟩ := cat_to HM (num cl)
  rw [HD0.out] at EN0
  rw [← zD0] at zN0
  rw [e0] at zN0
  have wN0 : N0.size ≤ 1 + D0.size := Nat.le_of_eq zN0
  have qN0 : ¬ 9223372036854775807 < (⟨#[80]⟩ : ByteArray).size + D0.size := by rw [e0]; omega
  obtain ⟨D1, HD1, zD1⟩ := list_str (num rv)
  have yD1 : D1.size ≤ 10 := by rw [zD1]; exact num_len HRv.out
  obtain ⟨N1, EN1, HN1, zN1⟩ := cat_to HN0 (num rv)
  rw [HD1.out] at EN1
  rw [← zD1] at zN1
  have wN1 : N1.size ≤ N0.size + D1.size := Nat.le_of_eq zN1
  have qN1 : ¬ 9223372036854775807 < N0.size + D1.size := by omega
  have rN1 : ¬ 9223372036854775807 < 1 + D0.size + D1.size := by omega
  clear zD0 zD1 zN0 zN1
  have s1 : ¬ 9223372036854775807 < 1 + D0.size := by omega
  have s2 : ¬ 9223372036854775806 < D0.size := by omega
  have y1 : N1.size ≤ 21 := by omega
  have hw1 : IntKind.i64.wrap 1 = 1 := by rfl
  have hw2 : IntKind.i64.wrap 2 = 2 := by rfl
  have hw3 : IntKind.i64.wrap 3 = 3 := by rfl
  have hx : (⟨#[80, 67, 83]⟩ : ByteArray).extract 0 1 = ⟨#[80]⟩ := by rfl
  clear hm hb hMay hcl hrv hsq hk e0
  unfold aggM msgCells
  simp only
  go_enter Tryz.func13, Tryz.ntmps13
  go_wp2_with fail
  refine (HMay.out _ (by repeat' (first | exact Step.refl _ _ | with_reducible assumption | refine Step.drew ?_ | refine Step.drewN ?_ _ | refine Step.alloc ?_ _))).mono ?_
  rintro e w2 ⟨rfl, hs1⟩
  rw [HB.out]
  have HBx := Lib.hid (hs1.blk (blk_new w _) (fun f => f))
  have HS2 : Hid (Step No w w2) := Lib.hid (((Step.refl No w).alloc _).trans hs1 (fun _ f _ => f))
  have HC : Hid (∀ w', Step No w2 w' → w'.cell? ⟨w.heap.size, 0, none⟩ = some (.int .i64 0) ∧ w'.cell? ⟨w.heap.size, 1, none⟩ = some (.int .i64 cl) ∧ w'.cell? ⟨w.heap.size, 2, none⟩ = some (.int .i64 rv)) := Lib.hid fun w' hs => by
    obtain ⟨a0, a1, a2, -⟩ := cells13 (hs.blk HBx.out (fun f => f))
    exact ⟨a0, a1, a2⟩
  have HC13 : Hid (∀ w', Step No w2 w' → w'.cell? ⟨w.heap.size, 0, none⟩ = some (.int .i64 0) ∧ w'.cell? ⟨w.heap.size, 1, none⟩ = some (.int .i64 cl) ∧ w'.cell? ⟨w.heap.size, 2, none⟩ = some (.int .i64 rv) ∧ w'.cell? ⟨w.heap.size, 3, none⟩ = some (.int .i64 sq) ∧ w'.cell? ⟨w.heap.size, 4, none⟩ = some (.int .i64 fm) ∧ w'.cell? ⟨w.heap.size, 5, none⟩ = some (.int .i64 ls) ∧ w'.cell? ⟨w.heap.size, 6, none⟩ = some (.bool rf) ∧ w'.cell? ⟨w.heap.size, 7, none⟩ = some (.slice A1 es.length n1) ∧ w'.cell? ⟨w.heap.size, 8, none⟩ = some (.slice A2 en.length n2) ∧ w'.cell? ⟨w.heap.size, 9, none⟩ = some (.string tx) ∧ w'.cell? ⟨w.heap.size, 10, none⟩ = some (.int .i64 rt) ∧ w'.cell? ⟨w.heap.size, 11, none⟩ = some (.int .i64 nx) ∧ w'.cell? ⟨w.heap.size, 12, none⟩ = some (.slice A3 ns.length n3)) := Lib.hid fun w' hs => cells13 (hs.blk HBx.out (fun f => f))
  clear hs1
  obtain ⟨c0, c1, c2⟩ := HC.out w2 (Step.refl _ _)
  go_upto_region 3 with (fail)
  go_cut [4] (fun s wx => s = .string N1 ∧ Step No w2 wx)
  case first =>
    have H2 : Hid (Step No w2 w2.drew) := Lib.hid ((Step.refl No w2).drew)
    go_region_held3 (fun w' => w'.cell? ⟨w.heap.size, 0, none⟩ = some (.int .i64 0) ∧ w'.cell? ⟨w.heap.size, 1, none⟩ = some (.int .i64 cl) ∧ w'.cell? ⟨w.heap.size, 2, none⟩ = some (.int .i64 rv)) (first | exact HC.out _ H4.out | exact HC.out _ H3.out | exact HC.out _ H2.out) (first | (go_at_call 42; first | (refine (num_ref cl HCl.out.1 (by have := HCl.out.2; omega) _).mono ?_; rintro e v0 ⟨rfl, hv⟩; rw [HD0.out]; have H3 := Lib.hid (Step.trans (F := No) (G := No) (show Step No w2 _ from by first | exact H2.out | exact Step.refl _ _) hv (fun _ f _ => f)); clear hv) | (refine (num_ref rv HRv.out.1 (by have := HRv.out.2; omega) _).mono ?_; rintro e v1 ⟨rfl, hv⟩; rw [HD1.out]; have H4 := Lib.hid (Step.trans (F := No) (G := No) (show Step No w2 _ from by exact H3.out) hv (fun _ f _ => f)); clear hv)))
    go_wp2
    go_meet
    exact ⟨by first | rfl | rw [EN0, EN1], H4.out⟩
  case rest =>
  obtain ⟨rfl, hs7⟩ := hcut
  have H7 := Lib.hid hs7
  obtain ⟨a0, a1, a2, a3, a4, a5, a6, a7, a8, a9, a10, a11, a12⟩ := HC13.out _ hs7
  clear c0 c1 c2 hs7 HC
  obtain ⟨E0, HE0, zE0⟩ := list_str (num sq)
  have yE0 : E0.size ≤ 10 := by rw [zE0]; exact num_len HSq.out
  obtain ⟨K0, EK0, HK0, zK0⟩ := cat_to HN1 (num sq)
  rw [HE0.out] at EK0
  rw [← zE0] at zK0
  have wK0 : K0.size ≤ N1.size + E0.size := Nat.le_of_eq zK0
  have qK0 : ¬ 9223372036854775807 < N1.size + E0.size := by omega
  obtain ⟨E1, HE1, zE1⟩ := list_str (editS es)
  have yE1 : E1.size ≤ 20480010 := by rw [zE1]; exact edit_len HEd.out
  obtain ⟨K1, EK1, HK1, zK1⟩ := cat_to HK0 (editS es)
  rw [HE1.out] at EK1
  rw [← zE1] at zK1
  have wK1 : K1.size ≤ K0.size + E1.size := Nat.le_of_eq zK1
  have qK1 : ¬ 9223372036854775807 < K0.size + E1.size := by omega
  have rK1 : ¬ 9223372036854775807 < N1.size + E0.size + E1.size := by omega
  clear zE0 zE1 zK0 zK1
  have HS : Hid (∀ w', Step No w2 w' → w'.cell? ⟨w.heap.size, 3, none⟩ = some (.int .i64 sq) ∧ w'.cell? ⟨w.heap.size, 7, none⟩ = some (.slice A1 es.length n1)) := Lib.hid fun w' hs => ⟨(HC13.out w' hs).2.2.2.1, (HC13.out w' hs).2.2.2.2.2.2.2.1⟩
  have HE : Hid (K1 = ⟨(putS ⟨0, cl, rv, sq, fm, ls, rf, es, en, tx, ⟨rt, nx, ns⟩⟩).toArray⟩) := Lib.hid (by rw [HK1.out]; simp [putS, bodyS, letter, nums])
  have HZ : Hid (K1.size = (putS ⟨0, cl, rv, sq, fm, ls, rf, es, en, tx, ⟨rt, nx, ns⟩⟩).length) := Lib.hid (by rw [HE.out, str_size])
  go_upto_region 10 with (fail)
  have I8 : Hid (Step No w2 (World.drew _)) := Lib.hid (H7.out.drew)
  go_region_held3 (fun w' => w'.cell? ⟨w.heap.size, 3, none⟩ = some (.int .i64 sq) ∧ w'.cell? ⟨w.heap.size, 7, none⟩ = some (.slice A1 es.length n1)) (first | exact HS.out _ I10.out | exact HS.out _ I9.out | exact HS.out _ I8.out) (first | (go_at_call 42; (refine (num_ref sq HSq.out.1 (by have := HSq.out.2; omega) _).mono ?_; rintro e v0 ⟨rfl, hv⟩; rw [HE0.out]; have I9 := Lib.hid (Step.trans (F := No) (G := No) (show Step No w2 _ from by first | exact I8.out | exact Step.refl _ _) hv (fun _ f _ => f)); clear hv)) | (go_at_call 43; (refine (comps_ref _ es (.slice A1 es.length n1) (HR1.out.to (HS2.out.trans I9.out (fun _ f _ => f))) HRaw.out HEl.out).mono ?_; rintro e v1 ⟨rfl, hv⟩; rw [HE1.out]; have I10 := Lib.hid (Step.trans (F := No) (G := No) (show Step No w2 _ from by exact I9.out) hv (fun _ f _ => f)); clear hv)))
  by_cases hlen : (putS ⟨0, cl, rv, sq, fm, ls, rf, es, en, tx, ⟨rt, nx, ns⟩⟩).length ≤ 1000000
  · have hz : ¬ (1000000 : Int) < (K1.size : Int) := by rw [HZ.out]; omega
    go_wp2
    go_ret2
    rw [HE.out]
    exact put_yes HB.out hlen (HS2.out.trans I10.out (fun _ f _ => f))
  · have hz : (1000000 : Int) < (K1.size : Int) := by rw [HZ.out]; omega
    go_wp2
    go_ret2
    exact put_long hlen (HS2.out.trans I10.out (fun _ f _ => f))
set_option maxHeartbeats 16000000 in
set_option maxRecDepth 100000 in
theorem put1 (w : World) (cl rv sq fm ls : Int) (rf : Bool) (es : List CompD) (en : List EntryD) (tx : ByteArray) (rt nx : Int) (ns : List NodeD) (ev env nv : Value) (hm : MsgR w ⟨1, cl, rv, sq, fm, ls, rf, es, en, tx, ⟨rt, nx, ns⟩⟩ ev env nv) (hb : msgB ⟨1, cl, rv, sq, fm, ls, rf, es, en, tx, ⟨rt, nx, ns⟩⟩ = true) (hMay : MayAt ⟨1, cl, rv, sq, fm, ls, rf, es, en, tx, ⟨rt, nx, ns⟩⟩ ev env nv w) : Calls Tryz.prog 13 #[aggM ⟨1, cl, rv, sq, fm, ls, rf, es, en, tx, ⟨rt, nx, ns⟩⟩ ev env nv] w (PutPost ⟨1, cl, rv, sq, fm, ls, rf, es, en, tx, ⟨rt, nx, ns⟩⟩ w) := by
  obtain ⟨A1, n1, rfl, -, -⟩ := comps_len hm.edit
  obtain ⟨A2, n2, rfl, -, -⟩ := sl_len hm.entries
  obtain ⟨A3, n3, rfl, -, -⟩ := sl_len hm.nodes
  have HR1 := Lib.hid (show CompsR w es _ from hm.edit)
  have HR2 := Lib.hid (show EntriesR w en _ from hm.entries)
  have HR3 := Lib.hid (show NodesR w ns _ from hm.nodes)
  have HB := Lib.hid hb
  have HMay := Lib.hid hMay
  obtain ⟨hcl, hrv, hsq, hk⟩ := msg_cases hb
  simp only at hcl hrv hsq hk
  have HCl := Lib.hid hcl
  have HRv := Lib.hid hrv
  have HSq := Lib.hid hsq
  have hEb : en.length ≤ 3 ∧ ∀ e ∈ en, entryB e = true := by
    rcases hk with hk | hk | hk
    · exact absurd hk.1 (by decide)
    · exact hk.2
    · exact absurd hk.1 (by decide)
  have HEb := Lib.hid hEb.2
  have hEn := hEb.1
  clear hEb
  have HM : Hid ((⟨#[67]⟩ : ByteArray) = ⟨([67] : List UInt8).toArray⟩) := Lib.hid rfl
  have e0 : (⟨#[67]⟩ : ByteArray).size = 1 := rfl
  obtain ⟨D0, HD0, zD0⟩ := list_str (num cl)
  have yD0 : D0.size ≤ 10 := by rw [zD0]; exact num_len HCl.out
  obtain ⟨N0, EN0, HN0, zN0⟩ := cat_to HM (num cl)
  rw [HD0.out] at EN0
  rw [← zD0] at zN0
  rw [e0] at zN0
  have wN0 : N0.size ≤ 1 + D0.size := Nat.le_of_eq zN0
  have qN0 : ¬ 9223372036854775807 < (⟨#[67]⟩ : ByteArray).size + D0.size := by rw [e0]; omega
  obtain ⟨D1, HD1, zD1⟩ := list_str (num rv)
  have yD1 : D1.size ≤ 10 := by rw [zD1]; exact num_len HRv.out
  obtain ⟨N1, EN1, HN1, zN1⟩ := cat_to HN0 (num rv)
  rw [HD1.out] at EN1
  rw [← zD1] at zN1
  have wN1 : N1.size ≤ N0.size + D1.size := Nat.le_of_eq zN1
  have qN1 : ¬ 9223372036854775807 < N0.size + D1.size := by omega
  have rN1 : ¬ 9223372036854775807 < 1 + D0.size + D1.size := by omega
  clear zD0 zD1 zN0 zN1
  have s1 : ¬ 9223372036854775807 < 1 + D0.size := by omega
  have s2 : ¬ 9223372036854775806 < D0.size := by omega
  have y1 : N1.size ≤ 21 := by omega
  have hw1 : IntKind.i64.wrap 1 = 1 := by rfl
  have hw2 : IntKind.i64.wrap 2 = 2 := by rfl
  have hw3 : IntKind.i64.wrap 3 = 3 := by rfl
  have hx : (⟨#[80, 67, 83]⟩ : ByteArray).extract 1 2 = ⟨#[67]⟩ := by rfl
  clear hm hb hMay hcl hrv hsq hk e0
  unfold aggM msgCells
  simp only
  go_enter Tryz.func13, Tryz.ntmps13
  go_wp2_with fail
  refine (HMay.out _ (by repeat' (first | exact Step.refl _ _ | with_reducible assumption | refine Step.drew ?_ | refine Step.drewN ?_ _ | refine Step.alloc ?_ _))).mono ?_
  rintro e w2 ⟨rfl, hs1⟩
  rw [HB.out]
  have HBx := Lib.hid (hs1.blk (blk_new w _) (fun f => f))
  have HS2 : Hid (Step No w w2) := Lib.hid (((Step.refl No w).alloc _).trans hs1 (fun _ f _ => f))
  have HC : Hid (∀ w', Step No w2 w' → w'.cell? ⟨w.heap.size, 0, none⟩ = some (.int .i64 1) ∧ w'.cell? ⟨w.heap.size, 1, none⟩ = some (.int .i64 cl) ∧ w'.cell? ⟨w.heap.size, 2, none⟩ = some (.int .i64 rv)) := Lib.hid fun w' hs => by
    obtain ⟨a0, a1, a2, -⟩ := cells13 (hs.blk HBx.out (fun f => f))
    exact ⟨a0, a1, a2⟩
  have HC13 : Hid (∀ w', Step No w2 w' → w'.cell? ⟨w.heap.size, 0, none⟩ = some (.int .i64 1) ∧ w'.cell? ⟨w.heap.size, 1, none⟩ = some (.int .i64 cl) ∧ w'.cell? ⟨w.heap.size, 2, none⟩ = some (.int .i64 rv) ∧ w'.cell? ⟨w.heap.size, 3, none⟩ = some (.int .i64 sq) ∧ w'.cell? ⟨w.heap.size, 4, none⟩ = some (.int .i64 fm) ∧ w'.cell? ⟨w.heap.size, 5, none⟩ = some (.int .i64 ls) ∧ w'.cell? ⟨w.heap.size, 6, none⟩ = some (.bool rf) ∧ w'.cell? ⟨w.heap.size, 7, none⟩ = some (.slice A1 es.length n1) ∧ w'.cell? ⟨w.heap.size, 8, none⟩ = some (.slice A2 en.length n2) ∧ w'.cell? ⟨w.heap.size, 9, none⟩ = some (.string tx) ∧ w'.cell? ⟨w.heap.size, 10, none⟩ = some (.int .i64 rt) ∧ w'.cell? ⟨w.heap.size, 11, none⟩ = some (.int .i64 nx) ∧ w'.cell? ⟨w.heap.size, 12, none⟩ = some (.slice A3 ns.length n3)) := Lib.hid fun w' hs => cells13 (hs.blk HBx.out (fun f => f))
  clear hs1
  obtain ⟨c0, c1, c2⟩ := HC.out w2 (Step.refl _ _)
  go_upto_region 3 with (fail)
  go_cut [4] (fun s wx => s = .string N1 ∧ Step No w2 wx)
  case first =>
    have H2 : Hid (Step No w2 w2.drew) := Lib.hid ((Step.refl No w2).drew)
    go_region_held3 (fun w' => w'.cell? ⟨w.heap.size, 0, none⟩ = some (.int .i64 1) ∧ w'.cell? ⟨w.heap.size, 1, none⟩ = some (.int .i64 cl) ∧ w'.cell? ⟨w.heap.size, 2, none⟩ = some (.int .i64 rv)) (first | exact HC.out _ H4.out | exact HC.out _ H3.out | exact HC.out _ H2.out) (first | (go_at_call 42; first | (refine (num_ref cl HCl.out.1 (by have := HCl.out.2; omega) _).mono ?_; rintro e v0 ⟨rfl, hv⟩; rw [HD0.out]; have H3 := Lib.hid (Step.trans (F := No) (G := No) (show Step No w2 _ from by first | exact H2.out | exact Step.refl _ _) hv (fun _ f _ => f)); clear hv) | (refine (num_ref rv HRv.out.1 (by have := HRv.out.2; omega) _).mono ?_; rintro e v1 ⟨rfl, hv⟩; rw [HD1.out]; have H4 := Lib.hid (Step.trans (F := No) (G := No) (show Step No w2 _ from by exact H3.out) hv (fun _ f _ => f)); clear hv)))
    go_wp2
    go_meet
    exact ⟨by first | rfl | rw [EN0, EN1], H4.out⟩
  case rest =>
  obtain ⟨rfl, hs7⟩ := hcut
  have H7 := Lib.hid hs7
  obtain ⟨a0, a1, a2, a3, a4, a5, a6, a7, a8, a9, a10, a11, a12⟩ := HC13.out _ hs7
  clear c0 c1 c2 hs7 HC
  obtain ⟨E0, HE0, zE0⟩ := list_str (num (en.length : Int))
  have yE0 : E0.size ≤ 10 := by rw [zE0]; exact num_len ⟨by omega, by omega⟩
  obtain ⟨K0, EK0, HK0, zK0⟩ := cat_to HN1 (num (en.length : Int))
  rw [HE0.out] at EK0
  rw [← zE0] at zK0
  have wK0 : K0.size ≤ N1.size + E0.size := Nat.le_of_eq zK0
  clear zE0 zK0
  go_wp2_with fail
  refine (num_ref (en.length : Int) (by omega) (by omega) _).mono ?_
  rintro e w8 ⟨rfl, hs8⟩
  rw [HE0.out]
  have H8 : Hid (Step No w2 w8) := Lib.hid (H7.out.trans hs8 (fun _ f _ => f))
  clear a0 a1 a2 a3 a4 a5 a6 a7 a8 a9 a10 a11 a12 hs8
  go_wp2
  go_loopw [5, 4] (fun i s wr => ∃ (k : Nat) (M : ByteArray), k ≤ en.length ∧ i = .int .i64 k ∧ s = .string M ∧ Hid (M = ⟨(67 :: (nums [cl, rv] ++ num en.length) ++ (en.take k).flatMap entryS).toArray⟩) ∧ M.size ≤ 40 + 189000000 * k ∧ Step No w2 wr) (fun i _ _ => en.length - (RowKit.intOf i).toNat)
  case atStart => exact ⟨0, K0, Nat.zero_le _, rfl, rfl, Lib.hid (by rw [HK0.out]; simp [nums]), by omega, H8.out⟩
  case round =>
    obtain ⟨k, M, hkn, rfl, rfl, HMk, hMk, hs⟩ := hrel
    obtain ⟨a0, a1, a2, a3, a4, a5, a6, a7, a8, a9, a10, a11, a12⟩ := HC13.out _ hs
    clear a1 a2 a3 a4 a5 a6 a7 a9 a10 a11 a12
    by_cases hlt : k < en.length
    · obtain ⟨ad, ev, dv, rfl, hev, hdv, c0, c1, c2, c3⟩ := entries_cells (HR2.out.to (HS2.out.trans hs (fun _ f _ => f))) k hlt
      have hi0 : (0 : Int) ≤ k := by omega
      have hi1 : (k : Int) < en.length := by omega
      have HBe := Lib.hid (HEb.out _ (List.getElem_mem hlt))
      have HT := Lib.hid (flat_next entryS en k hlt)
      generalize en[k] = x at *
      obtain ⟨Ae, ce, rfl, -, -⟩ := comps_len hev
      obtain ⟨Ad, cd, rfl, -, -⟩ := sl_len hdv
      obtain ⟨xc, xs, xe, xd⟩ := x
      simp only at c0 c1 c2 c3 hev hdv
      have Hev := Lib.hid hev
      have Hdv := Lib.hid hdv
      obtain ⟨Dx, HDx, zDx⟩ := list_str (entryS ⟨xc, xs, xe, xd⟩)
      have yDx : Dx.size ≤ 189000000 := by rw [zDx]; exact entry_len HBe.out
      obtain ⟨Mx, EMx, HMx, zMx⟩ := cat_to HMk (entryS ⟨xc, xs, xe, xd⟩)
      rw [HDx.out] at EMx
      rw [← zDx] at zMx
      have wMx : Mx.size ≤ M.size + Dx.size := Nat.le_of_eq zMx
      clear zDx zMx hev hdv
      have Hhs := Lib.hid hs
      clear hs
      go_wp2_with fail
      refine (entry_ref _ ⟨xc, xs, xe, xd⟩ _ _ Hev.out Hdv.out HBe.out).mono ?_
      rintro e w9 ⟨rfl, hs9⟩
      rw [HDx.out]
      have HS9 : Hid (Step No w2 w9) := Lib.hid (Hhs.out.trans hs9 (fun _ f _ => f))
      clear hs9
      go_wp2
      go_roundw
      case rel => exact ⟨k + 1, Mx, hlt, rfl, rfl, Lib.hid (by rw [HMx.out, HT.out]; simp), by omega, HS9.out⟩
      case measure => simp [RowKit.intOf]; omega
    · obtain rfl : k = en.length := by omega
      rw [List.take_length] at HMk
      have HE : Hid (M = ⟨(putS ⟨1, cl, rv, sq, fm, ls, rf, es, en, tx, ⟨rt, nx, ns⟩⟩).toArray⟩) := Lib.hid (by rw [HMk.out]; simp [putS, bodyS, letter, nums])
      have HZ : Hid (M.size = (putS ⟨1, cl, rv, sq, fm, ls, rf, es, en, tx, ⟨rt, nx, ns⟩⟩).length) := Lib.hid (by rw [HE.out, str_size])
      have Hhs := Lib.hid hs
      clear hs
      by_cases hlen : (putS ⟨1, cl, rv, sq, fm, ls, rf, es, en, tx, ⟨rt, nx, ns⟩⟩).length ≤ 1000000
      · have hz : ¬ (1000000 : Int) < (M.size : Int) := by rw [HZ.out]; omega
        go_wp2
        go_ret2
        rw [HE.out]
        exact put_yes HB.out hlen (HS2.out.trans Hhs.out (fun _ f _ => f))
      · have hz : (1000000 : Int) < (M.size : Int) := by rw [HZ.out]; omega
        go_wp2
        go_ret2
        exact put_long hlen (HS2.out.trans Hhs.out (fun _ f _ => f))
set_option maxHeartbeats 16000000 in
set_option maxRecDepth 100000 in
theorem put2f (w : World) (cl rv sq fm ls : Int) (es : List CompD) (en : List EntryD) (tx : ByteArray) (rt nx : Int) (ns : List NodeD) (ev env nv : Value) (hm : MsgR w ⟨2, cl, rv, sq, fm, ls, false, es, en, tx, ⟨rt, nx, ns⟩⟩ ev env nv) (hb : msgB ⟨2, cl, rv, sq, fm, ls, false, es, en, tx, ⟨rt, nx, ns⟩⟩ = true) (hMay : MayAt ⟨2, cl, rv, sq, fm, ls, false, es, en, tx, ⟨rt, nx, ns⟩⟩ ev env nv w) : Calls Tryz.prog 13 #[aggM ⟨2, cl, rv, sq, fm, ls, false, es, en, tx, ⟨rt, nx, ns⟩⟩ ev env nv] w (PutPost ⟨2, cl, rv, sq, fm, ls, false, es, en, tx, ⟨rt, nx, ns⟩⟩ w) := by
  obtain ⟨A1, n1, rfl, -, -⟩ := comps_len hm.edit
  obtain ⟨A2, n2, rfl, -, -⟩ := sl_len hm.entries
  obtain ⟨A3, n3, rfl, -, -⟩ := sl_len hm.nodes
  have HR1 := Lib.hid (show CompsR w es _ from hm.edit)
  have HR2 := Lib.hid (show EntriesR w en _ from hm.entries)
  have HR3 := Lib.hid (show NodesR w ns _ from hm.nodes)
  have HB := Lib.hid hb
  have HMay := Lib.hid hMay
  obtain ⟨hcl, hrv, hsq, hk⟩ := msg_cases hb
  simp only at hcl hrv hsq hk
  have HCl := Lib.hid hcl
  have HRv := Lib.hid hrv
  have HSq := Lib.hid hsq
  have hSn : Small fm ∧ Small ls ∧ tx.size ≤ 300 ∧ treeB ⟨rt, nx, ns⟩ tx.size = true := by
    rcases hk with hk | hk | hk
    · exact absurd hk.1 (by decide)
    · exact absurd hk.1 (by decide)
    · exact hk.2
  have HFm := Lib.hid hSn.1
  have HLs := Lib.hid hSn.2.1
  have HTz : Hid (tx.size ≤ 140737488355328) := Lib.hid (by have := hSn.2.2.1; omega)
  have htl : tx.data.toList.length = tx.size := Array.length_toList
  have HTl : Hid ((str tx.data.toList).length ≤ 310) := Lib.hid (by have := str_len (s := tx.data.toList) ⟨by omega, by have := hSn.2.2.1; omega⟩; have := hSn.2.2.1; omega)
  have HTb := Lib.hid hSn.2.2.2
  have HWt := Lib.hid (tree_wf hSn.2.2.2)
  have HKt := Lib.hid (tree_kids hSn.2.2.2)
  have HNt := Lib.hid (tree_lim hSn.2.2.2)
  have HBit : Hid (Small (0 : Int)) := Lib.hid ⟨by decide, by decide⟩
  clear hSn htl
  have HM : Hid ((⟨#[83]⟩ : ByteArray) = ⟨([83] : List UInt8).toArray⟩) := Lib.hid rfl
  have e0 : (⟨#[83]⟩ : ByteArray).size = 1 := rfl
  obtain ⟨D0, HD0, zD0⟩ := list_str (num cl)
  have yD0 : D0.size ≤ 10 := by rw [zD0]; exact num_len HCl.out
  obtain ⟨N0, EN0, HN0, zN0⟩ := cat_to HM (num cl)
  rw [HD0.out] at EN0
  rw [← zD0] at zN0
  rw [e0] at zN0
  have wN0 : N0.size ≤ 1 + D0.size := Nat.le_of_eq zN0
  have qN0 : ¬ 9223372036854775807 < (⟨#[83]⟩ : ByteArray).size + D0.size := by rw [e0]; omega
  obtain ⟨D1, HD1, zD1⟩ := list_str (num rv)
  have yD1 : D1.size ≤ 10 := by rw [zD1]; exact num_len HRv.out
  obtain ⟨N1, EN1, HN1, zN1⟩ := cat_to HN0 (num rv)
  rw [HD1.out] at EN1
  rw [← zD1] at zN1
  have wN1 : N1.size ≤ N0.size + D1.size := Nat.le_of_eq zN1
  have qN1 : ¬ 9223372036854775807 < N0.size + D1.size := by omega
  have rN1 : ¬ 9223372036854775807 < 1 + D0.size + D1.size := by omega
  clear zD0 zD1 zN0 zN1
  have s1 : ¬ 9223372036854775807 < 1 + D0.size := by omega
  have s2 : ¬ 9223372036854775806 < D0.size := by omega
  have y1 : N1.size ≤ 21 := by omega
  have hw1 : IntKind.i64.wrap 1 = 1 := by rfl
  have hw2 : IntKind.i64.wrap 2 = 2 := by rfl
  have hw3 : IntKind.i64.wrap 3 = 3 := by rfl
  have hx : (⟨#[80, 67, 83]⟩ : ByteArray).extract 2 3 = ⟨#[83]⟩ := by rfl
  clear hm hb hMay hcl hrv hsq hk e0
  unfold aggM msgCells
  simp only
  go_enter Tryz.func13, Tryz.ntmps13
  go_wp2_with fail
  refine (HMay.out _ (by repeat' (first | exact Step.refl _ _ | with_reducible assumption | refine Step.drew ?_ | refine Step.drewN ?_ _ | refine Step.alloc ?_ _))).mono ?_
  rintro e w2 ⟨rfl, hs1⟩
  rw [HB.out]
  have HBx := Lib.hid (hs1.blk (blk_new w _) (fun f => f))
  have HS2 : Hid (Step No w w2) := Lib.hid (((Step.refl No w).alloc _).trans hs1 (fun _ f _ => f))
  have HC : Hid (∀ w', Step No w2 w' → w'.cell? ⟨w.heap.size, 0, none⟩ = some (.int .i64 2) ∧ w'.cell? ⟨w.heap.size, 1, none⟩ = some (.int .i64 cl) ∧ w'.cell? ⟨w.heap.size, 2, none⟩ = some (.int .i64 rv)) := Lib.hid fun w' hs => by
    obtain ⟨a0, a1, a2, -⟩ := cells13 (hs.blk HBx.out (fun f => f))
    exact ⟨a0, a1, a2⟩
  have HC13 : Hid (∀ w', Step No w2 w' → w'.cell? ⟨w.heap.size, 0, none⟩ = some (.int .i64 2) ∧ w'.cell? ⟨w.heap.size, 1, none⟩ = some (.int .i64 cl) ∧ w'.cell? ⟨w.heap.size, 2, none⟩ = some (.int .i64 rv) ∧ w'.cell? ⟨w.heap.size, 3, none⟩ = some (.int .i64 sq) ∧ w'.cell? ⟨w.heap.size, 4, none⟩ = some (.int .i64 fm) ∧ w'.cell? ⟨w.heap.size, 5, none⟩ = some (.int .i64 ls) ∧ w'.cell? ⟨w.heap.size, 6, none⟩ = some (.bool false) ∧ w'.cell? ⟨w.heap.size, 7, none⟩ = some (.slice A1 es.length n1) ∧ w'.cell? ⟨w.heap.size, 8, none⟩ = some (.slice A2 en.length n2) ∧ w'.cell? ⟨w.heap.size, 9, none⟩ = some (.string tx) ∧ w'.cell? ⟨w.heap.size, 10, none⟩ = some (.int .i64 rt) ∧ w'.cell? ⟨w.heap.size, 11, none⟩ = some (.int .i64 nx) ∧ w'.cell? ⟨w.heap.size, 12, none⟩ = some (.slice A3 ns.length n3)) := Lib.hid fun w' hs => cells13 (hs.blk HBx.out (fun f => f))
  clear hs1
  obtain ⟨c0, c1, c2⟩ := HC.out w2 (Step.refl _ _)
  go_upto_region 3 with (fail)
  go_cut [4] (fun s wx => s = .string N1 ∧ Step No w2 wx)
  case first =>
    have H2 : Hid (Step No w2 w2.drew) := Lib.hid ((Step.refl No w2).drew)
    go_region_held3 (fun w' => w'.cell? ⟨w.heap.size, 0, none⟩ = some (.int .i64 2) ∧ w'.cell? ⟨w.heap.size, 1, none⟩ = some (.int .i64 cl) ∧ w'.cell? ⟨w.heap.size, 2, none⟩ = some (.int .i64 rv)) (first | exact HC.out _ H4.out | exact HC.out _ H3.out | exact HC.out _ H2.out) (first | (go_at_call 42; first | (refine (num_ref cl HCl.out.1 (by have := HCl.out.2; omega) _).mono ?_; rintro e v0 ⟨rfl, hv⟩; rw [HD0.out]; have H3 := Lib.hid (Step.trans (F := No) (G := No) (show Step No w2 _ from by first | exact H2.out | exact Step.refl _ _) hv (fun _ f _ => f)); clear hv) | (refine (num_ref rv HRv.out.1 (by have := HRv.out.2; omega) _).mono ?_; rintro e v1 ⟨rfl, hv⟩; rw [HD1.out]; have H4 := Lib.hid (Step.trans (F := No) (G := No) (show Step No w2 _ from by exact H3.out) hv (fun _ f _ => f)); clear hv)))
    go_wp2
    go_meet
    exact ⟨by first | rfl | rw [EN0, EN1], H4.out⟩
  case rest =>
  obtain ⟨rfl, hs7⟩ := hcut
  have H7 := Lib.hid hs7
  obtain ⟨a0, a1, a2, a3, a4, a5, a6, a7, a8, a9, a10, a11, a12⟩ := HC13.out _ hs7
  clear c0 c1 c2 hs7 HC
  obtain ⟨E0, HE0, zE0⟩ := list_str (num sq)
  have yE0 : E0.size ≤ 10 := by rw [zE0]; exact num_len HSq.out
  obtain ⟨K0, EK0, HK0, zK0⟩ := cat_to HN1 (num sq)
  rw [HE0.out] at EK0
  rw [← zE0] at zK0
  have wK0 : K0.size ≤ N1.size + E0.size := Nat.le_of_eq zK0
  have qK0 : ¬ 9223372036854775807 < N1.size + E0.size := by omega
  obtain ⟨E1, HE1, zE1⟩ := list_str (num fm)
  have yE1 : E1.size ≤ 10 := by rw [zE1]; exact num_len HFm.out
  obtain ⟨K1, EK1, HK1, zK1⟩ := cat_to HK0 (num fm)
  rw [HE1.out] at EK1
  rw [← zE1] at zK1
  have wK1 : K1.size ≤ K0.size + E1.size := Nat.le_of_eq zK1
  have qK1 : ¬ 9223372036854775807 < K0.size + E1.size := by omega
  have rK1 : ¬ 9223372036854775807 < N1.size + E0.size + E1.size := by omega
  obtain ⟨E2, HE2, zE2⟩ := list_str (num ls)
  have yE2 : E2.size ≤ 10 := by rw [zE2]; exact num_len HLs.out
  obtain ⟨K2, EK2, HK2, zK2⟩ := cat_to HK1 (num ls)
  rw [HE2.out] at EK2
  rw [← zE2] at zK2
  have wK2 : K2.size ≤ K1.size + E2.size := Nat.le_of_eq zK2
  have qK2 : ¬ 9223372036854775807 < K1.size + E2.size := by omega
  have rK2 : ¬ 9223372036854775807 < N1.size + E0.size + E1.size + E2.size := by omega
  obtain ⟨E3, HE3, zE3⟩ := list_str (num (0 : Int))
  have yE3 : E3.size ≤ 10 := by rw [zE3]; exact num_len HBit.out
  obtain ⟨K3, EK3, HK3, zK3⟩ := cat_to HK2 (num (0 : Int))
  rw [HE3.out] at EK3
  rw [← zE3] at zK3
  have wK3 : K3.size ≤ K2.size + E3.size := Nat.le_of_eq zK3
  have qK3 : ¬ 9223372036854775807 < K2.size + E3.size := by omega
  have rK3 : ¬ 9223372036854775807 < N1.size + E0.size + E1.size + E2.size + E3.size := by omega
  obtain ⟨E4, HE4, zE4⟩ := list_str (str tx.data.toList)
  have yE4 : E4.size ≤ 310 := by rw [zE4]; exact HTl.out
  obtain ⟨K4, EK4, HK4, zK4⟩ := cat_to HK3 (str tx.data.toList)
  rw [HE4.out] at EK4
  rw [← zE4] at zK4
  have wK4 : K4.size ≤ K3.size + E4.size := Nat.le_of_eq zK4
  have qK4 : ¬ 9223372036854775807 < K3.size + E4.size := by omega
  have rK4 : ¬ 9223372036854775807 < N1.size + E0.size + E1.size + E2.size + E3.size + E4.size := by omega
  obtain ⟨E5, HE5, zE5⟩ := list_str (treeS ⟨rt, nx, ns⟩)
  have yE5 : E5.size ≤ 43000000 := by rw [zE5]; exact tree_len HTb.out
  obtain ⟨K5, EK5, HK5, zK5⟩ := cat_to HK4 (treeS ⟨rt, nx, ns⟩)
  rw [HE5.out] at EK5
  rw [← zE5] at zK5
  have wK5 : K5.size ≤ K4.size + E5.size := Nat.le_of_eq zK5
  have qK5 : ¬ 9223372036854775807 < K4.size + E5.size := by omega
  have rK5 : ¬ 9223372036854775807 < N1.size + E0.size + E1.size + E2.size + E3.size + E4.size + E5.size := by omega
  clear zE0 zE1 zE2 zE3 zE4 zE5 zK0 zK1 zK2 zK3 zK4 zK5
  have HS : Hid (∀ w', Step No w2 w' → w'.cell? ⟨w.heap.size, 3, none⟩ = some (.int .i64 sq) ∧ w'.cell? ⟨w.heap.size, 4, none⟩ = some (.int .i64 fm) ∧ w'.cell? ⟨w.heap.size, 5, none⟩ = some (.int .i64 ls) ∧ w'.cell? ⟨w.heap.size, 9, none⟩ = some (.string tx) ∧ w'.cell? ⟨w.heap.size, 10, none⟩ = some (.int .i64 rt) ∧ w'.cell? ⟨w.heap.size, 11, none⟩ = some (.int .i64 nx) ∧ w'.cell? ⟨w.heap.size, 12, none⟩ = some (.slice A3 ns.length n3)) := Lib.hid fun w' hs => by
    obtain ⟨b0, b1, b2, b3, b4, b5, b6, b7, b8, b9, b10, b11, b12⟩ := HC13.out w' hs
    exact ⟨b3, b4, b5, b9, b10, b11, b12⟩
  have HE : Hid (K5 = ⟨(putS ⟨2, cl, rv, sq, fm, ls, false, es, en, tx, ⟨rt, nx, ns⟩⟩).toArray⟩) := Lib.hid (by rw [HK5.out]; simp [putS, bodyS, letter, nums, bit])
  have HZ : Hid (K5.size = (putS ⟨2, cl, rv, sq, fm, ls, false, es, en, tx, ⟨rt, nx, ns⟩⟩).length) := Lib.hid (by rw [HE.out, str_size])
  go_upto_region 8 with (fail)
  have I8 : Hid (Step No w2 (World.drew _)) := Lib.hid (H7.out.drew)
  go_region_held3 (fun w' => w'.cell? ⟨w.heap.size, 3, none⟩ = some (.int .i64 sq) ∧ w'.cell? ⟨w.heap.size, 4, none⟩ = some (.int .i64 fm) ∧ w'.cell? ⟨w.heap.size, 5, none⟩ = some (.int .i64 ls) ∧ w'.cell? ⟨w.heap.size, 9, none⟩ = some (.string tx) ∧ w'.cell? ⟨w.heap.size, 10, none⟩ = some (.int .i64 rt) ∧ w'.cell? ⟨w.heap.size, 11, none⟩ = some (.int .i64 nx) ∧ w'.cell? ⟨w.heap.size, 12, none⟩ = some (.slice A3 ns.length n3)) (first | exact HS.out _ I14.out | exact HS.out _ I13.out | exact HS.out _ I12.out | exact HS.out _ I11.out | exact HS.out _ I10.out | exact HS.out _ I9.out | exact HS.out _ I8.out) (first | (go_at_call 42; first | (refine (num_ref sq HSq.out.1 (by have := HSq.out.2; omega) _).mono ?_; rintro e v0 ⟨rfl, hv⟩; rw [HE0.out]; have I9 := Lib.hid (Step.trans (F := No) (G := No) (show Step No w2 _ from by first | exact I8.out | exact Step.refl _ _) hv (fun _ f _ => f)); clear hv) | (refine (num_ref fm HFm.out.1 (by have := HFm.out.2; omega) _).mono ?_; rintro e v1 ⟨rfl, hv⟩; rw [HE1.out]; have I10 := Lib.hid (Step.trans (F := No) (G := No) (show Step No w2 _ from by exact I9.out) hv (fun _ f _ => f)); clear hv) | (refine (num_ref ls HLs.out.1 (by have := HLs.out.2; omega) _).mono ?_; rintro e v2 ⟨rfl, hv⟩; rw [HE2.out]; have I11 := Lib.hid (Step.trans (F := No) (G := No) (show Step No w2 _ from by exact I10.out) hv (fun _ f _ => f)); clear hv) | (refine (num_ref (0 : Int) HBit.out.1 (by have := HBit.out.2; omega) _).mono ?_; rintro e v3 ⟨rfl, hv⟩; rw [HE3.out]; have I12 := Lib.hid (Step.trans (F := No) (G := No) (show Step No w2 _ from by exact I11.out) hv (fun _ f _ => f)); clear hv)) | (go_at_call 45; (refine (str_ref tx HTz.out _).mono ?_; rintro e v4 ⟨rfl, hv⟩; rw [HE4.out]; have I13 := Lib.hid (Step.trans (F := No) (G := No) (show Step No w2 _ from by exact I12.out) hv (fun _ f _ => f)); clear hv)) | (go_at_call 46; (refine (tree_ref _ ⟨rt, nx, ns⟩ (.slice A3 ns.length n3) (HR3.out.to (HS2.out.trans I13.out (fun _ f _ => f))) HWt.out HKt.out HNt.out).mono ?_; rintro e v5 ⟨rfl, hv⟩; rw [HE5.out]; have I14 := Lib.hid (Step.trans (F := No) (G := No) (show Step No w2 _ from by exact I13.out) hv (fun _ f _ => f)); clear hv)))
  by_cases hlen : (putS ⟨2, cl, rv, sq, fm, ls, false, es, en, tx, ⟨rt, nx, ns⟩⟩).length ≤ 1000000
  · have hz : ¬ (1000000 : Int) < (K5.size : Int) := by rw [HZ.out]; omega
    go_wp2
    go_ret2
    rw [HE.out]
    exact put_yes HB.out hlen (HS2.out.trans I14.out (fun _ f _ => f))
  · have hz : (1000000 : Int) < (K5.size : Int) := by rw [HZ.out]; omega
    go_wp2
    go_ret2
    exact put_long hlen (HS2.out.trans I14.out (fun _ f _ => f))
set_option maxHeartbeats 16000000 in
set_option maxRecDepth 100000 in
theorem put2t (w : World) (cl rv sq fm ls : Int) (es : List CompD) (en : List EntryD) (tx : ByteArray) (rt nx : Int) (ns : List NodeD) (ev env nv : Value) (hm : MsgR w ⟨2, cl, rv, sq, fm, ls, true, es, en, tx, ⟨rt, nx, ns⟩⟩ ev env nv) (hb : msgB ⟨2, cl, rv, sq, fm, ls, true, es, en, tx, ⟨rt, nx, ns⟩⟩ = true) (hMay : MayAt ⟨2, cl, rv, sq, fm, ls, true, es, en, tx, ⟨rt, nx, ns⟩⟩ ev env nv w) : Calls Tryz.prog 13 #[aggM ⟨2, cl, rv, sq, fm, ls, true, es, en, tx, ⟨rt, nx, ns⟩⟩ ev env nv] w (PutPost ⟨2, cl, rv, sq, fm, ls, true, es, en, tx, ⟨rt, nx, ns⟩⟩ w) := by
  obtain ⟨A1, n1, rfl, -, -⟩ := comps_len hm.edit
  obtain ⟨A2, n2, rfl, -, -⟩ := sl_len hm.entries
  obtain ⟨A3, n3, rfl, -, -⟩ := sl_len hm.nodes
  have HR1 := Lib.hid (show CompsR w es _ from hm.edit)
  have HR2 := Lib.hid (show EntriesR w en _ from hm.entries)
  have HR3 := Lib.hid (show NodesR w ns _ from hm.nodes)
  have HB := Lib.hid hb
  have HMay := Lib.hid hMay
  obtain ⟨hcl, hrv, hsq, hk⟩ := msg_cases hb
  simp only at hcl hrv hsq hk
  have HCl := Lib.hid hcl
  have HRv := Lib.hid hrv
  have HSq := Lib.hid hsq
  have hSn : Small fm ∧ Small ls ∧ tx.size ≤ 300 ∧ treeB ⟨rt, nx, ns⟩ tx.size = true := by
    rcases hk with hk | hk | hk
    · exact absurd hk.1 (by decide)
    · exact absurd hk.1 (by decide)
    · exact hk.2
  have HFm := Lib.hid hSn.1
  have HLs := Lib.hid hSn.2.1
  have HTz : Hid (tx.size ≤ 140737488355328) := Lib.hid (by have := hSn.2.2.1; omega)
  have htl : tx.data.toList.length = tx.size := Array.length_toList
  have HTl : Hid ((str tx.data.toList).length ≤ 310) := Lib.hid (by have := str_len (s := tx.data.toList) ⟨by omega, by have := hSn.2.2.1; omega⟩; have := hSn.2.2.1; omega)
  have HTb := Lib.hid hSn.2.2.2
  have HWt := Lib.hid (tree_wf hSn.2.2.2)
  have HKt := Lib.hid (tree_kids hSn.2.2.2)
  have HNt := Lib.hid (tree_lim hSn.2.2.2)
  have HBit : Hid (Small (1 : Int)) := Lib.hid ⟨by decide, by decide⟩
  clear hSn htl
  have HM : Hid ((⟨#[83]⟩ : ByteArray) = ⟨([83] : List UInt8).toArray⟩) := Lib.hid rfl
  have e0 : (⟨#[83]⟩ : ByteArray).size = 1 := rfl
  obtain ⟨D0, HD0, zD0⟩ := list_str (num cl)
  have yD0 : D0.size ≤ 10 := by rw [zD0]; exact num_len HCl.out
  obtain ⟨N0, EN0, HN0, zN0⟩ := cat_to HM (num cl)
  rw [HD0.out] at EN0
  rw [← zD0] at zN0
  rw [e0] at zN0
  have wN0 : N0.size ≤ 1 + D0.size := Nat.le_of_eq zN0
  have qN0 : ¬ 9223372036854775807 < (⟨#[83]⟩ : ByteArray).size + D0.size := by rw [e0]; omega
  obtain ⟨D1, HD1, zD1⟩ := list_str (num rv)
  have yD1 : D1.size ≤ 10 := by rw [zD1]; exact num_len HRv.out
  obtain ⟨N1, EN1, HN1, zN1⟩ := cat_to HN0 (num rv)
  rw [HD1.out] at EN1
  rw [← zD1] at zN1
  have wN1 : N1.size ≤ N0.size + D1.size := Nat.le_of_eq zN1
  have qN1 : ¬ 9223372036854775807 < N0.size + D1.size := by omega
  have rN1 : ¬ 9223372036854775807 < 1 + D0.size + D1.size := by omega
  clear zD0 zD1 zN0 zN1
  have s1 : ¬ 9223372036854775807 < 1 + D0.size := by omega
  have s2 : ¬ 9223372036854775806 < D0.size := by omega
  have y1 : N1.size ≤ 21 := by omega
  have hw1 : IntKind.i64.wrap 1 = 1 := by rfl
  have hw2 : IntKind.i64.wrap 2 = 2 := by rfl
  have hw3 : IntKind.i64.wrap 3 = 3 := by rfl
  have hx : (⟨#[80, 67, 83]⟩ : ByteArray).extract 2 3 = ⟨#[83]⟩ := by rfl
  clear hm hb hMay hcl hrv hsq hk e0
  unfold aggM msgCells
  simp only
  go_enter Tryz.func13, Tryz.ntmps13
  go_wp2_with fail
  refine (HMay.out _ (by repeat' (first | exact Step.refl _ _ | with_reducible assumption | refine Step.drew ?_ | refine Step.drewN ?_ _ | refine Step.alloc ?_ _))).mono ?_
  rintro e w2 ⟨rfl, hs1⟩
  rw [HB.out]
  have HBx := Lib.hid (hs1.blk (blk_new w _) (fun f => f))
  have HS2 : Hid (Step No w w2) := Lib.hid (((Step.refl No w).alloc _).trans hs1 (fun _ f _ => f))
  have HC : Hid (∀ w', Step No w2 w' → w'.cell? ⟨w.heap.size, 0, none⟩ = some (.int .i64 2) ∧ w'.cell? ⟨w.heap.size, 1, none⟩ = some (.int .i64 cl) ∧ w'.cell? ⟨w.heap.size, 2, none⟩ = some (.int .i64 rv)) := Lib.hid fun w' hs => by
    obtain ⟨a0, a1, a2, -⟩ := cells13 (hs.blk HBx.out (fun f => f))
    exact ⟨a0, a1, a2⟩
  have HC13 : Hid (∀ w', Step No w2 w' → w'.cell? ⟨w.heap.size, 0, none⟩ = some (.int .i64 2) ∧ w'.cell? ⟨w.heap.size, 1, none⟩ = some (.int .i64 cl) ∧ w'.cell? ⟨w.heap.size, 2, none⟩ = some (.int .i64 rv) ∧ w'.cell? ⟨w.heap.size, 3, none⟩ = some (.int .i64 sq) ∧ w'.cell? ⟨w.heap.size, 4, none⟩ = some (.int .i64 fm) ∧ w'.cell? ⟨w.heap.size, 5, none⟩ = some (.int .i64 ls) ∧ w'.cell? ⟨w.heap.size, 6, none⟩ = some (.bool true) ∧ w'.cell? ⟨w.heap.size, 7, none⟩ = some (.slice A1 es.length n1) ∧ w'.cell? ⟨w.heap.size, 8, none⟩ = some (.slice A2 en.length n2) ∧ w'.cell? ⟨w.heap.size, 9, none⟩ = some (.string tx) ∧ w'.cell? ⟨w.heap.size, 10, none⟩ = some (.int .i64 rt) ∧ w'.cell? ⟨w.heap.size, 11, none⟩ = some (.int .i64 nx) ∧ w'.cell? ⟨w.heap.size, 12, none⟩ = some (.slice A3 ns.length n3)) := Lib.hid fun w' hs => cells13 (hs.blk HBx.out (fun f => f))
  clear hs1
  obtain ⟨c0, c1, c2⟩ := HC.out w2 (Step.refl _ _)
  go_upto_region 3 with (fail)
  go_cut [4] (fun s wx => s = .string N1 ∧ Step No w2 wx)
  case first =>
    have H2 : Hid (Step No w2 w2.drew) := Lib.hid ((Step.refl No w2).drew)
    go_region_held3 (fun w' => w'.cell? ⟨w.heap.size, 0, none⟩ = some (.int .i64 2) ∧ w'.cell? ⟨w.heap.size, 1, none⟩ = some (.int .i64 cl) ∧ w'.cell? ⟨w.heap.size, 2, none⟩ = some (.int .i64 rv)) (first | exact HC.out _ H4.out | exact HC.out _ H3.out | exact HC.out _ H2.out) (first | (go_at_call 42; first | (refine (num_ref cl HCl.out.1 (by have := HCl.out.2; omega) _).mono ?_; rintro e v0 ⟨rfl, hv⟩; rw [HD0.out]; have H3 := Lib.hid (Step.trans (F := No) (G := No) (show Step No w2 _ from by first | exact H2.out | exact Step.refl _ _) hv (fun _ f _ => f)); clear hv) | (refine (num_ref rv HRv.out.1 (by have := HRv.out.2; omega) _).mono ?_; rintro e v1 ⟨rfl, hv⟩; rw [HD1.out]; have H4 := Lib.hid (Step.trans (F := No) (G := No) (show Step No w2 _ from by exact H3.out) hv (fun _ f _ => f)); clear hv)))
    go_wp2
    go_meet
    exact ⟨by first | rfl | rw [EN0, EN1], H4.out⟩
  case rest =>
  obtain ⟨rfl, hs7⟩ := hcut
  have H7 := Lib.hid hs7
  obtain ⟨a0, a1, a2, a3, a4, a5, a6, a7, a8, a9, a10, a11, a12⟩ := HC13.out _ hs7
  clear c0 c1 c2 hs7 HC
  obtain ⟨E0, HE0, zE0⟩ := list_str (num sq)
  have yE0 : E0.size ≤ 10 := by rw [zE0]; exact num_len HSq.out
  obtain ⟨K0, EK0, HK0, zK0⟩ := cat_to HN1 (num sq)
  rw [HE0.out] at EK0
  rw [← zE0] at zK0
  have wK0 : K0.size ≤ N1.size + E0.size := Nat.le_of_eq zK0
  have qK0 : ¬ 9223372036854775807 < N1.size + E0.size := by omega
  obtain ⟨E1, HE1, zE1⟩ := list_str (num fm)
  have yE1 : E1.size ≤ 10 := by rw [zE1]; exact num_len HFm.out
  obtain ⟨K1, EK1, HK1, zK1⟩ := cat_to HK0 (num fm)
  rw [HE1.out] at EK1
  rw [← zE1] at zK1
  have wK1 : K1.size ≤ K0.size + E1.size := Nat.le_of_eq zK1
  have qK1 : ¬ 9223372036854775807 < K0.size + E1.size := by omega
  have rK1 : ¬ 9223372036854775807 < N1.size + E0.size + E1.size := by omega
  obtain ⟨E2, HE2, zE2⟩ := list_str (num ls)
  have yE2 : E2.size ≤ 10 := by rw [zE2]; exact num_len HLs.out
  obtain ⟨K2, EK2, HK2, zK2⟩ := cat_to HK1 (num ls)
  rw [HE2.out] at EK2
  rw [← zE2] at zK2
  have wK2 : K2.size ≤ K1.size + E2.size := Nat.le_of_eq zK2
  have qK2 : ¬ 9223372036854775807 < K1.size + E2.size := by omega
  have rK2 : ¬ 9223372036854775807 < N1.size + E0.size + E1.size + E2.size := by omega
  obtain ⟨E3, HE3, zE3⟩ := list_str (num (1 : Int))
  have yE3 : E3.size ≤ 10 := by rw [zE3]; exact num_len HBit.out
  obtain ⟨K3, EK3, HK3, zK3⟩ := cat_to HK2 (num (1 : Int))
  rw [HE3.out] at EK3
  rw [← zE3] at zK3
  have wK3 : K3.size ≤ K2.size + E3.size := Nat.le_of_eq zK3
  have qK3 : ¬ 9223372036854775807 < K2.size + E3.size := by omega
  have rK3 : ¬ 9223372036854775807 < N1.size + E0.size + E1.size + E2.size + E3.size := by omega
  obtain ⟨E4, HE4, zE4⟩ := list_str (str tx.data.toList)
  have yE4 : E4.size ≤ 310 := by rw [zE4]; exact HTl.out
  obtain ⟨K4, EK4, HK4, zK4⟩ := cat_to HK3 (str tx.data.toList)
  rw [HE4.out] at EK4
  rw [← zE4] at zK4
  have wK4 : K4.size ≤ K3.size + E4.size := Nat.le_of_eq zK4
  have qK4 : ¬ 9223372036854775807 < K3.size + E4.size := by omega
  have rK4 : ¬ 9223372036854775807 < N1.size + E0.size + E1.size + E2.size + E3.size + E4.size := by omega
  obtain ⟨E5, HE5, zE5⟩ := list_str (treeS ⟨rt, nx, ns⟩)
  have yE5 : E5.size ≤ 43000000 := by rw [zE5]; exact tree_len HTb.out
  obtain ⟨K5, EK5, HK5, zK5⟩ := cat_to HK4 (treeS ⟨rt, nx, ns⟩)
  rw [HE5.out] at EK5
  rw [← zE5] at zK5
  have wK5 : K5.size ≤ K4.size + E5.size := Nat.le_of_eq zK5
  have qK5 : ¬ 9223372036854775807 < K4.size + E5.size := by omega
  have rK5 : ¬ 9223372036854775807 < N1.size + E0.size + E1.size + E2.size + E3.size + E4.size + E5.size := by omega
  clear zE0 zE1 zE2 zE3 zE4 zE5 zK0 zK1 zK2 zK3 zK4 zK5
  have HS : Hid (∀ w', Step No w2 w' → w'.cell? ⟨w.heap.size, 3, none⟩ = some (.int .i64 sq) ∧ w'.cell? ⟨w.heap.size, 4, none⟩ = some (.int .i64 fm) ∧ w'.cell? ⟨w.heap.size, 5, none⟩ = some (.int .i64 ls) ∧ w'.cell? ⟨w.heap.size, 9, none⟩ = some (.string tx) ∧ w'.cell? ⟨w.heap.size, 10, none⟩ = some (.int .i64 rt) ∧ w'.cell? ⟨w.heap.size, 11, none⟩ = some (.int .i64 nx) ∧ w'.cell? ⟨w.heap.size, 12, none⟩ = some (.slice A3 ns.length n3)) := Lib.hid fun w' hs => by
    obtain ⟨b0, b1, b2, b3, b4, b5, b6, b7, b8, b9, b10, b11, b12⟩ := HC13.out w' hs
    exact ⟨b3, b4, b5, b9, b10, b11, b12⟩
  have HE : Hid (K5 = ⟨(putS ⟨2, cl, rv, sq, fm, ls, true, es, en, tx, ⟨rt, nx, ns⟩⟩).toArray⟩) := Lib.hid (by rw [HK5.out]; simp [putS, bodyS, letter, nums, bit])
  have HZ : Hid (K5.size = (putS ⟨2, cl, rv, sq, fm, ls, true, es, en, tx, ⟨rt, nx, ns⟩⟩).length) := Lib.hid (by rw [HE.out, str_size])
  go_upto_region 8 with (fail)
  have I8 : Hid (Step No w2 (World.drew _)) := Lib.hid (H7.out.drew)
  go_region_held3 (fun w' => w'.cell? ⟨w.heap.size, 3, none⟩ = some (.int .i64 sq) ∧ w'.cell? ⟨w.heap.size, 4, none⟩ = some (.int .i64 fm) ∧ w'.cell? ⟨w.heap.size, 5, none⟩ = some (.int .i64 ls) ∧ w'.cell? ⟨w.heap.size, 9, none⟩ = some (.string tx) ∧ w'.cell? ⟨w.heap.size, 10, none⟩ = some (.int .i64 rt) ∧ w'.cell? ⟨w.heap.size, 11, none⟩ = some (.int .i64 nx) ∧ w'.cell? ⟨w.heap.size, 12, none⟩ = some (.slice A3 ns.length n3)) (first | exact HS.out _ I14.out | exact HS.out _ I13.out | exact HS.out _ I12.out | exact HS.out _ I11.out | exact HS.out _ I10.out | exact HS.out _ I9.out | exact HS.out _ I8.out) (first | (go_at_call 42; first | (refine (num_ref sq HSq.out.1 (by have := HSq.out.2; omega) _).mono ?_; rintro e v0 ⟨rfl, hv⟩; rw [HE0.out]; have I9 := Lib.hid (Step.trans (F := No) (G := No) (show Step No w2 _ from by first | exact I8.out | exact Step.refl _ _) hv (fun _ f _ => f)); clear hv) | (refine (num_ref fm HFm.out.1 (by have := HFm.out.2; omega) _).mono ?_; rintro e v1 ⟨rfl, hv⟩; rw [HE1.out]; have I10 := Lib.hid (Step.trans (F := No) (G := No) (show Step No w2 _ from by exact I9.out) hv (fun _ f _ => f)); clear hv) | (refine (num_ref ls HLs.out.1 (by have := HLs.out.2; omega) _).mono ?_; rintro e v2 ⟨rfl, hv⟩; rw [HE2.out]; have I11 := Lib.hid (Step.trans (F := No) (G := No) (show Step No w2 _ from by exact I10.out) hv (fun _ f _ => f)); clear hv) | (refine (num_ref (1 : Int) HBit.out.1 (by have := HBit.out.2; omega) _).mono ?_; rintro e v3 ⟨rfl, hv⟩; rw [HE3.out]; have I12 := Lib.hid (Step.trans (F := No) (G := No) (show Step No w2 _ from by exact I11.out) hv (fun _ f _ => f)); clear hv)) | (go_at_call 45; (refine (str_ref tx HTz.out _).mono ?_; rintro e v4 ⟨rfl, hv⟩; rw [HE4.out]; have I13 := Lib.hid (Step.trans (F := No) (G := No) (show Step No w2 _ from by exact I12.out) hv (fun _ f _ => f)); clear hv)) | (go_at_call 46; (refine (tree_ref _ ⟨rt, nx, ns⟩ (.slice A3 ns.length n3) (HR3.out.to (HS2.out.trans I13.out (fun _ f _ => f))) HWt.out HKt.out HNt.out).mono ?_; rintro e v5 ⟨rfl, hv⟩; rw [HE5.out]; have I14 := Lib.hid (Step.trans (F := No) (G := No) (show Step No w2 _ from by exact I13.out) hv (fun _ f _ => f)); clear hv)))
  by_cases hlen : (putS ⟨2, cl, rv, sq, fm, ls, true, es, en, tx, ⟨rt, nx, ns⟩⟩).length ≤ 1000000
  · have hz : ¬ (1000000 : Int) < (K5.size : Int) := by rw [HZ.out]; omega
    go_wp2
    go_ret2
    rw [HE.out]
    exact put_yes HB.out hlen (HS2.out.trans I14.out (fun _ f _ => f))
  · have hz : (1000000 : Int) < (K5.size : Int) := by rw [HZ.out]; omega
    go_wp2
    go_ret2
    exact put_long hlen (HS2.out.trans I14.out (fun _ f _ => f))
set_option maxHeartbeats 4000000 in
theorem put_ref_no (w : World) (m : MsgD) (ev env nv : Value) (hm : MsgR w m ev env nv) (hb : msgB m = false) (hMay : MayAt m ev env nv w) : Calls Tryz.prog 13 #[aggM m ev env nv] w (PutPost m w) := by
  obtain ⟨A1, n1, rfl, -, -⟩ := comps_len hm.edit
  obtain ⟨A2, n2, rfl, -, -⟩ := sl_len hm.entries
  obtain ⟨A3, n3, rfl, -, -⟩ := sl_len hm.nodes
  have HB := Lib.hid hb
  have HMay := Lib.hid hMay
  clear hm hb hMay
  unfold aggM msgCells
  go_enter Tryz.func13, Tryz.ntmps13
  go_wp2_with fail
  refine (HMay.out _ (by repeat' (first | exact Step.refl _ _ | with_reducible assumption | refine Step.drew ?_ | refine Step.drewN ?_ _ | refine Step.alloc ?_ _))).mono ?_
  rintro e w2 ⟨rfl, hs1⟩
  rw [HB.out]
  have HS2 : Hid (Step No w w2) := Lib.hid (((Step.refl No w).alloc _).trans hs1 (fun _ f _ => f))
  clear hs1
  go_wp2
  go_ret2
  exact put_no HB.out HS2.out
theorem put_ref (w : World) (m : MsgD) (ev env nv : Value) (hm : MsgR w m ev env nv) (hMay : MayAt m ev env nv w) : Calls Tryz.prog 13 #[aggM m ev env nv] w (PutPost m w) := by
  cases hb : msgB m with
  | false => exact put_ref_no w m ev env nv hm hb hMay
  | true =>
    obtain ⟨-, -, -, hk⟩ := msg_cases hb
    obtain ⟨kd, cl, rv, sq, fm, ls, rf, es, en, tx, ⟨rt, nx, ns⟩⟩ := m
    simp only at hk
    rcases hk with ⟨rfl, -⟩ | ⟨rfl, -⟩ | ⟨rfl, -⟩
    · exact put0 w cl rv sq fm ls rf es en tx rt nx ns ev env nv hm hb hMay
    · exact put1 w cl rv sq fm ls rf es en tx rt nx ns ev env nv hm hb hMay
    · cases rf with
      | false => exact put2f w cl rv sq fm ls es en tx rt nx ns ev env nv hm hb hMay
      | true => exact put2t w cl rv sq fm ls es en tx rt nx ns ev env nv hm hb hMay
end Go.Proofs.YtjeamfoicpgkhaaGreatDoor.RefPut
