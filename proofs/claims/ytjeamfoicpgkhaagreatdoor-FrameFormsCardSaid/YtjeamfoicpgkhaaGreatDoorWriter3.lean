/- A writer of packed texts: entries, trees. -/
import Derived.Test.YtjeamfoicpgkhaaGreatDoorWriter2
namespace Go.Proofs.YtjeamfoicpgkhaaGreatDoor.Writer
open Go.RowKit Go.Lib Go.Proofs.YtjeamfoicpgkhaaGreatDoor.Mem Go.Proofs.YtjeamfoicpgkhaaGreatDoor.Build Go.Proofs.YtjeamfoicpgkhaaGreatDoor.Env Go.Proofs.YtjeamfoicpgkhaaGreatDoor.Take Go.Proofs.YtjeamfoicpgkhaaGreatDoor.Read Go.Proofs.YtjeamfoicpgkhaaGreatDoor.Tree Go.Proofs.YtjeamfoicpgkhaaGreatDoor.Data Go.Proofs.YtjeamfoicpgkhaaGreatDoor.CompR Go.Proofs.YtjeamfoicpgkhaaGreatDoor.MsgR Go.Proofs.YtjeamfoicpgkhaaGreatDoor.Pk
set_option linter.unusedVariables false
set_option linter.unusedSimpArgs false
def FineK (ks : List Int) : Prop := (∀ k ∈ ks, Rng k) ∧ ks.length ≤ 1000000000000
def FineS (s : StepD) : Prop := Rng s.kind ∧ Rng s.id ∧ Rng s.node ∧ Rng s.fr ∧ Rng s.up ∧ FineK s.kids
def FineEn (e : EntryD) : Prop := Rng e.client ∧ Rng e.seq ∧ (∀ c ∈ e.edit, FineC c) ∧ e.edit.length ≤ 1000000000000 ∧ (∀ s ∈ e.delta, FineS s) ∧ e.delta.length ≤ 1000000000000
def FineN (x : NodeD) : Prop := Rng x.id ∧ Rng x.kind ∧ Rng x.fr ∧ Rng x.up ∧ FineK x.kids
def FineT (t : TreeD) : Prop := Rng t.root ∧ Rng t.next ∧ (∀ x ∈ t.nodes, FineN x) ∧ t.nodes.length ≤ 1000000000000
structure EntryAt (w : World) (p : Addr) (e : EntryD) (ev dv : Value) : Prop where
  c0 : w.cell? p = some (.int .i64 e.client)
  c1 : w.cell? ⟨p.block, p.off + 1, none⟩ = some (.int .i64 e.seq)
  c2 : w.cell? ⟨p.block, p.off + 2, none⟩ = some ev
  c3 : w.cell? ⟨p.block, p.off + 3, none⟩ = some dv
  edit : CompsR w e.edit ev
  delta : StepsR w e.delta dv
theorem EntryAt.to {w w' : World} {p : Addr} {e : EntryD} {ev dv : Value} (h : EntryAt w p e ev dv) (hs : Step No w w') : EntryAt w' p e ev dv :=
  ⟨hs.cell h.c0 (fun f => f), hs.cell h.c1 (fun f => f), hs.cell h.c2 (fun f => f), hs.cell h.c3 (fun f => f), h.edit.to hs, h.delta.to hs⟩
set_option maxHeartbeats 8000000 in
set_option maxRecDepth 100000 in
theorem entry_any (ok : Nat → Prop) (w : World) (b : Nat) (l : List UInt8) (e : EntryD) (p : Addr) (ev dv : Value) (h : WRep ok w b l) (hE : EnvS ok w) (w0 : World) (h0 : ∀ w', Step ok w w' → Step No w0 w') (hx0 : EntryAt w0 p e ev dv) (hF : FineEn e) (hl : (l ++ entryS e).length ≤ 100000000000000) :
    Calls Tryz.prog 37 #[.pointer (some ⟨b, 0, none⟩), .pointer (some p)] w (WPost ok w b (.tuple #[]) (l ++ entryS e)) := by
  have hx : ∀ w', Step ok w w' → EntryAt w' p e ev dv := fun w' h => hx0.to (h0 w' h)
  obtain ⟨A, c, rfl, -, -⟩ := comps_len (hx w (Step.refl _ _)).edit
  obtain ⟨A', c', rfl, -, -⟩ := sl_len (hx w (Step.refl _ _)).delta
  have HW := Lib.hid (WS.start h)
  obtain ⟨f1, f2, f3, f4, f5, f6⟩ := hF
  have hRn : Rng (e.delta.length : Int) := ⟨by omega, by omega⟩
  rw [List.length_append] at hl
  have HL : Hid (l.length + (entryS e).length ≤ 100000000000000) := Lib.hid hl
  have HL0 : Hid (l.length ≤ 100000000000000) := Lib.hid (by omega)
  have HC : Hid (∀ wx, Step ok w wx → wx.cell? p = some (.int .i64 e.client) ∧ wx.cell? ⟨p.block, p.off + 1, none⟩ = some (.int .i64 e.seq)) := Lib.hid fun wx h => ⟨(hx wx h).c0, (hx wx h).c1⟩
  have HR2 : Hid (∀ y ∈ [e.client, e.seq], Rng y) := Lib.hid (rng_cons f1 (rng_cons f2 rng_nil))
  have HL2 : Hid ((l ++ nums [e.client, e.seq] ++ editS e.edit).length ≤ 100000000000000) := Lib.hid (by
    unfold entryS at hl
    simp only [List.length_append] at *
    omega)
  have HL3 : Hid ((l ++ nums [e.client, e.seq] ++ editS e.edit).length ≤ 100000000000000) := HL2
  have HhE := Lib.hid hE
  have Hhx := Lib.hid hx
  have Hh := Lib.hid h
  have HhRn := Lib.hid hRn
  have Hf3 := Lib.hid f3
  have Hf5 := Lib.hid f5
  have Hh0 := Lib.hid h0
  have Hhx0 := Lib.hid hx0
  clear hE hx h hRn f3 f5 h0 hx0
  clear hl f1 f2
  obtain ⟨cl, sq, ed, de⟩ := e
  simp only at *
  go_enter Tryz.func37, Tryz.ntmps37
  go_upto_region 0 with (fail)
  go_region_held3 (fun w' => w'.cell? p = some (.int .i64 cl) ∧ w'.cell? ⟨p.block, p.off + 1, none⟩ = some (.int .i64 sq)) (first | exact HC.out _ Hw2.out.2 | exact HC.out _ (Step.none (by repeat' (first | exact Step.refl _ _ | with_reducible assumption | refine Step.drew ?_ | refine Step.drewN ?_ _ | refine Step.alloc ?_ _)))) ((go_at_call 35; refine (NumNew_any HW.out HhE.out (by repeat' (first | exact Step.refl _ _ | with_reducible assumption | refine Step.drew ?_ | refine Step.drewN ?_ _ | refine Step.alloc ?_ _)) [cl, sq] w.heap.size (Nat.le_refl _) (by exact blk_new _ _) HR2.out HL0.out (by simp)).mono ?_; rintro e w2 ⟨rfl, hw2, -⟩; have Hw2 := Lib.hid hw2; clear hw2))
  have q2 := (Hhx.out w2 Hw2.out.2).c2
  go_wp2_with fail
  refine (edit_any _ _ b _ ed _ (Hw2.out.rep (Step.refl _ _)) (Hw2.out.env HhE.out (Step.refl _ _)) (fun w' hst => (Hhx.out w' (Hw2.out.to (Step.refl _ _) hst)).edit) Hf3.out HL2.out f4).mono ?_
  rintro e w3 hp
  obtain ⟨rfl, hw3⟩ := Hw2.out.back (Step.refl _ _) hp
  have q3 := (Hhx.out w3 hw3.2).c3
  have Hw3 := Lib.hid hw3
  clear hp hw3 q2
  go_wp2_with fail
  refine (NumNew_any Hw3.out HhE.out (by repeat' (first | exact Step.refl _ _ | with_reducible assumption | refine Step.drew ?_ | refine Step.drewN ?_ _ | refine Step.alloc ?_ _)) [(de.length : Int)] w3.heap.size (Nat.le_refl _) (by exact blk_new _ _) (rng_cons HhRn.out rng_nil) HL3.out (by simp)).mono ?_
  rintro e w4 ⟨rfl, hw4, -⟩
  have q3 := (Hhx.out w4 hw4.2).c3
  have H4 : Hid (WS ok w w4 b (l ++ nums [cl, sq] ++ editS ed ++ num de.length ++ (de.take 0).flatMap stepS)) := Lib.hid (by simpa [nums] using hw4)
  clear hw4
  go_wp2
  go_loopw [36] (fun i wr => ∃ k : Nat, k ≤ de.length ∧ i = .int .i64 k ∧ WS ok w wr b (l ++ nums [cl, sq] ++ editS ed ++ num de.length ++ (de.take k).flatMap stepS)) (fun i _ => de.length - (RowKit.intOf i).toNat)
  case atStart => exact ⟨0, Nat.zero_le _, rfl, H4.out⟩
  case round =>
    clear q3
    obtain ⟨k, hk, rfl, hw⟩ := hrel
    by_cases hlt : k < de.length
    · obtain ⟨ad, kv, rfl, hkv, s0, s1, s2, s3, s4, s5⟩ := steps_cells Hhx0.out.delta k hlt
      obtain ⟨A2, c2, rfl, -, -⟩ := ints_len hkv
      have hs0 := Hh0.out wr hw.2
      replace s0 := hs0.cell s0 (fun f => f)
      replace s1 := hs0.cell s1 (fun f => f)
      replace s2 := hs0.cell s2 (fun f => f)
      replace s3 := hs0.cell s3 (fun f => f)
      replace s4 := hs0.cell s4 (fun f => f)
      replace s5 := hs0.cell s5 (fun f => f)
      have hi0 : (0 : Int) ≤ k := by omega
      have hi1 : (k : Int) < de.length := by omega
      obtain ⟨g1, g2, g3, g4, g5, g6⟩ := Hf5.out _ (List.getElem_mem hlt)
      have HT := Lib.hid (take_flat stepS de k hlt)
      have HTL := Lib.hid (take_flat_len stepS de k hlt)
      generalize de[k] = x at *
      have HLm : Hid ((l ++ nums [cl, sq] ++ editS ed ++ num de.length ++ (de.take k).flatMap stepS).length + (stepS x).length ≤ 100000000000000) := Lib.hid (by
        have h1 := HL.out
        have h2 := HTL.out
        unfold entryS at h1
        simp only [List.length_append] at *
        omega)
      have HT2 : Hid (l ++ nums [cl, sq] ++ editS ed ++ num de.length ++ (de.take (k + 1)).flatMap stepS = (l ++ nums [cl, sq] ++ editS ed ++ num de.length ++ (de.take k).flatMap stepS) ++ stepS x) := Lib.hid (by rw [HT.out, ← List.append_assoc])
      generalize l ++ nums [cl, sq] ++ editS ed ++ num de.length ++ (de.take k).flatMap stepS = m at *
      obtain ⟨q, i, n, f, u, ks⟩ := x
      simp only at s0 s1 s2 s3 s4 s5 g1 g2 g3 g4 g5 g6 hkv
      have HS : Hid (m ++ stepS ⟨q, i, n, f, u, ks⟩ = (m ++ nums [q, i, n, f, u]) ++ row ks) := Lib.hid (by simp [stepS])
      have HM : Hid (m.length ≤ 100000000000000 ∧ (m ++ nums [q, i, n, f, u]).length ≤ 100000000000000) := Lib.hid (by
        have := HLm.out
        have e : (stepS ⟨q, i, n, f, u, ks⟩).length = (nums [q, i, n, f, u]).length + (row ks).length := by simp [stepS]
        rw [List.length_append]
        omega)
      have HR5 : Hid (∀ y ∈ [q, i, n, f, u], Rng y) := Lib.hid (rng_cons g1 (rng_cons g2 (rng_cons g3 (rng_cons g4 (rng_cons g5 rng_nil)))))
      have HK := Lib.hid g6
      have HKV := Lib.hid hkv
      clear g1 g2 g3 g4 g5 g6 hs0 hkv
      have Hhw := Lib.hid hw
      clear hw
      go_wp2_with fail
      refine (NumNew_any Hhw.out HhE.out (by repeat' (first | exact Step.refl _ _ | with_reducible assumption | refine Step.drew ?_ | refine Step.drewN ?_ _ | refine Step.alloc ?_ _)) [q, i, n, f, u] (wr.heap.size + 1) (by omega) (by exact at2 _ _ _) HR5.out HM.out.1 (by simp)).mono ?_
      rintro e w5 ⟨rfl, hw5, hst⟩
      have d5 := hst.cell (show ((wr.alloc (.cells #[.int .i64 q, .int .i64 i, .int .i64 n, .int .i64 f, .int .i64 u, .slice A2 ks.length c2] 51)).alloc (.cells #[.int .i64 q, .int .i64 i, .int .i64 n, .int .i64 f, .int .i64 u] TI)).cell? ⟨wr.heap.size, 5, none⟩ = some (.slice A2 ks.length c2) from blk_cell (blk_alloc (blk_new wr _) _) 5) (snap_far (Nat.le_refl _))
      have Hw5 := Lib.hid hw5
      clear hst hw5 s0 s1 s2 s3 s4 s5
      go_wp2_with fail
      refine (row_any _ _ b _ ks _ (Hw5.out.rep (Step.refl _ _)) (Hw5.out.env HhE.out (Step.refl _ _)) (fun w' hst => ints_to HKV.out (Hh0.out w' (Hw5.out.to (Step.refl _ _) hst))) HK.out.1 HM.out.2 HK.out.2).mono ?_
      rintro e w6 hp
      obtain ⟨rfl, hw6⟩ := Hw5.out.back (Step.refl _ _) hp
      have Hw6 := Lib.hid hw6
      clear hp hw6
      go_wp2
      go_roundw
      case rel => exact ⟨k + 1, hlt, rfl, by rw [HT2.out, HS.out]; exact Hw6.out⟩
      case measure => simp [RowKit.intOf]; omega
    · obtain rfl : k = de.length := by omega
      rw [List.take_length] at hw
      have Hhw := Lib.hid hw
      clear hw
      go_wp2
      go_end0
      exact ret_pair Hhw.out (by simp [entryS])
structure TreeAt (w : World) (p : Addr) (t : TreeD) (nv : Value) : Prop where
  c0 : w.cell? p = some (.int .i64 t.root)
  c1 : w.cell? ⟨p.block, p.off + 1, none⟩ = some (.int .i64 t.next)
  c2 : w.cell? ⟨p.block, p.off + 2, none⟩ = some nv
  nodes : NodesR w t.nodes nv
theorem TreeAt.to {w w' : World} {p : Addr} {t : TreeD} {nv : Value} (h : TreeAt w p t nv) (hs : Step No w w') : TreeAt w' p t nv :=
  ⟨hs.cell h.c0 (fun f => f), hs.cell h.c1 (fun f => f), hs.cell h.c2 (fun f => f), h.nodes.to hs⟩
set_option maxHeartbeats 8000000 in
set_option maxRecDepth 100000 in
theorem tree_any (ok : Nat → Prop) (w : World) (b : Nat) (l : List UInt8) (t : TreeD) (p : Addr) (nv : Value) (h : WRep ok w b l) (hE : EnvS ok w) (w0 : World) (h0 : ∀ w', Step ok w w' → Step No w0 w') (hx0 : TreeAt w0 p t nv) (hF : FineT t) (hl : (l ++ treeS t).length ≤ 100000000000000) :
    Calls Tryz.prog 39 #[.pointer (some ⟨b, 0, none⟩), .pointer (some p)] w (WPost ok w b (.tuple #[]) (l ++ treeS t)) := by
  have hx : ∀ w', Step ok w w' → TreeAt w' p t nv := fun w' h => hx0.to (h0 w' h)
  obtain ⟨A, c, rfl, -, -⟩ := nodes_len hx0.nodes
  have HW := Lib.hid (WS.start h)
  obtain ⟨f1, f2, f5, f6⟩ := hF
  have hRn : Rng (t.nodes.length : Int) := ⟨by omega, by omega⟩
  rw [List.length_append] at hl
  have HL : Hid (l.length + (treeS t).length ≤ 100000000000000) := Lib.hid hl
  have HL0 : Hid (l.length ≤ 100000000000000) := Lib.hid (by omega)
  have HC : Hid (∀ wx, Step ok w wx → wx.cell? p = some (.int .i64 t.root) ∧ wx.cell? ⟨p.block, p.off + 1, none⟩ = some (.int .i64 t.next) ∧ wx.cell? ⟨p.block, p.off + 2, none⟩ = some (.slice A t.nodes.length c)) := Lib.hid fun wx h => ⟨(hx wx h).c0, (hx wx h).c1, (hx wx h).c2⟩
  have HR3 : Hid (∀ y ∈ [t.root, t.next, (t.nodes.length : Int)], Rng y) := Lib.hid (rng_cons f1 (rng_cons f2 (rng_cons hRn rng_nil)))
  have HhE := Lib.hid hE
  have Hhx := Lib.hid hx
  have Hh := Lib.hid h
  have HhRn := Lib.hid hRn
  have Hf5 := Lib.hid f5
  have Hh0 := Lib.hid h0
  have Hhx0 := Lib.hid hx0
  clear hE hx h hRn f5 h0 hx0
  clear hl f1 f2
  obtain ⟨rt, nx, ns⟩ := t
  simp only at *
  go_enter Tryz.func39, Tryz.ntmps39
  go_upto_region 0 with (fail)
  go_region_held3 (fun w' => w'.cell? p = some (.int .i64 rt) ∧ w'.cell? ⟨p.block, p.off + 1, none⟩ = some (.int .i64 nx) ∧ w'.cell? ⟨p.block, p.off + 2, none⟩ = some (.slice A ns.length c)) (first | exact HC.out _ Hw2.out.2 | exact HC.out _ (Step.none (by repeat' (first | exact Step.refl _ _ | with_reducible assumption | refine Step.drew ?_ | refine Step.drewN ?_ _ | refine Step.alloc ?_ _)))) ((go_at_call 35; refine (NumNew_any HW.out HhE.out (by repeat' (first | exact Step.refl _ _ | with_reducible assumption | refine Step.drew ?_ | refine Step.drewN ?_ _ | refine Step.alloc ?_ _)) [rt, nx, (ns.length : Int)] w.heap.size (Nat.le_refl _) (by exact blk_new _ _) HR3.out HL0.out (by simp)).mono ?_; rintro e w2 ⟨rfl, hw2, -⟩; have Hw2 := Lib.hid hw2; clear hw2))
  have q2 := (Hhx.out w2 Hw2.out.2).c2
  have H4 : Hid (WS ok w w2 b (l ++ nums [rt, nx, (ns.length : Int)] ++ (ns.take 0).flatMap nodeS)) := Lib.hid (by simpa using Hw2.out)
  go_wp2
  go_loopw [27] (fun i wr => ∃ k : Nat, k ≤ ns.length ∧ i = .int .i64 k ∧ WS ok w wr b (l ++ nums [rt, nx, (ns.length : Int)] ++ (ns.take k).flatMap nodeS)) (fun i _ => ns.length - (RowKit.intOf i).toNat)
  case atStart => exact ⟨0, Nat.zero_le _, rfl, H4.out⟩
  case round =>
    clear q2
    obtain ⟨k, hk, rfl, hw⟩ := hrel
    by_cases hlt : k < ns.length
    · obtain ⟨ad, kv, rfl, hkv, s0, s1, s2, s3, s5⟩ := nodes_cells Hhx0.out.nodes k hlt
      obtain ⟨A2, c2, rfl, -, -⟩ := ints_len hkv
      have hs0 := Hh0.out wr hw.2
      replace s0 := hs0.cell s0 (fun f => f)
      replace s1 := hs0.cell s1 (fun f => f)
      replace s2 := hs0.cell s2 (fun f => f)
      replace s3 := hs0.cell s3 (fun f => f)
      replace s5 := hs0.cell s5 (fun f => f)
      have hi0 : (0 : Int) ≤ k := by omega
      have hi1 : (k : Int) < ns.length := by omega
      obtain ⟨g1, g2, g3, g4, g6⟩ := Hf5.out _ (List.getElem_mem hlt)
      have HT := Lib.hid (take_flat nodeS ns k hlt)
      have HTL := Lib.hid (take_flat_len nodeS ns k hlt)
      generalize ns[k] = x at *
      have HLm : Hid ((l ++ nums [rt, nx, (ns.length : Int)] ++ (ns.take k).flatMap nodeS).length + (nodeS x).length ≤ 100000000000000) := Lib.hid (by
        have h1 := HL.out
        have h2 := HTL.out
        unfold treeS at h1
        simp only [List.length_append] at *
        omega)
      have HT2 : Hid (l ++ nums [rt, nx, (ns.length : Int)] ++ (ns.take (k + 1)).flatMap nodeS = (l ++ nums [rt, nx, (ns.length : Int)] ++ (ns.take k).flatMap nodeS) ++ nodeS x) := Lib.hid (by rw [HT.out, ← List.append_assoc])
      generalize l ++ nums [rt, nx, (ns.length : Int)] ++ (ns.take k).flatMap nodeS = m at *
      obtain ⟨i, q, f, u, ks⟩ := x
      simp only at s0 s1 s2 s3 s5 g1 g2 g3 g4 g6 hkv
      have HS : Hid (m ++ nodeS ⟨i, q, f, u, ks⟩ = (m ++ nums [i, q, f, u]) ++ row ks) := Lib.hid (by simp [nodeS])
      have HM : Hid (m.length ≤ 100000000000000 ∧ (m ++ nums [i, q, f, u]).length ≤ 100000000000000) := Lib.hid (by
        have := HLm.out
        have e : (nodeS ⟨i, q, f, u, ks⟩).length = (nums [i, q, f, u]).length + (row ks).length := by simp [nodeS]
        rw [List.length_append]
        omega)
      have HR5 : Hid (∀ y ∈ [i, q, f, u], Rng y) := Lib.hid (rng_cons g1 (rng_cons g2 (rng_cons g3 (rng_cons g4 rng_nil))))
      have HK := Lib.hid g6
      have HKV := Lib.hid hkv
      clear g1 g2 g3 g4 g6 hs0 hkv
      have Hhw := Lib.hid hw
      clear hw
      go_wp2_with fail
      refine (NumNew_any Hhw.out HhE.out (by repeat' (first | exact Step.refl _ _ | with_reducible assumption | refine Step.drew ?_ | refine Step.drewN ?_ _ | refine Step.alloc ?_ _)) [i, q, f, u] (wr.heap.size + 1) (by omega) (by exact at2 _ _ _) HR5.out HM.out.1 (by simp)).mono ?_
      rintro e w5 ⟨rfl, hw5, hst⟩
      have d5 := hst.cell (show ((wr.alloc (.cells #[.int .i64 i, .int .i64 q, .int .i64 f, .int .i64 u, .slice A2 ks.length c2] 128)).alloc (.cells #[.int .i64 i, .int .i64 q, .int .i64 f, .int .i64 u] TI)).cell? ⟨wr.heap.size, 4, none⟩ = some (.slice A2 ks.length c2) from blk_cell (blk_alloc (blk_new wr _) _) 4) (snap_far (Nat.le_refl _))
      have Hw5 := Lib.hid hw5
      clear hst hw5 s0 s1 s2 s3 s5
      go_wp2_with fail
      refine (row_any _ _ b _ ks _ (Hw5.out.rep (Step.refl _ _)) (Hw5.out.env HhE.out (Step.refl _ _)) (fun w' hst => ints_to HKV.out (Hh0.out w' (Hw5.out.to (Step.refl _ _) hst))) HK.out.1 HM.out.2 HK.out.2).mono ?_
      rintro e w6 hp
      obtain ⟨rfl, hw6⟩ := Hw5.out.back (Step.refl _ _) hp
      have Hw6 := Lib.hid hw6
      clear hp hw6
      go_wp2
      go_roundw
      case rel => exact ⟨k + 1, hlt, rfl, by rw [HT2.out, HS.out]; exact Hw6.out⟩
      case measure => simp [RowKit.intOf]; omega
    · obtain rfl : k = ns.length := by omega
      rw [List.take_length] at hw
      have Hhw := Lib.hid hw
      clear hw
      go_wp2
      go_end0
      exact ret_pair Hhw.out (by simp [treeS])
end Go.Proofs.YtjeamfoicpgkhaaGreatDoor.Writer
