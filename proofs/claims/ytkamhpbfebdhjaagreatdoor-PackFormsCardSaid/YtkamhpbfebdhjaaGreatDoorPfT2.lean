/- PackForms: changes in which one thing is turned. -/
import Derived.Test.YtkamhpbfebdhjaaGreatDoorPfT
namespace Go.Proofs.YtkamhpbfebdhjaaGreatDoor.PfT2
open Go.RowKit Go.Lib Go.Proofs.YtkamhpbfebdhjaaGreatDoor.Mem Go.Proofs.YtkamhpbfebdhjaaGreatDoor.Read Go.Proofs.YtkamhpbfebdhjaaGreatDoor.Tree Go.Proofs.YtkamhpbfebdhjaaGreatDoor.Data Go.Proofs.YtkamhpbfebdhjaaGreatDoor.Env Go.Proofs.YtkamhpbfebdhjaaGreatDoor.Take Go.Proofs.YtkamhpbfebdhjaaGreatDoor.Pk Go.Proofs.YtkamhpbfebdhjaaGreatDoor.MsgR Go.Proofs.YtkamhpbfebdhjaaGreatDoor.CompR Go.Proofs.YtkamhpbfebdhjaaGreatDoor.May Go.Proofs.YtkamhpbfebdhjaaGreatDoor.PkAwake Go.Proofs.YtkamhpbfebdhjaaGreatDoor.C13 Go.Proofs.YtkamhpbfebdhjaaGreatDoor.PfA Go.Proofs.YtkamhpbfebdhjaaGreatDoor.PfT
open Go.Proofs.YtkamhpbfebdhjaaGreatDoor.TakeE (sets sets_blk sets_step infoE)
open Go.Proofs.YtkamhpbfebdhjaaGreatDoor.Get (zV)
set_option linter.unusedVariables false
set_option linter.unusedSimpArgs false
theorem made_at {z : Array Value} {n i : Nat} {u : Value} (hi : i < n) (hu : z[i % z.size]? = some u) : (madeCells z n)[i]? = some u := by
  unfold madeCells
  rw [Array.getElem?_map, Array.getElem?_range]
  rw [if_pos hi]
  simp only [Option.map_some]
  congr 1
  rw [getElem!_def, hu]
theorem made_es {w : World} {b n : Nat} {t : TypeId} (hb : w.heap[b]? = some (.cells (madeCells #[.int .i64 0, .int .i64 0, .slice none 0 0, .slice none 0 0] (n * 4)) t (0, 0))) (hn : n ≤ maxLen) : EntriesR w (List.replicate n ⟨0, 0, [], []⟩) (.slice (some ⟨b, 0, none⟩) n n) := by
  have h := sl_lit (sz := 4) (R := entryR) (xs := List.replicate n (⟨0, 0, [], []⟩ : EntryD)) hb (by simpa using hn) fun j hj => by
    rw [List.length_replicate] at hj
    refine ⟨entryCells ⟨0, 0, [], []⟩ (.slice none 0 0) (.slice none 0 0), rfl, ?_, fun i u hu => ?_⟩
    · rw [List.getElem_replicate]
      exact ⟨_, _, rfl, sl_nil w, sl_nil w⟩
    · have hi : i < 4 := by have := (List.getElem?_eq_some_iff.1 hu).1; simpa [entryCells] using this
      refine made_at (by omega) ?_
      have hm : (j * 4 + i) % (#[(Value.int .i64 0), .int .i64 0, .slice none 0 0, .slice none 0 0] : Array Value).size = i := by
        show (j * 4 + i) % 4 = i
        omega
      rw [hm]
      rcases (by omega : i = 0 ∨ i = 1 ∨ i = 2 ∨ i = 3) with rfl | rfl | rfl | rfl <;> simpa [entryCells] using hu
  rw [List.length_replicate] at h
  exact h
set_option maxHeartbeats 16000000 in
set_option maxRecDepth 100000 in
theorem turned_es (w : World) (k : Nat) (hk : 13 ≤ k ∧ k < 19) (d : Int) (hd : 1 ≤ d ∧ d ≤ 1024) (gE gC gD : Nat) (hE : ESw w gE gC gD 1 2 3) (A3 : Option Addr) (n3 : Nat) (X0 : Nat) (cx : Array Value) (hX0 : w.heap[X0]? = some (.cells cx TM (0, 0))) :
    Calls Tryz.prog 7 #[.int .i64 (k : Nat), .int .i64 d, aggM esM zV (.slice (some ⟨gE, 0, none⟩) 1 1) zV, aggM snapM zV zV (.slice A3 3 n3)] w (TPost w gE gD X0 (.slice A3 3 n3)) := by
  have HX0 := Lib.hid hX0
  have HNF : Hid (¬ FE gE gD X0) := Lib.hid (by rintro (e | e); exact blk_ne hX0 hE.e (by decide) e; exact blk_ne hX0 hE.d (by decide) e)
  have HE0 := Lib.hid hE
  clear hE hX0
  obtain ⟨hk, hk2⟩ := hk
  obtain ⟨hd1, hd2⟩ := hd
  unfold aggM msgCells
  simp only [esM, snapM, noTree, s1, ba, zV]
  go_enter Tryz.func7, Tryz.ntmps7
  go_upto_region 2 with (fail)
  generalize hW : World.alloc (World.alloc (World.alloc (World.alloc w _) _) _) _ = w4 at *
  have HB : Hid (TB (FE gE gD) w w.heap.size (w.heap.size + 1 + 1) (w.heap.size + 1 + 1 + 1) gE snapM zV zV (.slice A3 3 n3) w4) := Lib.hid (by rw [← hW]; obtain ⟨h1, h2, h3, h4, h5⟩ := four w _ _ _ _; exact ⟨h1, h3, h4, h5.none, by omega⟩)
  have HE : Hid (ESw w4 gE gC gD 1 2 3) := Lib.hid (HE0.out.step (by rw [← hW]; exact (four w _ _ _ _).2.2.2.2))
  clear hW HE0
  generalize w.heap.size + 1 + 1 + 1 = B9 at *
  generalize w.heap.size + 1 + 1 = B8 at *
  generalize w.heap.size = B6 at *
  rcases (by omega : k = 13 ∨ k = 14 ∨ k = 15 ∨ k = 16 ∨ k = 17 ∨ k = 18) with rfl | rfl | rfl | rfl | rfl | rfl
  ·
    obtain ⟨a0, a1, a2, a3, a4, a5, a6, a7, a8, a9, a10, a11, a12⟩ := cells13 HB.out.b9
    simp only [esM, snapM, noTree, ba, s1, zV] at a0 a1 a2 a3 a4 a5 a6 a7 a8 a9 a10 a11 a12
    obtain ⟨c0, c1, c2, c3, c4, c5, c6, c7, c8, c9, c10, c11, c12⟩ := cells13 HB.out.b6
    obtain ⟨f0, f1, f2, f3, f4, f5, f6, f7, f8, f9, f10, f11, f12⟩ := frees13 HB.out.b9
    simp only [esM, noTree, ba, zV] at c0 c1 c2 c3 c4 c5 c6 c7 c8 c9 c10 c11 c12
    have HX := Lib.hid HB.out.es
    have HTM := Lib.hid HB.out.b9
    simp only [msgCells, sets, esM, noTree, ba, zV, Nat.reduceAdd] at HX
    go_upto_region 6 with (fail)
    generalize hW : World.setCell _ ⟨B9, 12, none⟩ _ = w5 at *
    have HB2 : Hid (TB _ w B6 B8 B9 gE esM zV (.slice (some ⟨gE, 0, none⟩) 1 1) zV w5) := Lib.hid HX.out.1
    have HS5 : Hid (Step (fun j => j = B9) w4 w5) := Lib.hid HX.out.2
    have HE5 := Lib.hid (HE.out.at HTM.out HS5.out)
    clear hW a0 a1 a2 a3 a4 a5 a6 a7 a8 a9 a10 a11 a12 c0 c1 c2 c3 c4 c5 c6 c7 c8 c9 c10 c11 c12 f0 f1 f2 f3 f4 f5 f6 f7 f8 f9 f10 f11 f12 HB HX HS5 HE
    have HB := HB2
    clear HB2
    have a3 := blk_cell HB.out.b9 3
    have f3 := blk_free HB.out.b9 3
    simp [msgCells, esM] at a3
    have HX := Lib.hid (HB.out.set 3 (.int .i64 d) (m' := ⟨1, 1, 2, d, 0, 0, false, [], es1 1 2 3, ba [], noTree⟩) (ev' := zV) (env' := (.slice (some ⟨gE, 0, none⟩) 1 1)) rfl)
    have HE6 := Lib.hid (HE5.out.at HB.out.b9 HX.out.2)
    go_upto_region 30 with (fail)
    generalize hW : World.setCell w5 _ _ = w6 at *
    have HB2 := Lib.hid HX.out.1
    clear hW a3 f3 HB HX
    have HB := HB2
    clear HB2
    have HO := Lib.hid (TB.out HB.out)
    obtain ⟨a0, a1, a2, a3, a4, a5, a6, a7, a8, a9, a10, a11, a12⟩ := cells13 HB.out.b9
    simp only [esM, snapM, noTree, ba, s1, zV] at a0 a1 a2 a3 a4 a5 a6 a7 a8 a9 a10 a11 a12
    obtain ⟨c0, c1, c2, c3, c4, c5, c6, c7, c8, c9, c10, c11, c12⟩ := cells13 HB.out.b8
    obtain ⟨f0, f1, f2, f3, f4, f5, f6, f7, f8, f9, f10, f11, f12⟩ := frees13 HB.out.b8
    simp only [msgCells, sets, esM, snapM, noTree, ba, s1, zV, Nat.reduceAdd] at HO
    go_wp2
    generalize hW : World.setCell _ ⟨B8, 12, none⟩ _ = W9 at *
    clear a0 a1 a2 a3 a4 a5 a6 a7 a8 a9 a10 a11 a12 c0 c1 c2 c3 c4 c5 c6 c7 c8 c9 c10 c11 c12 f0 f1 f2 f3 f4 f5 f6 f7 f8 f9 f10 f11 f12 hW
    obtain ⟨r0, r1, r2, r3, r4, r5, r6, r7, r8, r9, r10, r11, r12⟩ := cells13 HO.out.1
    have HX9 := Lib.hid (HO.out.2.2.blk HX0.out HNF.out)
    exact bodyPost_ret (v := aggM ⟨1, 1, 2, d, 0, 0, false, [], es1 1 2 3, ba [], noTree⟩ zV (.slice (some ⟨gE, 0, none⟩) 1 1) zV) (by simp [results, Tryz.results7, go_sem, aggM, msgCells, esM, snapM, noTree, ba, s1, zV, r0, r1, r2, r3, r4, r5, r6, r7, r8, r9, r10, r11, r12]) rfl ⟨⟨1, 1, 2, d, 0, 0, false, [], es1 1 2 3, ba [], noTree⟩, zV, (.slice (some ⟨gE, 0, none⟩) 1 1), zV, rfl, fun W hW hN => ⟨sl_nil _, es_of ((HE6.out.at HB.out.b8 HO.out.2.1).at HX9.out hW), sl_nil _, Nat.zero_le _⟩, (fun x hx => by cases hx), (no_e13 d hd1), HO.out.2.2⟩
  ·
    obtain ⟨a0, a1, a2, a3, a4, a5, a6, a7, a8, a9, a10, a11, a12⟩ := cells13 HB.out.b9
    simp only [esM, snapM, noTree, ba, s1, zV] at a0 a1 a2 a3 a4 a5 a6 a7 a8 a9 a10 a11 a12
    obtain ⟨c0, c1, c2, c3, c4, c5, c6, c7, c8, c9, c10, c11, c12⟩ := cells13 HB.out.b6
    obtain ⟨f0, f1, f2, f3, f4, f5, f6, f7, f8, f9, f10, f11, f12⟩ := frees13 HB.out.b9
    simp only [esM, noTree, ba, zV] at c0 c1 c2 c3 c4 c5 c6 c7 c8 c9 c10 c11 c12
    have HX := Lib.hid HB.out.es
    have HTM := Lib.hid HB.out.b9
    simp only [msgCells, sets, esM, noTree, ba, zV, Nat.reduceAdd] at HX
    go_upto_region 9 with (fail)
    generalize hW : World.setCell _ ⟨B9, 12, none⟩ _ = w5 at *
    have HB2 : Hid (TB _ w B6 B8 B9 gE esM zV (.slice (some ⟨gE, 0, none⟩) 1 1) zV w5) := Lib.hid HX.out.1
    have HS5 : Hid (Step (fun j => j = B9) w4 w5) := Lib.hid HX.out.2
    have HE5 := Lib.hid (HE.out.at HTM.out HS5.out)
    clear hW a0 a1 a2 a3 a4 a5 a6 a7 a8 a9 a10 a11 a12 c0 c1 c2 c3 c4 c5 c6 c7 c8 c9 c10 c11 c12 f0 f1 f2 f3 f4 f5 f6 f7 f8 f9 f10 f11 f12 HB HX HS5 HE
    have HB := HB2
    clear HB2
    have HB1 := Lib.hid (HB.out.no (Step.alloc (Step.refl No w5) (.cells #[.int .i64 0, .int .i64 1, .string ⟨#[]⟩] PfT.TC)))
    have hX := blk_new w5 (.cells #[.int .i64 0, .int .i64 1, .string ⟨#[]⟩] PfT.TC)
    have a7 := blk_cell HB1.out.b9 7
    have f7 := blk_free HB1.out.b9 7
    simp [msgCells, esM, snapM, noTree, ba, s1, zV] at a7
    have HX := Lib.hid (HB1.out.set 7 (.slice (some ⟨w5.heap.size, 0, none⟩) 1 1) (m' := ⟨1, 1, 2, 0, 0, 0, false, pE, es1 1 2 3, ba [], noTree⟩) (ev' := .slice (some ⟨w5.heap.size, 0, none⟩) 1 1) (env' := (.slice (some ⟨gE, 0, none⟩) 1 1)) rfl)
    have HXb := Lib.hid hX
    have HLt : Hid (B9 < w5.heap.size) := Lib.hid (blk_lt HB.out.b9)
    clear hX
    have HE6 := Lib.hid ((HE5.out.step (Step.alloc (Step.refl No w5) (.cells #[.int .i64 0, .int .i64 1, .string ⟨#[]⟩] PfT.TC))).at HB1.out.b9 HX.out.2)
    go_upto_region 30 with (fail)
    generalize hW : World.setCell (World.alloc w5 _) _ _ = w6 at *
    have HXc := Lib.hid (HX.out.2.blk HXb.out (by have := HLt.out; omega))
    have HB2 := Lib.hid HX.out.1
    have HGe := Lib.hid HB.out.ge
    generalize w5.heap.size = X at *
    clear hW a7 f7 HB HB1 HX HXb
    have HB := HB2
    clear HB2
    have HO := Lib.hid (TB.out HB.out)
    obtain ⟨a0, a1, a2, a3, a4, a5, a6, a7, a8, a9, a10, a11, a12⟩ := cells13 HB.out.b9
    simp only [esM, snapM, noTree, ba, s1, zV] at a0 a1 a2 a3 a4 a5 a6 a7 a8 a9 a10 a11 a12
    obtain ⟨c0, c1, c2, c3, c4, c5, c6, c7, c8, c9, c10, c11, c12⟩ := cells13 HB.out.b8
    obtain ⟨f0, f1, f2, f3, f4, f5, f6, f7, f8, f9, f10, f11, f12⟩ := frees13 HB.out.b8
    simp only [msgCells, sets, esM, snapM, noTree, ba, s1, zV, Nat.reduceAdd] at HO
    go_wp2
    generalize hW : World.setCell _ ⟨B8, 12, none⟩ _ = W9 at *
    clear a0 a1 a2 a3 a4 a5 a6 a7 a8 a9 a10 a11 a12 c0 c1 c2 c3 c4 c5 c6 c7 c8 c9 c10 c11 c12 f0 f1 f2 f3 f4 f5 f6 f7 f8 f9 f10 f11 f12 hW
    obtain ⟨r0, r1, r2, r3, r4, r5, r6, r7, r8, r9, r10, r11, r12⟩ := cells13 HO.out.1
    have HX9 := Lib.hid (HO.out.2.2.blk HX0.out HNF.out)
    exact bodyPost_ret (v := aggM ⟨1, 1, 2, 0, 0, 0, false, pE, es1 1 2 3, ba [], noTree⟩ (.slice (some ⟨X, 0, none⟩) 1 1) (.slice (some ⟨gE, 0, none⟩) 1 1) zV) (by simp [results, Tryz.results7, go_sem, aggM, msgCells, esM, snapM, noTree, ba, s1, zV, r0, r1, r2, r3, r4, r5, r6, r7, r8, r9, r10, r11, r12]) rfl ⟨⟨1, 1, 2, 0, 0, 0, false, pE, es1 1 2 3, ba [], noTree⟩, (.slice (some ⟨X, 0, none⟩) 1 1), (.slice (some ⟨gE, 0, none⟩) 1 1), zV, rfl, fun W hW hN => (have h9 := HO.out.2.1.blk HXc.out (by have := HLt.out; have := HGe.out; omega); have HCo := pE_of (hW.blk h9 (blk_ne h9 HX9.out (by decide))); ⟨HCo, es_of ((HE6.out.at HB.out.b8 HO.out.2.1).at HX9.out hW), sl_nil _, Nat.zero_le _⟩), (fun x hx => by cases hx), no_e14, HO.out.2.2⟩
  ·
    obtain ⟨a0, a1, a2, a3, a4, a5, a6, a7, a8, a9, a10, a11, a12⟩ := cells13 HB.out.b9
    simp only [esM, snapM, noTree, ba, s1, zV] at a0 a1 a2 a3 a4 a5 a6 a7 a8 a9 a10 a11 a12
    obtain ⟨c0, c1, c2, c3, c4, c5, c6, c7, c8, c9, c10, c11, c12⟩ := cells13 HB.out.b6
    obtain ⟨f0, f1, f2, f3, f4, f5, f6, f7, f8, f9, f10, f11, f12⟩ := frees13 HB.out.b9
    simp only [esM, noTree, ba, zV] at c0 c1 c2 c3 c4 c5 c6 c7 c8 c9 c10 c11 c12
    have HX := Lib.hid HB.out.es
    have HTM := Lib.hid HB.out.b9
    simp only [msgCells, sets, esM, noTree, ba, zV, Nat.reduceAdd] at HX
    go_upto_region 12 with (fail)
    generalize hW : World.setCell _ ⟨B9, 12, none⟩ _ = w5 at *
    have HB2 : Hid (TB _ w B6 B8 B9 gE esM zV (.slice (some ⟨gE, 0, none⟩) 1 1) zV w5) := Lib.hid HX.out.1
    have HS5 : Hid (Step (fun j => j = B9) w4 w5) := Lib.hid HX.out.2
    have HE5 := Lib.hid (HE.out.at HTM.out HS5.out)
    clear hW a0 a1 a2 a3 a4 a5 a6 a7 a8 a9 a10 a11 a12 c0 c1 c2 c3 c4 c5 c6 c7 c8 c9 c10 c11 c12 f0 f1 f2 f3 f4 f5 f6 f7 f8 f9 f10 f11 f12 HB HX HS5 HE
    have HB := HB2
    clear HB2
    obtain ⟨i, hi, hzz⟩ := Option.map_eq_some_iff.1 infoE
    simp only [Prod.mk.injEq] at hzz
    obtain ⟨hz0, hz1, hz2⟩ := hzz
    obtain ⟨D, rfl⟩ : ∃ D : Nat, d = D := ⟨d.toNat, by omega⟩
    have hmk := fun w => run_make (P := Tryz.prog) w 31 TE i _ Tryz.underlying31 hi hz0 .i64 .i64 (3 + (D : Int)) (3 + (D : Int)) (by omega) (Int.le_refl _) (by rw [hz2]; omega) (by omega)
    have htn : (3 + (D : Int)).toNat = 3 + D := by omega
    rw [hz1] at hmk
    simp only [htn, Value.cells] at hmk
    clear hi hz0 hz1 hz2 htn
    have HMd := Lib.hid (fun (W : World) (b : Nat) (t : TypeId) (hb : W.heap[b]? = some (.cells (madeCells #[.int .i64 0, .int .i64 0, .slice none 0 0, .slice none 0 0] ((3 + D) * 4)) t (0, 0))) => made_es hb (by unfold maxLen; omega))
    generalize madeCells #[Value.int .i64 0, .int .i64 0, .slice none 0 0, .slice none 0 0] ((3 + D) * 4) = MC at *
    have HB1 := Lib.hid (HB.out.no (Step.alloc (Step.refl No w5) (.cells MC PfT.TE)))
    have hX := blk_new w5 (.cells MC PfT.TE)
    have a8 := blk_cell HB1.out.b9 8
    have f8 := blk_free HB1.out.b9 8
    simp [msgCells, esM, snapM, noTree, ba, s1, zV] at a8
    have HX := Lib.hid (HB1.out.set 8 (.slice (some ⟨w5.heap.size, 0, none⟩) (3 + D) (3 + D)) (m' := ⟨1, 1, 2, 0, 0, 0, false, [], List.replicate (3 + D) ⟨0, 0, [], []⟩, ba [], noTree⟩) (ev' := zV) (env' := .slice (some ⟨w5.heap.size, 0, none⟩) (3 + D) (3 + D)) rfl)
    have HXb := Lib.hid hX
    have HLt : Hid (B9 < w5.heap.size) := Lib.hid (blk_lt HB.out.b9)
    have hd2' : D ≤ 1024 := by omega
    have hd1' : 1 ≤ D := by omega
    clear hX
    go_upto_region 30 with (fail)
    generalize hW : World.setCell (World.alloc w5 _) _ _ = w6 at *
    have HXc := Lib.hid (HX.out.2.blk HXb.out (by have := HLt.out; omega))
    have HB2 := Lib.hid HX.out.1
    have HGe := Lib.hid HB.out.ge
    generalize w5.heap.size = X at *
    clear hW a8 f8 HB HB1 HX HXb hmk HE5
    have HB := HB2
    clear HB2
    have HO := Lib.hid (TB.out HB.out)
    obtain ⟨a0, a1, a2, a3, a4, a5, a6, a7, a8, a9, a10, a11, a12⟩ := cells13 HB.out.b9
    simp only [esM, snapM, noTree, ba, s1, zV] at a0 a1 a2 a3 a4 a5 a6 a7 a8 a9 a10 a11 a12
    obtain ⟨c0, c1, c2, c3, c4, c5, c6, c7, c8, c9, c10, c11, c12⟩ := cells13 HB.out.b8
    obtain ⟨f0, f1, f2, f3, f4, f5, f6, f7, f8, f9, f10, f11, f12⟩ := frees13 HB.out.b8
    simp only [msgCells, sets, esM, snapM, noTree, ba, s1, zV, Nat.reduceAdd] at HO
    go_wp2
    generalize hW : World.setCell _ ⟨B8, 12, none⟩ _ = W9 at *
    clear a0 a1 a2 a3 a4 a5 a6 a7 a8 a9 a10 a11 a12 c0 c1 c2 c3 c4 c5 c6 c7 c8 c9 c10 c11 c12 f0 f1 f2 f3 f4 f5 f6 f7 f8 f9 f10 f11 f12 hW
    obtain ⟨r0, r1, r2, r3, r4, r5, r6, r7, r8, r9, r10, r11, r12⟩ := cells13 HO.out.1
    have HX9 := Lib.hid (HO.out.2.2.blk HX0.out HNF.out)
    exact bodyPost_ret (v := aggM ⟨1, 1, 2, 0, 0, 0, false, [], List.replicate (3 + D) ⟨0, 0, [], []⟩, ba [], noTree⟩ zV (.slice (some ⟨X, 0, none⟩) (3 + D) (3 + D)) zV) (by simp [results, Tryz.results7, go_sem, aggM, msgCells, esM, snapM, noTree, ba, s1, zV, r0, r1, r2, r3, r4, r5, r6, r7, r8, r9, r10, r11, r12]) rfl ⟨⟨1, 1, 2, 0, 0, 0, false, [], List.replicate (3 + D) ⟨0, 0, [], []⟩, ba [], noTree⟩, zV, (.slice (some ⟨X, 0, none⟩) (3 + D) (3 + D)), zV, rfl, fun W hW hN => ⟨sl_nil _, HMd.out _ _ _ (have h9 := HO.out.2.1.blk HXc.out (by have := HLt.out; have := HGe.out; omega); hW.blk h9 (blk_ne h9 HX9.out (by decide))), sl_nil _, Nat.zero_le _⟩, (fun x hx => by cases hx), (no_e15 (3 + D) (by omega)), HO.out.2.2⟩
  ·
    obtain ⟨a0, a1, a2, a3, a4, a5, a6, a7, a8, a9, a10, a11, a12⟩ := cells13 HB.out.b9
    simp only [esM, snapM, noTree, ba, s1, zV] at a0 a1 a2 a3 a4 a5 a6 a7 a8 a9 a10 a11 a12
    obtain ⟨c0, c1, c2, c3, c4, c5, c6, c7, c8, c9, c10, c11, c12⟩ := cells13 HB.out.b6
    obtain ⟨f0, f1, f2, f3, f4, f5, f6, f7, f8, f9, f10, f11, f12⟩ := frees13 HB.out.b9
    simp only [esM, noTree, ba, zV] at c0 c1 c2 c3 c4 c5 c6 c7 c8 c9 c10 c11 c12
    have HX := Lib.hid HB.out.es
    have HTM := Lib.hid HB.out.b9
    simp only [msgCells, sets, esM, noTree, ba, zV, Nat.reduceAdd] at HX
    go_upto_region 15 with (fail)
    generalize hW : World.setCell _ ⟨B9, 12, none⟩ _ = w5 at *
    have HB2 : Hid (TB _ w B6 B8 B9 gE esM zV (.slice (some ⟨gE, 0, none⟩) 1 1) zV w5) := Lib.hid HX.out.1
    have HS5 : Hid (Step (fun j => j = B9) w4 w5) := Lib.hid HX.out.2
    have HE5 := Lib.hid (HE.out.at HTM.out HS5.out)
    clear hW a0 a1 a2 a3 a4 a5 a6 a7 a8 a9 a10 a11 a12 c0 c1 c2 c3 c4 c5 c6 c7 c8 c9 c10 c11 c12 f0 f1 f2 f3 f4 f5 f6 f7 f8 f9 f10 f11 f12 HB HX HS5 HE
    have HB := HB2
    clear HB2
    have a8 := blk_cell HB.out.b9 8
    have e0 := blk_cell HE5.out.e 0
    have e1 := blk_cell HE5.out.e 1
    have e3 := blk_cell HE5.out.e 3
    have d1 := blk_cell HE5.out.d 1
    have ff := blk_free HE5.out.e 1
    simp [msgCells] at a8 e0 e1 e3 d1
    have HX : Hid (TB (FE gE gD) w B6 B8 B9 gE ⟨1, 1, 2, 0, 0, 0, false, [], es1 1 0 3, ba [], noTree⟩ zV (.slice (some ⟨gE, 0, none⟩) 1 1) zV (w5.setCell ⟨gE, 1, none⟩ (.int .i64 0))) := Lib.hid (have h := HB.out.away HE5.out.e (by decide) (.inl rfl) 1 (.int .i64 0); ⟨h.b6, h.b8, h.b9, h.step, h.ge⟩)
    have HE6 : Hid (ESw (w5.setCell ⟨gE, 1, none⟩ (.int .i64 0)) gE gC gD 1 0 3) := Lib.hid ⟨by have := blk_set HE5.out.e 1 (.int .i64 0); simpa using this, blk_set_other HE5.out.c (blk_ne HE5.out.e HE5.out.c (by decide)) _, blk_set_other HE5.out.d (blk_ne HE5.out.e HE5.out.d (by decide)) _⟩
    go_upto_region 30 with (fail)
    generalize hW : World.setCell w5 _ _ = w6 at *
    clear hW a8 e0 e1 e3 d1 ff HB HE5
    have HB := HX
    clear HX
    have HO := Lib.hid (TB.out HB.out)
    obtain ⟨a0, a1, a2, a3, a4, a5, a6, a7, a8, a9, a10, a11, a12⟩ := cells13 HB.out.b9
    simp only [esM, snapM, noTree, ba, s1, zV] at a0 a1 a2 a3 a4 a5 a6 a7 a8 a9 a10 a11 a12
    obtain ⟨c0, c1, c2, c3, c4, c5, c6, c7, c8, c9, c10, c11, c12⟩ := cells13 HB.out.b8
    obtain ⟨f0, f1, f2, f3, f4, f5, f6, f7, f8, f9, f10, f11, f12⟩ := frees13 HB.out.b8
    simp only [msgCells, sets, esM, snapM, noTree, ba, s1, zV, Nat.reduceAdd] at HO
    go_wp2
    generalize hW : World.setCell _ ⟨B8, 12, none⟩ _ = W9 at *
    clear a0 a1 a2 a3 a4 a5 a6 a7 a8 a9 a10 a11 a12 c0 c1 c2 c3 c4 c5 c6 c7 c8 c9 c10 c11 c12 f0 f1 f2 f3 f4 f5 f6 f7 f8 f9 f10 f11 f12 hW
    obtain ⟨r0, r1, r2, r3, r4, r5, r6, r7, r8, r9, r10, r11, r12⟩ := cells13 HO.out.1
    have HX9 := Lib.hid (HO.out.2.2.blk HX0.out HNF.out)
    exact bodyPost_ret (v := aggM ⟨1, 1, 2, 0, 0, 0, false, [], es1 1 0 3, ba [], noTree⟩ zV (.slice (some ⟨gE, 0, none⟩) 1 1) zV) (by simp [results, Tryz.results7, go_sem, aggM, msgCells, esM, snapM, noTree, ba, s1, zV, r0, r1, r2, r3, r4, r5, r6, r7, r8, r9, r10, r11, r12]) rfl ⟨⟨1, 1, 2, 0, 0, 0, false, [], es1 1 0 3, ba [], noTree⟩, zV, (.slice (some ⟨gE, 0, none⟩) 1 1), zV, rfl, fun W hW hN => ⟨sl_nil _, es_of ((HE6.out.at HB.out.b8 HO.out.2.1).at HX9.out hW), sl_nil _, Nat.zero_le _⟩, (fun x hx => by cases hx), no_e16, HO.out.2.2⟩
  ·
    obtain ⟨a0, a1, a2, a3, a4, a5, a6, a7, a8, a9, a10, a11, a12⟩ := cells13 HB.out.b9
    simp only [esM, snapM, noTree, ba, s1, zV] at a0 a1 a2 a3 a4 a5 a6 a7 a8 a9 a10 a11 a12
    obtain ⟨c0, c1, c2, c3, c4, c5, c6, c7, c8, c9, c10, c11, c12⟩ := cells13 HB.out.b6
    obtain ⟨f0, f1, f2, f3, f4, f5, f6, f7, f8, f9, f10, f11, f12⟩ := frees13 HB.out.b9
    simp only [esM, noTree, ba, zV] at c0 c1 c2 c3 c4 c5 c6 c7 c8 c9 c10 c11 c12
    have HX := Lib.hid HB.out.es
    have HTM := Lib.hid HB.out.b9
    simp only [msgCells, sets, esM, noTree, ba, zV, Nat.reduceAdd] at HX
    go_upto_region 18 with (fail)
    generalize hW : World.setCell _ ⟨B9, 12, none⟩ _ = w5 at *
    have HB2 : Hid (TB _ w B6 B8 B9 gE esM zV (.slice (some ⟨gE, 0, none⟩) 1 1) zV w5) := Lib.hid HX.out.1
    have HS5 : Hid (Step (fun j => j = B9) w4 w5) := Lib.hid HX.out.2
    have HE5 := Lib.hid (HE.out.at HTM.out HS5.out)
    clear hW a0 a1 a2 a3 a4 a5 a6 a7 a8 a9 a10 a11 a12 c0 c1 c2 c3 c4 c5 c6 c7 c8 c9 c10 c11 c12 f0 f1 f2 f3 f4 f5 f6 f7 f8 f9 f10 f11 f12 HB HX HS5 HE
    have HB := HB2
    clear HB2
    have a8 := blk_cell HB.out.b9 8
    have e0 := blk_cell HE5.out.e 0
    have e1 := blk_cell HE5.out.e 1
    have e3 := blk_cell HE5.out.e 3
    have d1 := blk_cell HE5.out.d 1
    have ff := blk_free HE5.out.e 0
    simp [msgCells] at a8 e0 e1 e3 d1
    have HX : Hid (TB (FE gE gD) w B6 B8 B9 gE ⟨1, 1, 2, 0, 0, 0, false, [], es1 (-d) 2 3, ba [], noTree⟩ zV (.slice (some ⟨gE, 0, none⟩) 1 1) zV (w5.setCell ⟨gE, 0, none⟩ (.int .i64 (-d)))) := Lib.hid (have h := HB.out.away HE5.out.e (by decide) (.inl rfl) 0 (.int .i64 (-d)); ⟨h.b6, h.b8, h.b9, h.step, h.ge⟩)
    have HE6 : Hid (ESw (w5.setCell ⟨gE, 0, none⟩ (.int .i64 (-d))) gE gC gD (-d) 2 3) := Lib.hid ⟨by have := blk_set HE5.out.e 0 (.int .i64 (-d)); simpa using this, blk_set_other HE5.out.c (blk_ne HE5.out.e HE5.out.c (by decide)) _, blk_set_other HE5.out.d (blk_ne HE5.out.e HE5.out.d (by decide)) _⟩
    go_upto_region 30 with (fail)
    generalize hW : World.setCell w5 _ _ = w6 at *
    clear hW a8 e0 e1 e3 d1 ff HB HE5
    have HB := HX
    clear HX
    have HO := Lib.hid (TB.out HB.out)
    obtain ⟨a0, a1, a2, a3, a4, a5, a6, a7, a8, a9, a10, a11, a12⟩ := cells13 HB.out.b9
    simp only [esM, snapM, noTree, ba, s1, zV] at a0 a1 a2 a3 a4 a5 a6 a7 a8 a9 a10 a11 a12
    obtain ⟨c0, c1, c2, c3, c4, c5, c6, c7, c8, c9, c10, c11, c12⟩ := cells13 HB.out.b8
    obtain ⟨f0, f1, f2, f3, f4, f5, f6, f7, f8, f9, f10, f11, f12⟩ := frees13 HB.out.b8
    simp only [msgCells, sets, esM, snapM, noTree, ba, s1, zV, Nat.reduceAdd] at HO
    go_wp2
    generalize hW : World.setCell _ ⟨B8, 12, none⟩ _ = W9 at *
    clear a0 a1 a2 a3 a4 a5 a6 a7 a8 a9 a10 a11 a12 c0 c1 c2 c3 c4 c5 c6 c7 c8 c9 c10 c11 c12 f0 f1 f2 f3 f4 f5 f6 f7 f8 f9 f10 f11 f12 hW
    obtain ⟨r0, r1, r2, r3, r4, r5, r6, r7, r8, r9, r10, r11, r12⟩ := cells13 HO.out.1
    have HX9 := Lib.hid (HO.out.2.2.blk HX0.out HNF.out)
    exact bodyPost_ret (v := aggM ⟨1, 1, 2, 0, 0, 0, false, [], es1 (-d) 2 3, ba [], noTree⟩ zV (.slice (some ⟨gE, 0, none⟩) 1 1) zV) (by simp [results, Tryz.results7, go_sem, aggM, msgCells, esM, snapM, noTree, ba, s1, zV, r0, r1, r2, r3, r4, r5, r6, r7, r8, r9, r10, r11, r12]) rfl ⟨⟨1, 1, 2, 0, 0, 0, false, [], es1 (-d) 2 3, ba [], noTree⟩, zV, (.slice (some ⟨gE, 0, none⟩) 1 1), zV, rfl, fun W hW hN => ⟨sl_nil _, es_of ((HE6.out.at HB.out.b8 HO.out.2.1).at HX9.out hW), sl_nil _, Nat.zero_le _⟩, (fun x hx => by cases hx), (no_e17 d hd1), HO.out.2.2⟩
  ·
    obtain ⟨a0, a1, a2, a3, a4, a5, a6, a7, a8, a9, a10, a11, a12⟩ := cells13 HB.out.b9
    simp only [esM, snapM, noTree, ba, s1, zV] at a0 a1 a2 a3 a4 a5 a6 a7 a8 a9 a10 a11 a12
    obtain ⟨c0, c1, c2, c3, c4, c5, c6, c7, c8, c9, c10, c11, c12⟩ := cells13 HB.out.b6
    obtain ⟨f0, f1, f2, f3, f4, f5, f6, f7, f8, f9, f10, f11, f12⟩ := frees13 HB.out.b9
    simp only [esM, noTree, ba, zV] at c0 c1 c2 c3 c4 c5 c6 c7 c8 c9 c10 c11 c12
    have HX := Lib.hid HB.out.es
    have HTM := Lib.hid HB.out.b9
    simp only [msgCells, sets, esM, noTree, ba, zV, Nat.reduceAdd] at HX
    go_upto_region 21 with (fail)
    generalize hW : World.setCell _ ⟨B9, 12, none⟩ _ = w5 at *
    have HB2 : Hid (TB _ w B6 B8 B9 gE esM zV (.slice (some ⟨gE, 0, none⟩) 1 1) zV w5) := Lib.hid HX.out.1
    have HS5 : Hid (Step (fun j => j = B9) w4 w5) := Lib.hid HX.out.2
    have HE5 := Lib.hid (HE.out.at HTM.out HS5.out)
    clear hW a0 a1 a2 a3 a4 a5 a6 a7 a8 a9 a10 a11 a12 c0 c1 c2 c3 c4 c5 c6 c7 c8 c9 c10 c11 c12 f0 f1 f2 f3 f4 f5 f6 f7 f8 f9 f10 f11 f12 HB HX HS5 HE
    have HB := HB2
    clear HB2
    have a8 := blk_cell HB.out.b9 8
    have e0 := blk_cell HE5.out.e 0
    have e1 := blk_cell HE5.out.e 1
    have e3 := blk_cell HE5.out.e 3
    have d1 := blk_cell HE5.out.d 1
    have ff := blk_free HE5.out.d 1
    simp [msgCells] at a8 e0 e1 e3 d1
    have HX : Hid (TB (FE gE gD) w B6 B8 B9 gE ⟨1, 1, 2, 0, 0, 0, false, [], es1 1 2 (-d), ba [], noTree⟩ zV (.slice (some ⟨gE, 0, none⟩) 1 1) zV (w5.setCell ⟨gD, 1, none⟩ (.int .i64 (-d)))) := Lib.hid (have h := HB.out.away HE5.out.d (by decide) (.inr rfl) 1 (.int .i64 (-d)); ⟨h.b6, h.b8, h.b9, h.step, h.ge⟩)
    have HE6 : Hid (ESw (w5.setCell ⟨gD, 1, none⟩ (.int .i64 (-d))) gE gC gD 1 2 (-d)) := Lib.hid ⟨blk_set_other HE5.out.e (blk_ne HE5.out.d HE5.out.e (by decide)) _, blk_set_other HE5.out.c (blk_ne HE5.out.d HE5.out.c (by decide)) _, by have := blk_set HE5.out.d 1 (.int .i64 (-d)); simpa using this⟩
    go_upto_region 30 with (fail)
    generalize hW : World.setCell w5 _ _ = w6 at *
    clear hW a8 e0 e1 e3 d1 ff HB HE5
    have HB := HX
    clear HX
    have HO := Lib.hid (TB.out HB.out)
    obtain ⟨a0, a1, a2, a3, a4, a5, a6, a7, a8, a9, a10, a11, a12⟩ := cells13 HB.out.b9
    simp only [esM, snapM, noTree, ba, s1, zV] at a0 a1 a2 a3 a4 a5 a6 a7 a8 a9 a10 a11 a12
    obtain ⟨c0, c1, c2, c3, c4, c5, c6, c7, c8, c9, c10, c11, c12⟩ := cells13 HB.out.b8
    obtain ⟨f0, f1, f2, f3, f4, f5, f6, f7, f8, f9, f10, f11, f12⟩ := frees13 HB.out.b8
    simp only [msgCells, sets, esM, snapM, noTree, ba, s1, zV, Nat.reduceAdd] at HO
    go_wp2
    generalize hW : World.setCell _ ⟨B8, 12, none⟩ _ = W9 at *
    clear a0 a1 a2 a3 a4 a5 a6 a7 a8 a9 a10 a11 a12 c0 c1 c2 c3 c4 c5 c6 c7 c8 c9 c10 c11 c12 f0 f1 f2 f3 f4 f5 f6 f7 f8 f9 f10 f11 f12 hW
    obtain ⟨r0, r1, r2, r3, r4, r5, r6, r7, r8, r9, r10, r11, r12⟩ := cells13 HO.out.1
    have HX9 := Lib.hid (HO.out.2.2.blk HX0.out HNF.out)
    exact bodyPost_ret (v := aggM ⟨1, 1, 2, 0, 0, 0, false, [], es1 1 2 (-d), ba [], noTree⟩ zV (.slice (some ⟨gE, 0, none⟩) 1 1) zV) (by simp [results, Tryz.results7, go_sem, aggM, msgCells, esM, snapM, noTree, ba, s1, zV, r0, r1, r2, r3, r4, r5, r6, r7, r8, r9, r10, r11, r12]) rfl ⟨⟨1, 1, 2, 0, 0, 0, false, [], es1 1 2 (-d), ba [], noTree⟩, zV, (.slice (some ⟨gE, 0, none⟩) 1 1), zV, rfl, fun W hW hN => ⟨sl_nil _, es_of ((HE6.out.at HB.out.b8 HO.out.2.1).at HX9.out hW), sl_nil _, Nat.zero_le _⟩, (fun x hx => by cases hx), (no_e18 d hd1), HO.out.2.2⟩
end Go.Proofs.YtkamhpbfebdhjaaGreatDoor.PfT2
