/- PackForms: changes, or a snapshot, in which one thing is turned. -/
import Derived.Test.YtkamhpbfebdhjaaGreatDoorPkAwake
import Derived.Test.YtkamhpbfebdhjaaGreatDoorLumpT
import Derived.Test.YtkamhpbfebdhjaaGreatDoorPfA
import Derived.Laws.MakeOwn
namespace Go.Proofs.YtkamhpbfebdhjaaGreatDoor.PfT
open Go.RowKit Go.Lib Go.Proofs.YtkamhpbfebdhjaaGreatDoor.Mem Go.Proofs.YtkamhpbfebdhjaaGreatDoor.Read Go.Proofs.YtkamhpbfebdhjaaGreatDoor.Tree Go.Proofs.YtkamhpbfebdhjaaGreatDoor.Data Go.Proofs.YtkamhpbfebdhjaaGreatDoor.Env Go.Proofs.YtkamhpbfebdhjaaGreatDoor.Take Go.Proofs.YtkamhpbfebdhjaaGreatDoor.Pk Go.Proofs.YtkamhpbfebdhjaaGreatDoor.MsgR Go.Proofs.YtkamhpbfebdhjaaGreatDoor.CompR Go.Proofs.YtkamhpbfebdhjaaGreatDoor.May Go.Proofs.YtkamhpbfebdhjaaGreatDoor.PkAwake Go.Proofs.YtkamhpbfebdhjaaGreatDoor.C13 Go.Proofs.YtkamhpbfebdhjaaGreatDoor.PfA
open Go.Proofs.YtkamhpbfebdhjaaGreatDoor.TakeE (sets sets_blk sets_step)
open Go.Proofs.YtkamhpbfebdhjaaGreatDoor.Get (zV)
set_option linter.unusedVariables false
set_option linter.unusedSimpArgs false
abbrev TM : TypeId := 33
abbrev TE : TypeId := 39
abbrev TC : TypeId := 29
abbrev TS : TypeId := 36
theorem frees13 {w : World} {b : Nat} {cs : Array Value} {t : TypeId} (h : w.heap[b]? = some (.cells cs t (0, 0))) :
    w.frozen? ⟨b, 0, none⟩ = false ∧ w.frozen? ⟨b, 1, none⟩ = false ∧ w.frozen? ⟨b, 2, none⟩ = false ∧ w.frozen? ⟨b, 3, none⟩ = false ∧ w.frozen? ⟨b, 4, none⟩ = false ∧ w.frozen? ⟨b, 5, none⟩ = false ∧ w.frozen? ⟨b, 6, none⟩ = false ∧ w.frozen? ⟨b, 7, none⟩ = false ∧ w.frozen? ⟨b, 8, none⟩ = false ∧ w.frozen? ⟨b, 9, none⟩ = false ∧ w.frozen? ⟨b, 10, none⟩ = false ∧ w.frozen? ⟨b, 11, none⟩ = false ∧ w.frozen? ⟨b, 12, none⟩ = false :=
  ⟨blk_free h 0, blk_free h 1, blk_free h 2, blk_free h 3, blk_free h 4, blk_free h 5, blk_free h 6, blk_free h 7, blk_free h 8, blk_free h 9, blk_free h 10, blk_free h 11, blk_free h 12⟩
/-- The blocks on which the changes hang. -/
structure ESw (w : World) (gE gC gD : Nat) (cl sq id : Int) : Prop where
  e : w.heap[gE]? = some (.cells #[.int .i64 cl, .int .i64 sq, .slice (some ⟨gC, 0, none⟩) 1 1, .slice (some ⟨gD, 0, none⟩) 1 1] TE (0, 0))
  c : w.heap[gC]? = some (.cells #[.int .i64 0, .int .i64 1, .string ⟨#[]⟩] TC (0, 0))
  d : w.heap[gD]? = some (.cells #[.int .i64 0, .int .i64 id, .int .i64 0, .int .i64 0, .int .i64 0, .slice none 0 0] TS (0, 0))
theorem pE_of {w : World} {b : Nat} {t : TypeId} (h : w.heap[b]? = some (.cells #[.int .i64 0, .int .i64 1, .string ⟨#[]⟩] t (0, 0))) : CompsR w pE (.slice (some ⟨b, 0, none⟩) 1 1) :=
  comps_lit (xs := pE) h (by simp [pE, maxLen]) fun j hj => by
    match j, hj with
    | 0, _ => exact ⟨rfl, rfl, rfl, Nat.zero_le _⟩
    | n + 1, h => exact absurd h (by simp [pE])
theorem pE2_of {w : World} {b : Nat} {t : TypeId} (h : w.heap[b]? = some (.cells #[.int .i64 0, .int .i64 1, .string ⟨#[]⟩, .int .i64 0, .int .i64 1, .string ⟨#[]⟩] t (0, 0))) : CompsR w pE2 (.slice (some ⟨b, 0, none⟩) 2 2) :=
  comps_lit (xs := pE2) h (by simp [pE2, maxLen]) fun j hj => by
    match j, hj with
    | 0, _ => exact ⟨rfl, rfl, rfl, Nat.zero_le _⟩
    | 1, _ => exact ⟨rfl, rfl, rfl, Nat.zero_le _⟩
    | n + 2, h => exact absurd h (by simp [pE2])
theorem es_of {w : World} {gE gC gD : Nat} {cl sq id : Int} (h : ESw w gE gC gD cl sq id) : EntriesR w (es1 cl sq id) (.slice (some ⟨gE, 0, none⟩) 1 1) := by
  have k1 := pE_of h.c
  have k3 : StepsR w [⟨0, id, 0, 0, 0, []⟩] (.slice (some ⟨gD, 0, none⟩) 1 1) := sl_lit (xs := [(⟨0, id, 0, 0, 0, []⟩ : StepD)]) h.d (by simp [maxLen]) fun j hj => by
    match j, hj with
    | 0, _ => exact ⟨stepCells ⟨0, id, 0, 0, 0, []⟩ (.slice none 0 0), rfl, ⟨_, rfl, sl_nil w⟩, fun i u hu => by
        match i, hu with
        | 0, hu => exact hu
        | 1, hu => exact hu
        | 2, hu => exact hu
        | 3, hu => exact hu
        | 4, hu => exact hu
        | 5, hu => exact hu
        | n + 6, hu => cases hu⟩
    | n + 1, h => exact absurd h (by simp)
  exact sl_lit (xs := es1 cl sq id) h.e (by simp [maxLen, es1]) fun j hj => by
    match j, hj with
    | 0, _ => exact ⟨entryCells ⟨cl, sq, pE, [⟨0, id, 0, 0, 0, []⟩]⟩ (.slice (some ⟨gC, 0, none⟩) 1 1) (.slice (some ⟨gD, 0, none⟩) 1 1), rfl, ⟨_, _, rfl, k1, k3⟩, fun i u hu => by
        match i, hu with
        | 0, hu => exact hu
        | 1, hu => exact hu
        | 2, hu => exact hu
        | 3, hu => exact hu
        | n + 4, hu => cases hu⟩
    | n + 1, h => exact absurd h (by simp [es1])
theorem ESw.step {w w' : World} {gE gC gD : Nat} {cl sq id : Int} (h : ESw w gE gC gD cl sq id) (hs : Step No w w') : ESw w' gE gC gD cl sq id := ⟨hs.blk h.e (fun f => f), hs.blk h.c (fun f => f), hs.blk h.d (fun f => f)⟩
def TPost (w : World) (gE gD X0 : Nat) (nvS : Value) (e : Ending) (w' : World) : Prop := ∃ (m : MsgD) (ev env nv : Value), e = .returned (aggM m ev env nv) ∧ (∀ W, Step (fun j => j = X0) w' W → NodesR W n1 nvS → MsgR W m ev env nv) ∧ ParMay.RngN m.tree.nodes ∧ msgB m = false ∧ Step (fun j => j = gE ∨ j = gD) w w'
theorem rng1 : ParMay.RngN n1 := by
  intro x hx
  simp only [n1, List.mem_cons, List.not_mem_nil, or_false] at hx
  rcases hx with rfl | rfl | rfl <;> exact ⟨by simp [Index.Rng], by simp [Index.Rng]⟩
theorem four (w : World) (o0 o1 o2 o3 : Obj) : ((((w.alloc o0).alloc o1).alloc o2).alloc o3).heap[w.heap.size]? = some o0 ∧ ((((w.alloc o0).alloc o1).alloc o2).alloc o3).heap[w.heap.size + 1]? = some o1 ∧ ((((w.alloc o0).alloc o1).alloc o2).alloc o3).heap[w.heap.size + 1 + 1]? = some o2 ∧ ((((w.alloc o0).alloc o1).alloc o2).alloc o3).heap[w.heap.size + 1 + 1 + 1]? = some o3 ∧ Step No w ((((w.alloc o0).alloc o1).alloc o2).alloc o3) :=
  ⟨blk_alloc (blk_alloc (blk_alloc (blk_new w o0) _) _) _, blk_alloc (blk_alloc (by simpa using blk_new (w.alloc o0) o1) _) _, blk_alloc (by simpa using blk_new ((w.alloc o0).alloc o1) o2) _, by simpa using blk_new (((w.alloc o0).alloc o1).alloc o2) o3, ((((Step.refl No w).alloc _).alloc _).alloc _).alloc _⟩
theorem ESw.at {w w' : World} {gE gC gD b : Nat} {cl sq id : Int} {cs : Array Value} (h : ESw w gE gC gD cl sq id) (hb : w.heap[b]? = some (.cells cs TM (0, 0))) (hs : Step (fun j => j = b) w w') : ESw w' gE gC gD cl sq id :=
  ⟨hs.blk h.e (blk_ne h.e hb (by decide)), hs.blk h.c (blk_ne h.c hb (by decide)), hs.blk h.d (blk_ne h.d hb (by decide))⟩
/-- Where the turning stands: the boxes of both messages, the result's, the one under way. -/
structure TB (F : Nat → Prop) (w : World) (B6 B8 B9 gE : Nat) (m : MsgD) (ev env nv' : Value) (W : World) : Prop where
  b6 : W.heap[B6]? = some (.cells (msgCells esM zV (.slice (some ⟨gE, 0, none⟩) 1 1) zV) TM (0, 0))
  b8 : W.heap[B8]? = some (.cells #[.int .i64 0, .int .i64 0, .int .i64 0, .int .i64 0, .int .i64 0, .int .i64 0, .bool false, .slice none 0 0, .slice none 0 0, .string ⟨#[]⟩, .int .i64 0, .int .i64 0, .slice none 0 0] TM (0, 0))
  b9 : W.heap[B9]? = some (.cells (msgCells m ev env nv') TM (0, 0))
  step : Step F w W
  ge : w.heap.size ≤ B6 ∧ B6 < B8 ∧ B8 < B9
theorem TB.out {F : Nat → Prop} {w W : World} {B6 B8 B9 gE : Nat} {m : MsgD} {ev env nv' : Value} (h : TB F w B6 B8 B9 gE m ev env nv' W) :
    (sets W B8 0 (msgCells m ev env nv').toList).heap[B8]? = some (.cells (msgCells m ev env nv') TM (0, 0)) ∧ Step (fun j => j = B8) W (sets W B8 0 (msgCells m ev env nv').toList) ∧ Step F w (sets W B8 0 (msgCells m ev env nv').toList) := by
  have hS := sets_step B8 (msgCells m ev env nv').toList W 0
  have hb := sets_blk (msgCells m ev env nv').toList [] [.int .i64 0, .int .i64 0, .int .i64 0, .int .i64 0, .int .i64 0, .int .i64 0, .bool false, .slice none 0 0, .slice none 0 0, .string ⟨#[]⟩, .int .i64 0, .int .i64 0, .slice none 0 0] W (by simpa using h.b8) rfl
  exact ⟨hb, hS, h.step.trans hS (fun j e hlt => absurd hlt (by have := h.ge; omega))⟩
/-- The one under way becomes the changes. -/
theorem TB.es {F : Nat → Prop} {w W : World} {B6 B8 B9 gE : Nat} {m : MsgD} {ev env nv' : Value} (h : TB F w B6 B8 B9 gE m ev env nv' W) :
    TB F w B6 B8 B9 gE esM zV (.slice (some ⟨gE, 0, none⟩) 1 1) zV (sets W B9 0 (msgCells esM zV (.slice (some ⟨gE, 0, none⟩) 1 1) zV).toList) ∧ Step (fun j => j = B9) W (sets W B9 0 (msgCells esM zV (.slice (some ⟨gE, 0, none⟩) 1 1) zV).toList) := by
  have hS := sets_step B9 (msgCells esM zV (.slice (some ⟨gE, 0, none⟩) 1 1) zV).toList W 0
  have hb := sets_blk (msgCells esM zV (.slice (some ⟨gE, 0, none⟩) 1 1) zV).toList [] (msgCells m ev env nv').toList W (by simpa using h.b9) rfl
  have hg := h.ge
  exact ⟨⟨hS.blk h.b6 (by omega), hS.blk h.b8 (by omega), hb, h.step.trans hS (fun j e hlt => absurd hlt (by omega)), hg⟩, hS⟩
/-- A cell of the one under way is set. -/
theorem TB.set {F : Nat → Prop} {w W : World} {B6 B8 B9 gE : Nat} {m m' : MsgD} {ev env nv' ev' env' : Value} (h : TB F w B6 B8 B9 gE m ev env nv' W) (i : Nat) (u : Value) (he : (msgCells m ev env nv').setIfInBounds i u = msgCells m' ev' env' nv') : TB F w B6 B8 B9 gE m' ev' env' nv' (W.setCell ⟨B9, i, none⟩ u) ∧ Step (fun j => j = B9) W (W.setCell ⟨B9, i, none⟩ u) := by
  have hS : Step (fun j => j = B9) W (W.setCell ⟨B9, i, none⟩ u) := by refine set_at (Step.refl _ _) ?_ _ <;> rfl
  have hg := h.ge
  exact ⟨⟨hS.blk h.b6 (by omega), hS.blk h.b8 (by omega), by rw [← he]; exact blk_set h.b9 i u, h.step.trans hS (fun j e hlt => absurd hlt (by omega)), hg⟩, hS⟩
theorem TB.no {F : Nat → Prop} {w W W' : World} {B6 B8 B9 gE : Nat} {m : MsgD} {ev env nv' : Value} (h : TB F w B6 B8 B9 gE m ev env nv' W) (hs : Step No W W') : TB F w B6 B8 B9 gE m ev env nv' W' := ⟨hs.blk h.b6 (fun f => f), hs.blk h.b8 (fun f => f), hs.blk h.b9 (fun f => f), h.step.trans hs (fun _ f _ => f.elim), h.ge⟩
set_option maxHeartbeats 16000000 in
set_option maxRecDepth 100000 in
theorem turned_snap (w : World) (k : Nat) (hk : 19 ≤ k ∧ k < 24) (d : Int) (hd : 1 ≤ d ∧ d ≤ 1024) (gE gC gD : Nat) (nv : Value) (hn : NodesR w n1 nv) (X0 : Nat) (cx : Array Value) (hX0 : w.heap[X0]? = some (.cells cx TM (0, 0))) :
    Calls Tryz.prog 7 #[.int .i64 (k : Nat), .int .i64 d, aggM esM zV (.slice (some ⟨gE, 0, none⟩) 1 1) zV, aggM snapM zV zV nv] w (TPost w gE gD X0 nv) := by
  obtain ⟨A3, n3, rfl, -, -⟩ := nodes_len hn
  have HX0 := Lib.hid hX0
  have HNF : Hid (¬ No X0) := Lib.hid (fun f => f)
  clear hX0
  have HN := Lib.hid hn
  clear hn
  obtain ⟨hk, hk2⟩ := hk
  obtain ⟨hd1, hd2⟩ := hd
  unfold aggM msgCells
  simp only [esM, snapM, noTree, s1, ba, n1, List.length_cons, List.length_nil, Nat.zero_add, Nat.reduceAdd, zV]
  go_enter Tryz.func7, Tryz.ntmps7
  go_upto_region 2 with (fail)
  generalize hW : World.alloc (World.alloc (World.alloc (World.alloc w _) _) _) _ = w4 at *
  have HB : Hid (TB No w w.heap.size (w.heap.size + 1 + 1) (w.heap.size + 1 + 1 + 1) gE snapM zV zV (.slice A3 3 n3) w4) := Lib.hid (by rw [← hW]; obtain ⟨h1, h2, h3, h4, h5⟩ := four w _ _ _ _; exact ⟨h1, h3, h4, h5, by omega⟩)
  clear hW
  generalize w.heap.size + 1 + 1 + 1 = B9 at *
  generalize w.heap.size + 1 + 1 = B8 at *
  generalize w.heap.size = B6 at *
  rcases (by omega : k = 19 ∨ k = 20 ∨ k = 21 ∨ k = 22 ∨ k = 23) with rfl | rfl | rfl | rfl | rfl
  ·
    obtain ⟨a0, a1, a2, a3, a4, a5, a6, a7, a8, a9, a10, a11, a12⟩ := cells13 HB.out.b9
    simp only [esM, snapM, noTree, ba, s1, zV] at a0 a1 a2 a3 a4 a5 a6 a7 a8 a9 a10 a11 a12
    have f := (blk_free HB.out.b9 9)
    have HX := Lib.hid (HB.out.set 9 (.string ⟨#[91, 49, 93, 120]⟩) (m' := ⟨2, 1, 2, 0, 1, 4, true, [], [], ba [91, 49, 93, 120], ⟨0, 3, n1⟩⟩) (ev' := zV) (env' := zV) rfl).1
    go_upto_region 30 with (fail)
    generalize hW : World.setCell w4 _ _ = w5 at *
    clear hW f a0 a1 a2 a3 a4 a5 a6 a7 a8 a9 a10 a11 a12 HB
    have HB := HX
    clear HX
    have HO := Lib.hid (TB.out HB.out)
    obtain ⟨a0, a1, a2, a3, a4, a5, a6, a7, a8, a9, a10, a11, a12⟩ := cells13 HB.out.b9
    simp only [esM, snapM, noTree, ba, s1, zV] at a0 a1 a2 a3 a4 a5 a6 a7 a8 a9 a10 a11 a12
    obtain ⟨c0, c1, c2, c3, c4, c5, c6, c7, c8, c9, c10, c11, c12⟩ := cells13 HB.out.b8
    obtain ⟨f0, f1, f2, f3, f4, f5, f6, f7, f8, f9, f10, f11, f12⟩ := frees13 HB.out.b8
    simp only [msgCells, sets, esM, snapM, noTree, ba, s1, zV, Nat.reduceAdd] at HO
    go_wp2
    generalize hW : World.setCell _ ⟨B8, 12, none⟩ _ = W9 at *
    clear a0 a1 a2 a3 a4 a5 a6 a7 a8 a9 a10 a11 a12 c0 c1 c2 c3 c4 c5 c6 c7 c8 c9 c10 c11 c12 f0 f1 f2 f3 f4 f5 f6 f7 f8 f9 f10 f11 f12 hW
    obtain ⟨r0, r1, r2, r3, r4, r5, r6, r7, r8, r9, r10, r11, r12⟩ := cells13 HO.out.1
    have HX9 := Lib.hid (HO.out.2.2.blk HX0.out HNF.out)
    exact bodyPost_ret (v := aggM ⟨2, 1, 2, 0, 1, 4, true, [], [], ba [91, 49, 93, 120], ⟨0, 3, n1⟩⟩ zV zV (.slice A3 3 n3)) (by simp [results, Tryz.results7, go_sem, aggM, msgCells, esM, snapM, noTree, ba, s1, zV, r0, r1, r2, r3, r4, r5, r6, r7, r8, r9, r10, r11, r12]) rfl ⟨⟨2, 1, 2, 0, 1, 4, true, [], [], ba [91, 49, 93, 120], ⟨0, 3, n1⟩⟩, zV, zV, (.slice A3 3 n3), rfl, fun W hW hN => ⟨sl_nil _, sl_nil _, hN, (by decide)⟩, rng1, no_s19, HO.out.2.2.none⟩
  ·
    obtain ⟨a0, a1, a2, a3, a4, a5, a6, a7, a8, a9, a10, a11, a12⟩ := cells13 HB.out.b9
    simp only [esM, snapM, noTree, ba, s1, zV] at a0 a1 a2 a3 a4 a5 a6 a7 a8 a9 a10 a11 a12
    have f := (blk_free HB.out.b9 5)
    have HX := Lib.hid (HB.out.set 5 (.int .i64 (4096 + d)) (m' := ⟨2, 1, 2, 0, 1, 4096 + d, true, [], [], s1, ⟨0, 3, n1⟩⟩) (ev' := zV) (env' := zV) rfl).1
    go_upto_region 30 with (fail)
    generalize hW : World.setCell w4 _ _ = w5 at *
    clear hW f a0 a1 a2 a3 a4 a5 a6 a7 a8 a9 a10 a11 a12 HB
    have HB := HX
    clear HX
    have HO := Lib.hid (TB.out HB.out)
    obtain ⟨a0, a1, a2, a3, a4, a5, a6, a7, a8, a9, a10, a11, a12⟩ := cells13 HB.out.b9
    simp only [esM, snapM, noTree, ba, s1, zV] at a0 a1 a2 a3 a4 a5 a6 a7 a8 a9 a10 a11 a12
    obtain ⟨c0, c1, c2, c3, c4, c5, c6, c7, c8, c9, c10, c11, c12⟩ := cells13 HB.out.b8
    obtain ⟨f0, f1, f2, f3, f4, f5, f6, f7, f8, f9, f10, f11, f12⟩ := frees13 HB.out.b8
    simp only [msgCells, sets, esM, snapM, noTree, ba, s1, zV, Nat.reduceAdd] at HO
    go_wp2
    generalize hW : World.setCell _ ⟨B8, 12, none⟩ _ = W9 at *
    clear a0 a1 a2 a3 a4 a5 a6 a7 a8 a9 a10 a11 a12 c0 c1 c2 c3 c4 c5 c6 c7 c8 c9 c10 c11 c12 f0 f1 f2 f3 f4 f5 f6 f7 f8 f9 f10 f11 f12 hW
    obtain ⟨r0, r1, r2, r3, r4, r5, r6, r7, r8, r9, r10, r11, r12⟩ := cells13 HO.out.1
    have HX9 := Lib.hid (HO.out.2.2.blk HX0.out HNF.out)
    exact bodyPost_ret (v := aggM ⟨2, 1, 2, 0, 1, 4096 + d, true, [], [], s1, ⟨0, 3, n1⟩⟩ zV zV (.slice A3 3 n3)) (by simp [results, Tryz.results7, go_sem, aggM, msgCells, esM, snapM, noTree, ba, s1, zV, r0, r1, r2, r3, r4, r5, r6, r7, r8, r9, r10, r11, r12]) rfl ⟨⟨2, 1, 2, 0, 1, 4096 + d, true, [], [], s1, ⟨0, 3, n1⟩⟩, zV, zV, (.slice A3 3 n3), rfl, fun W hW hN => ⟨sl_nil _, sl_nil _, hN, (show 3 ≤ maxLen by decide)⟩, rng1, (no_s20 d hd1), HO.out.2.2.none⟩
  ·
    obtain ⟨a0, a1, a2, a3, a4, a5, a6, a7, a8, a9, a10, a11, a12⟩ := cells13 HB.out.b9
    simp only [esM, snapM, noTree, ba, s1, zV] at a0 a1 a2 a3 a4 a5 a6 a7 a8 a9 a10 a11 a12
    have f := (blk_free HB.out.b9 4)
    have HX := Lib.hid (HB.out.set 4 (.int .i64 (-d)) (m' := ⟨2, 1, 2, 0, -d, 4, true, [], [], s1, ⟨0, 3, n1⟩⟩) (ev' := zV) (env' := zV) rfl).1
    go_upto_region 30 with (fail)
    generalize hW : World.setCell w4 _ _ = w5 at *
    clear hW f a0 a1 a2 a3 a4 a5 a6 a7 a8 a9 a10 a11 a12 HB
    have HB := HX
    clear HX
    have HO := Lib.hid (TB.out HB.out)
    obtain ⟨a0, a1, a2, a3, a4, a5, a6, a7, a8, a9, a10, a11, a12⟩ := cells13 HB.out.b9
    simp only [esM, snapM, noTree, ba, s1, zV] at a0 a1 a2 a3 a4 a5 a6 a7 a8 a9 a10 a11 a12
    obtain ⟨c0, c1, c2, c3, c4, c5, c6, c7, c8, c9, c10, c11, c12⟩ := cells13 HB.out.b8
    obtain ⟨f0, f1, f2, f3, f4, f5, f6, f7, f8, f9, f10, f11, f12⟩ := frees13 HB.out.b8
    simp only [msgCells, sets, esM, snapM, noTree, ba, s1, zV, Nat.reduceAdd] at HO
    go_wp2
    generalize hW : World.setCell _ ⟨B8, 12, none⟩ _ = W9 at *
    clear a0 a1 a2 a3 a4 a5 a6 a7 a8 a9 a10 a11 a12 c0 c1 c2 c3 c4 c5 c6 c7 c8 c9 c10 c11 c12 f0 f1 f2 f3 f4 f5 f6 f7 f8 f9 f10 f11 f12 hW
    obtain ⟨r0, r1, r2, r3, r4, r5, r6, r7, r8, r9, r10, r11, r12⟩ := cells13 HO.out.1
    have HX9 := Lib.hid (HO.out.2.2.blk HX0.out HNF.out)
    exact bodyPost_ret (v := aggM ⟨2, 1, 2, 0, -d, 4, true, [], [], s1, ⟨0, 3, n1⟩⟩ zV zV (.slice A3 3 n3)) (by simp [results, Tryz.results7, go_sem, aggM, msgCells, esM, snapM, noTree, ba, s1, zV, r0, r1, r2, r3, r4, r5, r6, r7, r8, r9, r10, r11, r12]) rfl ⟨⟨2, 1, 2, 0, -d, 4, true, [], [], s1, ⟨0, 3, n1⟩⟩, zV, zV, (.slice A3 3 n3), rfl, fun W hW hN => ⟨sl_nil _, sl_nil _, hN, (show 3 ≤ maxLen by decide)⟩, rng1, (no_s21 d hd1), HO.out.2.2.none⟩
  ·
    obtain ⟨a0, a1, a2, a3, a4, a5, a6, a7, a8, a9, a10, a11, a12⟩ := cells13 HB.out.b9
    simp only [esM, snapM, noTree, ba, s1, zV] at a0 a1 a2 a3 a4 a5 a6 a7 a8 a9 a10 a11 a12
    have f := (blk_free HB.out.b9 11)
    have HX := Lib.hid (HB.out.set 11 (.int .i64 0) (m' := ⟨2, 1, 2, 0, 1, 4, true, [], [], s1, ⟨0, 0, n1⟩⟩) (ev' := zV) (env' := zV) rfl).1
    go_upto_region 30 with (fail)
    generalize hW : World.setCell w4 _ _ = w5 at *
    clear hW f a0 a1 a2 a3 a4 a5 a6 a7 a8 a9 a10 a11 a12 HB
    have HB := HX
    clear HX
    have HO := Lib.hid (TB.out HB.out)
    obtain ⟨a0, a1, a2, a3, a4, a5, a6, a7, a8, a9, a10, a11, a12⟩ := cells13 HB.out.b9
    simp only [esM, snapM, noTree, ba, s1, zV] at a0 a1 a2 a3 a4 a5 a6 a7 a8 a9 a10 a11 a12
    obtain ⟨c0, c1, c2, c3, c4, c5, c6, c7, c8, c9, c10, c11, c12⟩ := cells13 HB.out.b8
    obtain ⟨f0, f1, f2, f3, f4, f5, f6, f7, f8, f9, f10, f11, f12⟩ := frees13 HB.out.b8
    simp only [msgCells, sets, esM, snapM, noTree, ba, s1, zV, Nat.reduceAdd] at HO
    go_wp2
    generalize hW : World.setCell _ ⟨B8, 12, none⟩ _ = W9 at *
    clear a0 a1 a2 a3 a4 a5 a6 a7 a8 a9 a10 a11 a12 c0 c1 c2 c3 c4 c5 c6 c7 c8 c9 c10 c11 c12 f0 f1 f2 f3 f4 f5 f6 f7 f8 f9 f10 f11 f12 hW
    obtain ⟨r0, r1, r2, r3, r4, r5, r6, r7, r8, r9, r10, r11, r12⟩ := cells13 HO.out.1
    have HX9 := Lib.hid (HO.out.2.2.blk HX0.out HNF.out)
    exact bodyPost_ret (v := aggM ⟨2, 1, 2, 0, 1, 4, true, [], [], s1, ⟨0, 0, n1⟩⟩ zV zV (.slice A3 3 n3)) (by simp [results, Tryz.results7, go_sem, aggM, msgCells, esM, snapM, noTree, ba, s1, zV, r0, r1, r2, r3, r4, r5, r6, r7, r8, r9, r10, r11, r12]) rfl ⟨⟨2, 1, 2, 0, 1, 4, true, [], [], s1, ⟨0, 0, n1⟩⟩, zV, zV, (.slice A3 3 n3), rfl, fun W hW hN => ⟨sl_nil _, sl_nil _, hN, (by decide)⟩, rng1, no_s22, HO.out.2.2.none⟩
  ·
    have HB1 := Lib.hid (HB.out.no (Step.alloc (Step.refl No w4) (.cells #[.int .i64 0, .int .i64 1, .string ⟨#[]⟩] TC)))
    have hX := blk_new w4 (.cells #[.int .i64 0, .int .i64 1, .string ⟨#[]⟩] TC)
    have a7 := blk_cell HB1.out.b9 7
    have f7 := blk_free HB1.out.b9 7
    simp [msgCells, esM, snapM, noTree, ba, s1, zV] at a7
    have HX := Lib.hid (HB1.out.set 7 (.slice (some ⟨w4.heap.size, 0, none⟩) 1 1) (m' := ⟨2, 1, 2, 0, 1, 4, true, pE, [], s1, ⟨0, 3, n1⟩⟩) (ev' := .slice (some ⟨w4.heap.size, 0, none⟩) 1 1) (env' := zV) rfl)
    have HXb := Lib.hid hX
    have HLt : Hid (B9 < w4.heap.size) := Lib.hid (blk_lt HB.out.b9)
    clear hX
    go_upto_region 30 with (fail)
    generalize hW : World.setCell (World.alloc w4 _) _ _ = w5 at *
    have HXc := Lib.hid (HX.out.2.blk HXb.out (by have := HLt.out; omega))
    have HB2 := Lib.hid HX.out.1
    have HGe := Lib.hid HB.out.ge
    generalize w4.heap.size = X at *
    clear hW a7 f7 HB HB1 HX HXb
    have HB := HB2
    clear HB2
    have HO := Lib.hid (TB.out HB.out)
    obtain ⟨a0, a1, a2, a3, a4, a5, a6, a7, a8, a9, a10, a11, a12⟩ := cells13 HB.out.b9
    simp only [esM, snapM, noTree, ba, s1, zV] at a0 a1 a2 a3 a4 a5 a6 a7 a8 a9 a10 a11 a12
    obtain ⟨c0, c1, c2, c3, c4, c5, c6, c7, c8, c9, c10, c11, c12⟩ := cells13 HB.out.b8
    obtain ⟨f0, f1, f2, f3, f4, f5, f6, f7, f8, f9, f10, f11, f12⟩ := frees13 HB.out.b8
    simp only [msgCells, sets, esM, snapM, noTree, ba, s1, zV, Nat.reduceAdd] at HO
    go_wp2
    generalize hW : World.setCell _ ⟨B8, 12, none⟩ _ = W9 at *
    clear a0 a1 a2 a3 a4 a5 a6 a7 a8 a9 a10 a11 a12 c0 c1 c2 c3 c4 c5 c6 c7 c8 c9 c10 c11 c12 f0 f1 f2 f3 f4 f5 f6 f7 f8 f9 f10 f11 f12 hW
    obtain ⟨r0, r1, r2, r3, r4, r5, r6, r7, r8, r9, r10, r11, r12⟩ := cells13 HO.out.1
    have HX9 := Lib.hid (HO.out.2.2.blk HX0.out HNF.out)
    exact bodyPost_ret (v := aggM ⟨2, 1, 2, 0, 1, 4, true, pE, [], s1, ⟨0, 3, n1⟩⟩ (.slice (some ⟨X, 0, none⟩) 1 1) zV (.slice A3 3 n3)) (by simp [results, Tryz.results7, go_sem, aggM, msgCells, esM, snapM, noTree, ba, s1, zV, r0, r1, r2, r3, r4, r5, r6, r7, r8, r9, r10, r11, r12]) rfl ⟨⟨2, 1, 2, 0, 1, 4, true, pE, [], s1, ⟨0, 3, n1⟩⟩, (.slice (some ⟨X, 0, none⟩) 1 1), zV, (.slice A3 3 n3), rfl, fun W hW hN => (have h9 := HO.out.2.1.blk HXc.out (by have := HLt.out; have := HGe.out; omega); have HCo := pE_of (hW.blk h9 (blk_ne h9 HX9.out (by decide))); ⟨HCo, sl_nil _, hN, (by decide)⟩), rng1, no_s23, HO.out.2.2.none⟩
/-- What the changes come to in the end. -/
theorem TB.esE {F : Nat → Prop} {w W : World} {B6 B8 B9 gE gC gD : Nat} {m : MsgD} {ev env nv' : Value} {cl sq id : Int} (h : TB F w B6 B8 B9 gE m ev env nv' W) (hE : ESw W gE gC gD cl sq id) : EntriesR (sets W B8 0 (msgCells m ev env nv').toList) (es1 cl sq id) (.slice (some ⟨gE, 0, none⟩) 1 1) := es_of (hE.at h.b8 h.out.2.1)
/-- A block of other types is written. -/
theorem TB.away {F : Nat → Prop} {w W : World} {B6 B8 B9 gE : Nat} {m : MsgD} {ev env nv' : Value} (h : TB F w B6 B8 B9 gE m ev env nv' W) {g : Nat} {cs : Array Value} {t : TypeId} (hg : W.heap[g]? = some (.cells cs t (0, 0))) (ht : t ≠ TM) (hF : F g) (i : Nat) (u : Value) : TB F w B6 B8 B9 gE m ev env nv' (W.setCell ⟨g, i, none⟩ u) := by
  have hS : Step (fun j => j = g) W (W.setCell ⟨g, i, none⟩ u) := by refine set_at (Step.refl _ _) ?_ _ <;> rfl
  exact ⟨hS.blk h.b6 (fun e => blk_ne h.b6 hg (fun e => ht e.symm) e), hS.blk h.b8 (fun e => blk_ne h.b8 hg (fun e => ht e.symm) e), hS.blk h.b9 (fun e => blk_ne h.b9 hg (fun e => ht e.symm) e), h.step.trans hS (fun j e _ => by rw [e]; exact hF), h.ge⟩
def FE (gE gD : Nat) (j : Nat) : Prop := j = gE ∨ j = gD
end Go.Proofs.YtkamhpbfebdhjaaGreatDoor.PfT
