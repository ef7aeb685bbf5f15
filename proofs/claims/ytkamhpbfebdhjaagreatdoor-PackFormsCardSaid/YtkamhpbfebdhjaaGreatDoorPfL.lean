/- Messages that may not be, one thing at a time: the law. -/
import Derived.Test.YtkamhpbfebdhjaaGreatDoorPfT2
import Derived.Test.YtkamhpbfebdhjaaGreatDoorRefPar9
import Derived.Test.YtkamhpbfebdhjaaGreatDoorTrR
import Derived.Test.YtkamhpbfebdhjaaGreatDoorLumpA
namespace Go.Proofs.YtkamhpbfebdhjaaGreatDoor.PfL
open Go.RowKit Go.Lib Go.Proofs.YtkamhpbfebdhjaaGreatDoor.Mem Go.Proofs.YtkamhpbfebdhjaaGreatDoor.Read Go.Proofs.YtkamhpbfebdhjaaGreatDoor.Tree Go.Proofs.YtkamhpbfebdhjaaGreatDoor.Data Go.Proofs.YtkamhpbfebdhjaaGreatDoor.Env Go.Proofs.YtkamhpbfebdhjaaGreatDoor.Take Go.Proofs.YtkamhpbfebdhjaaGreatDoor.Pk Go.Proofs.YtkamhpbfebdhjaaGreatDoor.MsgR Go.Proofs.YtkamhpbfebdhjaaGreatDoor.CompR Go.Proofs.YtkamhpbfebdhjaaGreatDoor.May Go.Proofs.YtkamhpbfebdhjaaGreatDoor.PkL Go.Proofs.YtkamhpbfebdhjaaGreatDoor.PkAwake Go.Proofs.YtkamhpbfebdhjaaGreatDoor.C13 Go.Proofs.YtkamhpbfebdhjaaGreatDoor.PfA Go.Proofs.YtkamhpbfebdhjaaGreatDoor.Same
open Go.Proofs.YtkamhpbfebdhjaaGreatDoor.PfT (ESw TPost pE_of pE2_of es_of rng1 frees13)
open Go.Proofs.YtkamhpbfebdhjaaGreatDoor.PfT2 (turned_es)
open Go.Proofs.YtkamhpbfebdhjaaGreatDoor.PfT (turned_snap)
open Go.Proofs.YtkamhpbfebdhjaaGreatDoor.TakeE (sets sets_blk sets_step)
open Go.Proofs.YtkamhpbfebdhjaaGreatDoor.Get (zV)
open Go.Proofs.YtkamhpbfebdhjaaGreatDoor.Put (PutPost put_any)
open Go.Proofs.YtkamhpbfebdhjaaGreatDoor.MayLen (putOk)
open Go.Proofs.YtkamhpbfebdhjaaGreatDoor.RefPar9 (Parse_any TreeOut)
open Go.Proofs.YtkamhpbfebdhjaaGreatDoor.MsgMay (may_any)
set_option linter.unusedVariables false
set_option linter.unusedSimpArgs false
abbrev TM : TypeId := 33
abbrev TE : TypeId := 39
abbrev TCo : TypeId := 29
abbrev TS : TypeId := 36
abbrev TTr : TypeId := 25
theorem i64_and1023 (n : Int) : bits .and .i64 n 1023 = n % 1024 := by
  have h127 : (BitVec.ofInt 64 1023).toNat = 2 ^ 10 - 1 := by decide
  have key : (BitVec.ofInt 64 n &&& BitVec.ofInt 64 1023).toNat = (n % ((2 ^ 64 : Nat) : Int)).toNat % 2 ^ 10 := by
    rw [BitVec.toNat_and, BitVec.toNat_ofInt, h127, Nat.and_two_pow_sub_one_eq_mod]
  show IntKind.i64.wrap ((BitVec.ofInt 64 n &&& BitVec.ofInt 64 1023).toNat : Nat) = n % 1024
  rw [key, IntKind.wrap_i64]
  omega
theorem mod24 (n : Int) : ∃ k : Nat, (IntKind.u64.wrap n).tmod 24 = (k : Int) ∧ k < 24 := by
  have h0 : 0 ≤ IntKind.u64.wrap n := by rw [IntKind.wrap_u64]; omega
  rw [Int.tmod_eq_emod_of_nonneg h0]
  exact ⟨(IntKind.u64.wrap n % 24).toNat, by omega, by omega⟩
theorem two (w : World) (o0 o1 : Obj) : ((w.alloc o0).alloc o1).heap[w.heap.size]? = some o0 ∧ ((w.alloc o0).alloc o1).heap[w.heap.size + 1]? = some o1 ∧ Step No w ((w.alloc o0).alloc o1) :=
  ⟨blk_alloc (blk_new w o0) _, by simpa using blk_new (w.alloc o0) o1, ((Step.refl No w).alloc _).alloc _⟩
/-- A message that may not be stands in the block. -/
def Fin (w : World) (X : Nat) (W : World) : Prop := ∃ (m : MsgD) (ev env nv : Value), W.heap[X]? = some (.cells (msgCells m ev env nv) TM (0, 0)) ∧ MsgR W m ev env nv ∧ ParMay.RngN m.tree.nodes ∧ msgB m = false ∧ Step No w W
def pollC (b : Nat) : Array Value := msgCells pollM (.slice (some ⟨b, 0, none⟩) 1 1) zV zV
/-- What is laid ahead of the cases. -/
structure LW (w w2 : World) (C1 X E S gE gC gD : Nat) (nv : Value) (W : World) : Prop where
  c1 : W.heap[C1]? = some (.cells #[.int .i64 0, .int .i64 1, .string ⟨#[]⟩] TCo (0, 0))
  x : W.heap[X]? = some (.cells (msgCells pollM (.slice (some ⟨C1, 0, none⟩) 1 1) zV zV) TM (0, 0))
  e : W.heap[E]? = some (.cells (msgCells esM zV (.slice (some ⟨gE, 0, none⟩) 1 1) zV) TM (0, 0))
  s : W.heap[S]? = some (.cells (msgCells snapM zV zV nv) TM (0, 0))
  es : ESw W gE gC gD 1 2 3
  n : NodesR w2 n1 nv
  st2 : Step No w2 W
  step : Step No w W
  ge : w.heap.size ≤ X ∧ w.heap.size ≤ gE ∧ w.heap.size ≤ gD
  ge2 : w2.heap.size ≤ X ∧ w2.heap.size ≤ gE ∧ w2.heap.size ≤ gD
theorem no_put {m : MsgD} (h : msgB m = false) (hp : putOk m = true) : False := by
  unfold putOk at hp
  rw [h] at hp
  cases hp
theorem mx_step {w W W' : World} {X : Nat} (h : Step No w W) (h' : Step (fun j => j = X) W W') (hX : w.heap.size ≤ X) : Step No w W' := h.trans h' (fun j e hlt => by omega)
theorem turned_all (w : World) (k : Nat) (hk : 12 < k ∧ k < 24) (d : Int) (hd : 1 ≤ d ∧ d ≤ 1024) (gE gC gD : Nat) (hE : ESw w gE gC gD 1 2 3) (A3 : Option Addr) (n3 : Nat) (hn : NodesR w n1 (.slice A3 3 n3)) (X0 : Nat) (cx : Array Value) (hX0 : w.heap[X0]? = some (.cells cx TM (0, 0))) :
    Calls Tryz.prog 7 #[.int .i64 (k : Nat), .int .i64 d, aggM esM zV (.slice (some ⟨gE, 0, none⟩) 1 1) zV, aggM snapM zV zV (.slice A3 3 n3)] w (TPost w gE gD X0 (.slice A3 3 n3)) := by
  by_cases h : k < 19
  · exact turned_es w k ⟨by omega, h⟩ d hd gE gC gD hE A3 n3 X0 cx hX0
  · exact turned_snap w k ⟨by omega, hk.2⟩ d hd gE gC gD (.slice A3 3 n3) hn X0 cx hX0
theorem fin_of {w w2 w11 : World} {X : Nat} {m : MsgD} {ev env nv' nv v0 v1 v2 v3 v4 v5 v6 v7 v8 v9 v10 v11 v12 : Value} (hx : w11.heap[X]? = some (.cells #[v0, v1, v2, v3, v4, v5, v6, v7, v8, v9, v10, v11, v12] TM (0, 0))) (hmr : ∀ W, Step (fun j => j = X) w11 W → NodesR W n1 nv → MsgR W m ev env nv') (hst2 : Step No w2 w11) (hst0 : Step No w w11) (hn : NodesR w2 n1 nv) (hX : w.heap.size ≤ X) (hX2 : w2.heap.size ≤ X) (hrn : ParMay.RngN m.tree.nodes) (hno : msgB m = false) :
    Fin w X (sets w11 X 0 (msgCells m ev env nv').toList) := by
  have hS := sets_step X (msgCells m ev env nv').toList w11 0
  have hb := sets_blk (msgCells m ev env nv').toList [] [v0, v1, v2, v3, v4, v5, v6, v7, v8, v9, v10, v11, v12] w11 (by simpa using hx) rfl
  exact ⟨m, ev, env, nv', hb, hmr _ hS (hn.to (mx_step hst2 hS hX2)), hrn, hno, mx_step hst0 hS hX⟩
set_option maxHeartbeats 16000000 in
set_option maxRecDepth 100000 in
theorem Forms_any (which x : Int) (w : World) (hE : Env w) :
    Calls Tryz.prog 3 #[.int .i64 which, .int .i64 x] w fun e w' => e = .returned (.bool true) ∧ Step No w w' := by
  have HE := Lib.hid hE
  clear hE
  obtain ⟨d, hd, hd0, hd1⟩ : ∃ d : Int, 1 + bits .and .i64 x 1023 = d ∧ 1 ≤ d ∧ d ≤ 1024 := ⟨_, rfl, by rw [i64_and1023]; omega, by rw [i64_and1023]; omega⟩
  obtain ⟨k, hq, hk⟩ := mod24 which
  go_enter Tryz.func3, Tryz.ntmps3
  go_wp2_with fail
  refine (awake_any _ HE.out).mono ?_
  rintro e w1 ⟨rfl, hs1⟩
  have HS1 := Lib.hid hs1
  clear hs1
  go_upto_region 4 with (fail)
  clear hd
  go_wp2_with fail
  refine (Parse_any ⟨#[91, 49, 93]⟩ (by decide) _).mono ?_
  rw [parse1]
  rintro e w2 ⟨nv, ys, rfl, hys, hn, -, hs2⟩
  have hnr := TrR.nodes_reads hn
  rw [hys] at hnr
  have HN := Lib.hid hnr
  have HS2 : Hid (Step No w w2) := Lib.hid (HS1.out.trans hs2 (fun _ f _ => f))
  obtain ⟨A3, n3, rfl, -, -⟩ := nodes_len hnr
  have HN0 := HN
  clear hys hn hs2 HS1 hnr
  simp only [n1, List.length_cons, List.length_nil, Nat.zero_add, Nat.reduceAdd]
  go_upto_region 5 with (fail)
  have hT := blk_new w2 (.cells #[.int .i64 0, .int .i64 3, .slice A3 3 n3] TTr)
  have hs3 : Step No w2 (w2.alloc (.cells #[.int .i64 0, .int .i64 3, .slice A3 3 n3] TTr)) := (Step.refl No w2).alloc _
  generalize hW : World.alloc w2 _ = w3 at *
  generalize w2.heap.size = T at *
  have HT := Lib.hid hT
  have HN3 := Lib.hid (HN.out.to hs3)
  have HS3 : Hid (Step No w w3) := Lib.hid (HS2.out.trans hs3 (fun _ f _ => f))
  have HS23 := Lib.hid hs3
  clear hW hT hs3 HN HS2
  go_upto_region 6 with (fail)
  generalize hW : World.alloc (World.alloc w3 _) _ = w4 at *
  have H4 := Lib.hid (show w4.heap[w3.heap.size]? = some (.cells #[.int .i64 0, .int .i64 1, .string ⟨#[]⟩] TCo (0, 0)) ∧ w4.heap[w3.heap.size + 1]? = some (.cells (msgCells pollM (.slice (some ⟨w3.heap.size, 0, none⟩) 1 1) zV zV) TM (0, 0)) ∧ Step No w3 w4 from by rw [← hW]; exact two w3 _ _)
  clear hW
  generalize w3.heap.size + 1 = P at *
  generalize w3.heap.size = C1 at *
  go_upto_region 7 with (fail)
  generalize hW : World.alloc (World.alloc (World.alloc (World.alloc w4 _) _) _) _ = w5 at *
  have H5 := Lib.hid (show ESw w5 (w4.heap.size + 1 + 1) w4.heap.size (w4.heap.size + 1) 1 2 3 ∧ w5.heap[w4.heap.size + 1 + 1 + 1]? = some (.cells (msgCells esM zV (.slice (some ⟨w4.heap.size + 1 + 1, 0, none⟩) 1 1) zV) TM (0, 0)) ∧ Step No w4 w5 from by rw [← hW]; obtain ⟨h1, h2, h3, h4, h5⟩ := PfT.four w4 _ _ _ _; exact ⟨⟨h3, h1, h2⟩, h4, h5⟩)
  have HL4 : Hid (w.heap.size ≤ w4.heap.size) := Lib.hid (Nat.le_trans HS3.out.size H4.out.2.2.size)
  have HL24 : Hid (w2.heap.size ≤ w4.heap.size) := Lib.hid (Nat.le_trans HS23.out.size H4.out.2.2.size)
  clear hW
  have HT5 := Lib.hid ((H4.out.2.2.trans H5.out.2.2 (fun _ f _ => f)).blk HT.out (fun f => f))
  generalize w4.heap.size + 1 + 1 + 1 = E at *
  obtain ⟨gE, hgE⟩ : ∃ gE, w4.heap.size + 1 + 1 = gE := ⟨_, rfl⟩
  obtain ⟨gD, hgD⟩ : ∃ gD, w4.heap.size + 1 = gD := ⟨_, rfl⟩
  rw [hgE, hgD] at H5
  rw [hgE]
  have HGe : Hid (w.heap.size ≤ gE ∧ w.heap.size ≤ gD) := Lib.hid (by have := HL4.out; omega)
  have HGe2 : Hid (w2.heap.size ≤ gE ∧ w2.heap.size ≤ gD) := Lib.hid (by have := HL24.out; omega)
  clear hgE hgD
  generalize w4.heap.size = gC at *
  have t0 := blk_cell HT5.out 0
  have t1 := blk_cell HT5.out 1
  have t2 := blk_cell HT5.out 2
  simp at t0 t1 t2
  go_upto_region 8 with (fail)
  have hS := blk_new w5 (.cells (msgCells snapM zV zV (.slice A3 3 n3)) TM)
  have hs6 : Step No w5 (w5.alloc (.cells (msgCells snapM zV zV (.slice A3 3 n3)) TM)) := (Step.refl No w5).alloc _
  have hs36 : Step No w3 (w5.alloc (.cells (msgCells snapM zV zV (.slice A3 3 n3)) TM)) := (H4.out.2.2.trans H5.out.2.2 (fun _ f _ => f)).trans hs6 (fun _ f _ => f)
  have hs46 : Step No w4 (w5.alloc (.cells (msgCells snapM zV zV (.slice A3 3 n3)) TM)) := H5.out.2.2.trans hs6 (fun _ f _ => f)
  have HP6 := Lib.hid (hs46.blk H4.out.2.1 (fun f => f))
  have HC6 := Lib.hid (hs46.blk H4.out.1 (fun f => f))
  have HE6 := Lib.hid (hs6.blk H5.out.2.1 (fun f => f))
  have HS6 := Lib.hid hS
  have HES6 := Lib.hid (H5.out.1.step hs6)
  have HN6 := Lib.hid (HN3.out.to hs36)
  have HSt6 : Hid (Step No w _) := Lib.hid (HS3.out.trans hs36 (fun _ f _ => f))
  have HSt26 : Hid (Step No w2 _) := Lib.hid (HS23.out.trans hs36 (fun _ f _ => f))
  clear hS hs6 hs36 hs46 H4 H5 HT5 t0 t1 t2 HT HN3 HS3 HL4
  simp only [msgCells, snapM, esM, pollM, noTree, s1, ba, zV] at HP6 HC6 HE6 HS6 HES6 HN6 HSt6 HSt26
  generalize hW : World.alloc w5 _ = w6 at *
  generalize w5.heap.size = S at *
  clear hW
  obtain ⟨a0, a1, a2, a3, a4, a5, a6, a7, a8, a9, a10, a11, a12⟩ := cells13 HP6.out
  try simp only [esM, snapM, pollM, noTree, ba, s1, zV] at a0 a1 a2 a3 a4 a5 a6 a7 a8 a9 a10 a11 a12
  go_wp2_with fail
  refine (may_any pollM (.slice (some ⟨C1, 0, none⟩) 1 1) zV zV w6 ⟨pE_of HC6.out, sl_nil _, sl_nil _, Nat.zero_le _⟩ (fun x hx => by cases hx)).mono ?_
  rintro e w7 ⟨rfl, hs7⟩
  rw [may_poll]
  clear a0 a1 a2 a3 a4 a5 a6 a7 a8 a9 a10 a11 a12
  have HS7 := Lib.hid hs7
  clear hs7
  have HE7 := Lib.hid (HS7.out.blk HE6.out (fun f => f))
  have HES7 := Lib.hid (HES6.out.step HS7.out)
  obtain ⟨a0, a1, a2, a3, a4, a5, a6, a7, a8, a9, a10, a11, a12⟩ := cells13 HE7.out
  try simp only [esM, snapM, pollM, noTree, ba, s1, zV] at a0 a1 a2 a3 a4 a5 a6 a7 a8 a9 a10 a11 a12
  go_wp2_with fail
  refine (may_any esM zV (.slice (some ⟨gE, 0, none⟩) 1 1) zV w7 ⟨sl_nil _, es_of HES7.out, sl_nil _, Nat.zero_le _⟩ (fun x hx => by cases hx)).mono ?_
  rintro e w8 ⟨rfl, hs7⟩
  rw [may_es]
  clear a0 a1 a2 a3 a4 a5 a6 a7 a8 a9 a10 a11 a12
  have HS8 := Lib.hid (HS7.out.trans hs7 (fun _ f _ => f))
  clear hs7
  have HSn8 := Lib.hid (HS8.out.blk HS6.out (fun f => f))
  have HN8 := Lib.hid (HN6.out.to HS8.out)
  obtain ⟨a0, a1, a2, a3, a4, a5, a6, a7, a8, a9, a10, a11, a12⟩ := cells13 HSn8.out
  try simp only [esM, snapM, pollM, noTree, ba, s1, zV] at a0 a1 a2 a3 a4 a5 a6 a7 a8 a9 a10 a11 a12
  go_wp2_with fail
  refine (may_any snapM zV zV (.slice A3 3 n3) w8 ⟨sl_nil _, sl_nil _, HN8.out, (show 3 ≤ maxLen by decide)⟩ rng1).mono ?_
  rintro e w9 ⟨rfl, hs7⟩
  rw [may_snap]
  clear a0 a1 a2 a3 a4 a5 a6 a7 a8 a9 a10 a11 a12
  have HS9 := Lib.hid (HS8.out.trans hs7 (fun _ f _ => f))
  clear hs7
  have HP9 := Lib.hid (HS9.out.blk HP6.out (fun f => f))
  obtain ⟨a0, a1, a2, a3, a4, a5, a6, a7, a8, a9, a10, a11, a12⟩ := cells13 HP9.out
  try simp only [pollM, noTree, ba, zV] at a0 a1 a2 a3 a4 a5 a6 a7 a8 a9 a10 a11 a12
  go_upto_region 11 with (fail)
  have HLW : Hid (LW w w2 C1 w9.heap.size E S gE gC gD (.slice A3 3 n3) (w9.alloc (.cells (msgCells pollM (.slice (some ⟨C1, 0, none⟩) 1 1) zV zV) TM))) := Lib.hid (LW.mk (blk_alloc (HS9.out.blk HC6.out (fun f => f)) _) (blk_new _ _) (blk_alloc (HS9.out.blk HE6.out (fun f => f)) _) (blk_alloc (HS9.out.blk HS6.out (fun f => f)) _) ((HES6.out.step HS9.out).step ((Step.refl No w9).alloc _)) HN0.out ((HSt26.out.trans HS9.out (fun _ f _ => f)).alloc _) ((HSt6.out.trans HS9.out (fun _ f _ => f)).alloc _) ⟨Nat.le_trans HSt6.out.size HS9.out.size, HGe.out⟩ ⟨Nat.le_trans HSt26.out.size HS9.out.size, HGe2.out⟩)
  simp only [msgCells, pollM, noTree, ba, zV] at HLW
  generalize hW : World.alloc w9 _ = w10 at *
  generalize w9.heap.size = X at *
  clear hW a0 a1 a2 a3 a4 a5 a6 a7 a8 a9 a10 a11 a12 HP9 HS9 HSn8 HN8 HS8 HES7 HE7 HS7 HP6 HC6 HE6 HS6 HES6 HN6 HSt6 HGe HN0 HSt26 HGe2 HS23
  go_upto_if 52 with (fail)
  go_cut [] (fun wx => Hid ((k ≤ 12 ∧ LW w w2 C1 X E S gE gC gD (.slice A3 3 n3) wx) ∨ (12 < k ∧ Fin w X wx)))
  case first =>
    by_cases hk12 : k ≤ 12
    · go_wp2
      go_meet
      exact Lib.hid (.inl ⟨hk12, HLW.out⟩)
    · have hk12' : 12 < k := by omega
      obtain ⟨a0, a1, a2, a3, a4, a5, a6, a7, a8, a9, a10, a11, a12⟩ := cells13 HLW.out.e
      obtain ⟨b0, b1, b2, b3, b4, b5, b6, b7, b8, b9, b10, b11, b12⟩ := cells13 HLW.out.s
      try simp only [esM, snapM, pollM, noTree, ba, s1, zV] at a0 a1 a2 a3 a4 a5 a6 a7 a8 a9 a10 a11 a12 b0 b1 b2 b3 b4 b5 b6 b7 b8 b9 b10 b11 b12
      go_wp2_with fail
      refine (turned_all w10 k ⟨hk12', hk⟩ d ⟨hd0, hd1⟩ gE gC gD HLW.out.es A3 n3 (HLW.out.n.to HLW.out.st2) X _ HLW.out.x).mono ?_
      rintro e w11 ⟨m, ev, env, nv', rfl, hmr, hrn, hno, hst⟩
      have hne : ¬ (X = gE ∨ X = gD) := by rintro (e | e); exact blk_ne HLW.out.x HLW.out.es.e (by decide) e; exact blk_ne HLW.out.x HLW.out.es.d (by decide) e
      have hx11 := hst.blk HLW.out.x hne
      have hst2 : Step No w2 w11 := HLW.out.st2.trans hst (fun j f hlt => by have := HLW.out.ge2; rcases f with rfl | rfl <;> omega)
      have hst0 : Step No w w11 := HLW.out.step.trans hst (fun j f hlt => by have := HLW.out.ge; rcases f with rfl | rfl <;> omega)
      have hm11 := hmr w11 (Step.refl _ _) (HLW.out.n.to hst2)
      obtain ⟨A1, c1', rfl, -, -⟩ := comps_len hm11.edit
      obtain ⟨A2, c2', rfl, -, -⟩ := sl_len hm11.entries
      obtain ⟨A4, c4', rfl, -, -⟩ := nodes_len hm11.nodes
      have HF := Lib.hid (fin_of hx11 hmr hst2 hst0 HLW.out.n HLW.out.ge.1 HLW.out.ge2.1 hrn hno)
      obtain ⟨x0, x1, x2, x3, x4, x5, x6, x7, x8, x9, x10, x11, x12⟩ := cells13 hx11
      obtain ⟨f0, f1, f2, f3, f4, f5, f6, f7, f8, f9, f10, f11, f12⟩ := frees13 hx11
      clear a0 a1 a2 a3 a4 a5 a6 a7 a8 a9 a10 a11 a12 b0 b1 b2 b3 b4 b5 b6 b7 b8 b9 b10 b11 b12 hmr hrn hno hst hne hx11 hst2 hst0 hm11 HLW
      simp only [msgCells, sets, Nat.reduceAdd] at HF
      try simp only [pollM, noTree, ba, zV] at x0 x1 x2 x3 x4 x5 x6 x7 x8 x9 x10 x11 x12
      unfold aggM msgCells
      go_wp2
      generalize hW : World.setCell _ ⟨X, 12, none⟩ _ = W9 at *
      go_meet
      exact Lib.hid (.inr ⟨hk12', HF.out⟩)
  case rest =>
    clear HLW
    have HC := hcut
    clear hcut
    rcases HC.out with ⟨hk12, HLW⟩ | ⟨hk12, hF⟩
    · have HLW := Lib.hid HLW
      clear HC
      go_upto_block 0 with (fail)
      go_cut [] (fun wx => Hid (Fin w X wx))
      case first =>
        rcases (by omega : k = 0 ∨ k = 1 ∨ k = 2 ∨ k = 3 ∨ k = 4 ∨ k = 5 ∨ k = 6 ∨ k = 7 ∨ k = 8 ∨ k = 9 ∨ k = 10 ∨ k = 11 ∨ k = 12) with rfl | rfl | rfl | rfl | rfl | rfl | rfl | rfl | rfl | rfl | rfl | rfl | rfl
        ·
          have a := blk_cell HLW.out.x 1
          have f := blk_free HLW.out.x 1
          simp [msgCells, pollM, noTree, ba, zV] at a
          have hx := blk_set HLW.out.x 1 (.int .i64 (2 + d))
          have hS : Step (fun j => j = X) wc (wc.setCell ⟨X, 1, none⟩ (.int .i64 (2 + d))) := by refine set_at (Step.refl _ _) ?_ _ <;> rfl
          have HXm : Hid ((wc.setCell ⟨X, 1, none⟩ (.int .i64 (2 + d))).heap[X]? = some (.cells (msgCells (pollT 0 d) (.slice (some ⟨C1, 0, none⟩) 1 1) zV zV) TM (0, 0))) := Lib.hid hx
          have HMr : Hid (MsgR (wc.setCell ⟨X, 1, none⟩ (.int .i64 (2 + d))) (pollT 0 d) (.slice (some ⟨C1, 0, none⟩) 1 1) zV zV) := Lib.hid ⟨pE_of (hS.blk HLW.out.c1 (blk_ne HLW.out.c1 HLW.out.x (by decide))), sl_nil _, sl_nil _, by first | exact Nat.zero_le _ | (show 1 ≤ maxLen; decide)⟩
          have HSt : Hid (Step No w (wc.setCell ⟨X, 1, none⟩ (.int .i64 (2 + d)))) := Lib.hid (mx_step HLW.out.step hS HLW.out.ge.1)
          have HNo := Lib.hid (no_pollT 0 d hd0)
          have HRn : Hid (ParMay.RngN (pollT 0 d).tree.nodes) := Lib.hid (fun x hx => by cases hx)
          clear hx hS
          go_wp2
          go_meet
          exact Lib.hid ⟨_, _, _, _, HXm.out, HMr.out, HRn.out, HNo.out, HSt.out⟩
        ·
          have a := blk_cell HLW.out.x 1
          have f := blk_free HLW.out.x 1
          simp [msgCells, pollM, noTree, ba, zV] at a
          have hx := blk_set HLW.out.x 1 (.int .i64 (-d))
          have hS : Step (fun j => j = X) wc (wc.setCell ⟨X, 1, none⟩ (.int .i64 (-d))) := by refine set_at (Step.refl _ _) ?_ _ <;> rfl
          have HXm : Hid ((wc.setCell ⟨X, 1, none⟩ (.int .i64 (-d))).heap[X]? = some (.cells (msgCells (pollT 1 d) (.slice (some ⟨C1, 0, none⟩) 1 1) zV zV) TM (0, 0))) := Lib.hid hx
          have HMr : Hid (MsgR (wc.setCell ⟨X, 1, none⟩ (.int .i64 (-d))) (pollT 1 d) (.slice (some ⟨C1, 0, none⟩) 1 1) zV zV) := Lib.hid ⟨pE_of (hS.blk HLW.out.c1 (blk_ne HLW.out.c1 HLW.out.x (by decide))), sl_nil _, sl_nil _, by first | exact Nat.zero_le _ | (show 1 ≤ maxLen; decide)⟩
          have HSt : Hid (Step No w (wc.setCell ⟨X, 1, none⟩ (.int .i64 (-d)))) := Lib.hid (mx_step HLW.out.step hS HLW.out.ge.1)
          have HNo := Lib.hid (no_pollT 1 d hd0)
          have HRn : Hid (ParMay.RngN (pollT 1 d).tree.nodes) := Lib.hid (fun x hx => by cases hx)
          clear hx hS
          go_wp2
          go_meet
          exact Lib.hid ⟨_, _, _, _, HXm.out, HMr.out, HRn.out, HNo.out, HSt.out⟩
        ·
          have a := blk_cell HLW.out.x 2
          have f := blk_free HLW.out.x 2
          simp [msgCells, pollM, noTree, ba, zV] at a
          have hx := blk_set HLW.out.x 2 (.int .i64 (-d))
          have hS : Step (fun j => j = X) wc (wc.setCell ⟨X, 2, none⟩ (.int .i64 (-d))) := by refine set_at (Step.refl _ _) ?_ _ <;> rfl
          have HXm : Hid ((wc.setCell ⟨X, 2, none⟩ (.int .i64 (-d))).heap[X]? = some (.cells (msgCells (pollT 2 d) (.slice (some ⟨C1, 0, none⟩) 1 1) zV zV) TM (0, 0))) := Lib.hid hx
          have HMr : Hid (MsgR (wc.setCell ⟨X, 2, none⟩ (.int .i64 (-d))) (pollT 2 d) (.slice (some ⟨C1, 0, none⟩) 1 1) zV zV) := Lib.hid ⟨pE_of (hS.blk HLW.out.c1 (blk_ne HLW.out.c1 HLW.out.x (by decide))), sl_nil _, sl_nil _, by first | exact Nat.zero_le _ | (show 1 ≤ maxLen; decide)⟩
          have HSt : Hid (Step No w (wc.setCell ⟨X, 2, none⟩ (.int .i64 (-d)))) := Lib.hid (mx_step HLW.out.step hS HLW.out.ge.1)
          have HNo := Lib.hid (no_pollT 2 d hd0)
          have HRn : Hid (ParMay.RngN (pollT 2 d).tree.nodes) := Lib.hid (fun x hx => by cases hx)
          clear hx hS
          go_wp2
          go_meet
          exact Lib.hid ⟨_, _, _, _, HXm.out, HMr.out, HRn.out, HNo.out, HSt.out⟩
        ·
          have a := blk_cell HLW.out.x 2
          have f := blk_free HLW.out.x 2
          simp [msgCells, pollM, noTree, ba, zV] at a
          have hx := blk_set HLW.out.x 2 (.int .i64 (4096 + d))
          have hS : Step (fun j => j = X) wc (wc.setCell ⟨X, 2, none⟩ (.int .i64 (4096 + d))) := by refine set_at (Step.refl _ _) ?_ _ <;> rfl
          have HXm : Hid ((wc.setCell ⟨X, 2, none⟩ (.int .i64 (4096 + d))).heap[X]? = some (.cells (msgCells (pollT 3 d) (.slice (some ⟨C1, 0, none⟩) 1 1) zV zV) TM (0, 0))) := Lib.hid hx
          have HMr : Hid (MsgR (wc.setCell ⟨X, 2, none⟩ (.int .i64 (4096 + d))) (pollT 3 d) (.slice (some ⟨C1, 0, none⟩) 1 1) zV zV) := Lib.hid ⟨pE_of (hS.blk HLW.out.c1 (blk_ne HLW.out.c1 HLW.out.x (by decide))), sl_nil _, sl_nil _, by first | exact Nat.zero_le _ | (show 1 ≤ maxLen; decide)⟩
          have HSt : Hid (Step No w (wc.setCell ⟨X, 2, none⟩ (.int .i64 (4096 + d)))) := Lib.hid (mx_step HLW.out.step hS HLW.out.ge.1)
          have HNo := Lib.hid (no_pollT 3 d hd0)
          have HRn : Hid (ParMay.RngN (pollT 3 d).tree.nodes) := Lib.hid (fun x hx => by cases hx)
          clear hx hS
          go_wp2
          go_meet
          exact Lib.hid ⟨_, _, _, _, HXm.out, HMr.out, HRn.out, HNo.out, HSt.out⟩
        ·
          have a := blk_cell HLW.out.x 3
          have f := blk_free HLW.out.x 3
          simp [msgCells, pollM, noTree, ba, zV] at a
          have hx := blk_set HLW.out.x 3 (.int .i64 0)
          have hS : Step (fun j => j = X) wc (wc.setCell ⟨X, 3, none⟩ (.int .i64 0)) := by refine set_at (Step.refl _ _) ?_ _ <;> rfl
          have HXm : Hid ((wc.setCell ⟨X, 3, none⟩ (.int .i64 0)).heap[X]? = some (.cells (msgCells (pollT 4 d) (.slice (some ⟨C1, 0, none⟩) 1 1) zV zV) TM (0, 0))) := Lib.hid hx
          have HMr : Hid (MsgR (wc.setCell ⟨X, 3, none⟩ (.int .i64 0)) (pollT 4 d) (.slice (some ⟨C1, 0, none⟩) 1 1) zV zV) := Lib.hid ⟨pE_of (hS.blk HLW.out.c1 (blk_ne HLW.out.c1 HLW.out.x (by decide))), sl_nil _, sl_nil _, by first | exact Nat.zero_le _ | (show 1 ≤ maxLen; decide)⟩
          have HSt : Hid (Step No w (wc.setCell ⟨X, 3, none⟩ (.int .i64 0))) := Lib.hid (mx_step HLW.out.step hS HLW.out.ge.1)
          have HNo := Lib.hid (no_pollT 4 d hd0)
          have HRn : Hid (ParMay.RngN (pollT 4 d).tree.nodes) := Lib.hid (fun x hx => by cases hx)
          clear hx hS
          go_wp2
          go_meet
          exact Lib.hid ⟨_, _, _, _, HXm.out, HMr.out, HRn.out, HNo.out, HSt.out⟩
        ·
          have a := blk_cell HLW.out.x 3
          have f := blk_free HLW.out.x 3
          simp [msgCells, pollM, noTree, ba, zV] at a
          have hx := blk_set HLW.out.x 3 (.int .i64 (4096 + d))
          have hS : Step (fun j => j = X) wc (wc.setCell ⟨X, 3, none⟩ (.int .i64 (4096 + d))) := by refine set_at (Step.refl _ _) ?_ _ <;> rfl
          have HXm : Hid ((wc.setCell ⟨X, 3, none⟩ (.int .i64 (4096 + d))).heap[X]? = some (.cells (msgCells (pollT 5 d) (.slice (some ⟨C1, 0, none⟩) 1 1) zV zV) TM (0, 0))) := Lib.hid hx
          have HMr : Hid (MsgR (wc.setCell ⟨X, 3, none⟩ (.int .i64 (4096 + d))) (pollT 5 d) (.slice (some ⟨C1, 0, none⟩) 1 1) zV zV) := Lib.hid ⟨pE_of (hS.blk HLW.out.c1 (blk_ne HLW.out.c1 HLW.out.x (by decide))), sl_nil _, sl_nil _, by first | exact Nat.zero_le _ | (show 1 ≤ maxLen; decide)⟩
          have HSt : Hid (Step No w (wc.setCell ⟨X, 3, none⟩ (.int .i64 (4096 + d)))) := Lib.hid (mx_step HLW.out.step hS HLW.out.ge.1)
          have HNo := Lib.hid (no_pollT 5 d hd0)
          have HRn : Hid (ParMay.RngN (pollT 5 d).tree.nodes) := Lib.hid (fun x hx => by cases hx)
          clear hx hS
          go_wp2
          go_meet
          exact Lib.hid ⟨_, _, _, _, HXm.out, HMr.out, HRn.out, HNo.out, HSt.out⟩
        ·
          have a := blk_cell HLW.out.x 4
          have f := blk_free HLW.out.x 4
          simp [msgCells, pollM, noTree, ba, zV] at a
          have hx := blk_set HLW.out.x 4 (.int .i64 d)
          have hS : Step (fun j => j = X) wc (wc.setCell ⟨X, 4, none⟩ (.int .i64 d)) := by refine set_at (Step.refl _ _) ?_ _ <;> rfl
          have HXm : Hid ((wc.setCell ⟨X, 4, none⟩ (.int .i64 d)).heap[X]? = some (.cells (msgCells (pollT 6 d) (.slice (some ⟨C1, 0, none⟩) 1 1) zV zV) TM (0, 0))) := Lib.hid hx
          have HMr : Hid (MsgR (wc.setCell ⟨X, 4, none⟩ (.int .i64 d)) (pollT 6 d) (.slice (some ⟨C1, 0, none⟩) 1 1) zV zV) := Lib.hid ⟨pE_of (hS.blk HLW.out.c1 (blk_ne HLW.out.c1 HLW.out.x (by decide))), sl_nil _, sl_nil _, by first | exact Nat.zero_le _ | (show 1 ≤ maxLen; decide)⟩
          have HSt : Hid (Step No w (wc.setCell ⟨X, 4, none⟩ (.int .i64 d))) := Lib.hid (mx_step HLW.out.step hS HLW.out.ge.1)
          have HNo := Lib.hid (no_pollT 6 d hd0)
          have HRn : Hid (ParMay.RngN (pollT 6 d).tree.nodes) := Lib.hid (fun x hx => by cases hx)
          clear hx hS
          go_wp2
          go_meet
          exact Lib.hid ⟨_, _, _, _, HXm.out, HMr.out, HRn.out, HNo.out, HSt.out⟩
        ·
          have a := blk_cell HLW.out.x 5
          have f := blk_free HLW.out.x 5
          simp [msgCells, pollM, noTree, ba, zV] at a
          have hx := blk_set HLW.out.x 5 (.int .i64 d)
          have hS : Step (fun j => j = X) wc (wc.setCell ⟨X, 5, none⟩ (.int .i64 d)) := by refine set_at (Step.refl _ _) ?_ _ <;> rfl
          have HXm : Hid ((wc.setCell ⟨X, 5, none⟩ (.int .i64 d)).heap[X]? = some (.cells (msgCells (pollT 7 d) (.slice (some ⟨C1, 0, none⟩) 1 1) zV zV) TM (0, 0))) := Lib.hid hx
          have HMr : Hid (MsgR (wc.setCell ⟨X, 5, none⟩ (.int .i64 d)) (pollT 7 d) (.slice (some ⟨C1, 0, none⟩) 1 1) zV zV) := Lib.hid ⟨pE_of (hS.blk HLW.out.c1 (blk_ne HLW.out.c1 HLW.out.x (by decide))), sl_nil _, sl_nil _, by first | exact Nat.zero_le _ | (show 1 ≤ maxLen; decide)⟩
          have HSt : Hid (Step No w (wc.setCell ⟨X, 5, none⟩ (.int .i64 d))) := Lib.hid (mx_step HLW.out.step hS HLW.out.ge.1)
          have HNo := Lib.hid (no_pollT 7 d hd0)
          have HRn : Hid (ParMay.RngN (pollT 7 d).tree.nodes) := Lib.hid (fun x hx => by cases hx)
          clear hx hS
          go_wp2
          go_meet
          exact Lib.hid ⟨_, _, _, _, HXm.out, HMr.out, HRn.out, HNo.out, HSt.out⟩
        ·
          have a := blk_cell HLW.out.x 6
          have f := blk_free HLW.out.x 6
          simp [msgCells, pollM, noTree, ba, zV] at a
          have hx := blk_set HLW.out.x 6 (.bool true)
          have hS : Step (fun j => j = X) wc (wc.setCell ⟨X, 6, none⟩ (.bool true)) := by refine set_at (Step.refl _ _) ?_ _ <;> rfl
          have HXm : Hid ((wc.setCell ⟨X, 6, none⟩ (.bool true)).heap[X]? = some (.cells (msgCells (pollT 8 d) (.slice (some ⟨C1, 0, none⟩) 1 1) zV zV) TM (0, 0))) := Lib.hid hx
          have HMr : Hid (MsgR (wc.setCell ⟨X, 6, none⟩ (.bool true)) (pollT 8 d) (.slice (some ⟨C1, 0, none⟩) 1 1) zV zV) := Lib.hid ⟨pE_of (hS.blk HLW.out.c1 (blk_ne HLW.out.c1 HLW.out.x (by decide))), sl_nil _, sl_nil _, by first | exact Nat.zero_le _ | (show 1 ≤ maxLen; decide)⟩
          have HSt : Hid (Step No w (wc.setCell ⟨X, 6, none⟩ (.bool true))) := Lib.hid (mx_step HLW.out.step hS HLW.out.ge.1)
          have HNo := Lib.hid (no_pollT 8 d hd0)
          have HRn : Hid (ParMay.RngN (pollT 8 d).tree.nodes) := Lib.hid (fun x hx => by cases hx)
          clear hx hS
          go_wp2
          go_meet
          exact Lib.hid ⟨_, _, _, _, HXm.out, HMr.out, HRn.out, HNo.out, HSt.out⟩
        ·
          have a := blk_cell HLW.out.x 9
          have f := blk_free HLW.out.x 9
          simp [msgCells, pollM, noTree, ba, zV] at a
          have hx := blk_set HLW.out.x 9 (.string ⟨#[97]⟩)
          have hS : Step (fun j => j = X) wc (wc.setCell ⟨X, 9, none⟩ (.string ⟨#[97]⟩)) := by refine set_at (Step.refl _ _) ?_ _ <;> rfl
          have HXm : Hid ((wc.setCell ⟨X, 9, none⟩ (.string ⟨#[97]⟩)).heap[X]? = some (.cells (msgCells (pollT 9 d) (.slice (some ⟨C1, 0, none⟩) 1 1) zV zV) TM (0, 0))) := Lib.hid hx
          have HMr : Hid (MsgR (wc.setCell ⟨X, 9, none⟩ (.string ⟨#[97]⟩)) (pollT 9 d) (.slice (some ⟨C1, 0, none⟩) 1 1) zV zV) := Lib.hid ⟨pE_of (hS.blk HLW.out.c1 (blk_ne HLW.out.c1 HLW.out.x (by decide))), sl_nil _, sl_nil _, by first | exact Nat.zero_le _ | (show 1 ≤ maxLen; decide)⟩
          have HSt : Hid (Step No w (wc.setCell ⟨X, 9, none⟩ (.string ⟨#[97]⟩))) := Lib.hid (mx_step HLW.out.step hS HLW.out.ge.1)
          have HNo := Lib.hid (no_pollT 9 d hd0)
          have HRn : Hid (ParMay.RngN (pollT 9 d).tree.nodes) := Lib.hid (fun x hx => by cases hx)
          clear hx hS
          go_wp2
          go_meet
          exact Lib.hid ⟨_, _, _, _, HXm.out, HMr.out, HRn.out, HNo.out, HSt.out⟩
        ·
          have a := blk_cell HLW.out.x 11
          have f := blk_free HLW.out.x 11
          simp [msgCells, pollM, noTree, ba, zV] at a
          have hx := blk_set HLW.out.x 11 (.int .i64 d)
          have hS : Step (fun j => j = X) wc (wc.setCell ⟨X, 11, none⟩ (.int .i64 d)) := by refine set_at (Step.refl _ _) ?_ _ <;> rfl
          have HXm : Hid ((wc.setCell ⟨X, 11, none⟩ (.int .i64 d)).heap[X]? = some (.cells (msgCells (pollT 10 d) (.slice (some ⟨C1, 0, none⟩) 1 1) zV zV) TM (0, 0))) := Lib.hid hx
          have HMr : Hid (MsgR (wc.setCell ⟨X, 11, none⟩ (.int .i64 d)) (pollT 10 d) (.slice (some ⟨C1, 0, none⟩) 1 1) zV zV) := Lib.hid ⟨pE_of (hS.blk HLW.out.c1 (blk_ne HLW.out.c1 HLW.out.x (by decide))), sl_nil _, sl_nil _, by first | exact Nat.zero_le _ | (show 1 ≤ maxLen; decide)⟩
          have HSt : Hid (Step No w (wc.setCell ⟨X, 11, none⟩ (.int .i64 d))) := Lib.hid (mx_step HLW.out.step hS HLW.out.ge.1)
          have HNo := Lib.hid (no_pollT 10 d hd0)
          have HRn : Hid (ParMay.RngN (pollT 10 d).tree.nodes) := Lib.hid (fun x hx => by cases hx)
          clear hx hS
          go_wp2
          go_meet
          exact Lib.hid ⟨_, _, _, _, HXm.out, HMr.out, HRn.out, HNo.out, HSt.out⟩
        ·
          have hC := blk_new wc (.cells #[.int .i64 0, .int .i64 1, .string ⟨#[]⟩, .int .i64 0, .int .i64 1, .string ⟨#[]⟩] TCo)
          have hs1' : Step No wc (wc.alloc (.cells #[.int .i64 0, .int .i64 1, .string ⟨#[]⟩, .int .i64 0, .int .i64 1, .string ⟨#[]⟩] TCo)) := (Step.refl No wc).alloc _
          have hx1 := hs1'.blk HLW.out.x (fun f => f)
          have a := blk_cell hx1 7
          have f := blk_free hx1 7
          simp [msgCells, pollM, noTree, ba, zV] at a
          have hx := blk_set hx1 7 (.slice (some ⟨wc.heap.size, 0, none⟩) 2 2)
          have hS : Step (fun j => j = X) (wc.alloc (.cells #[.int .i64 0, .int .i64 1, .string ⟨#[]⟩, .int .i64 0, .int .i64 1, .string ⟨#[]⟩] TCo)) ((wc.alloc (.cells #[.int .i64 0, .int .i64 1, .string ⟨#[]⟩, .int .i64 0, .int .i64 1, .string ⟨#[]⟩] TCo)).setCell ⟨X, 7, none⟩ (.slice (some ⟨wc.heap.size, 0, none⟩) 2 2)) := by refine set_at (Step.refl _ _) ?_ _ <;> rfl
          have HFn : Hid (Fin w X ((wc.alloc (.cells #[.int .i64 0, .int .i64 1, .string ⟨#[]⟩, .int .i64 0, .int .i64 1, .string ⟨#[]⟩] TCo)).setCell ⟨X, 7, none⟩ (.slice (some ⟨wc.heap.size, 0, none⟩) 2 2))) := Lib.hid ⟨pollT 11 d, .slice (some ⟨wc.heap.size, 0, none⟩) 2 2, zV, zV, hx, ⟨pE2_of (hS.blk hC (blk_ne hC hx1 (by decide))), sl_nil _, sl_nil _, Nat.zero_le _⟩, (fun x hx => by cases hx), no_pollT 11 d hd0, mx_step (HLW.out.step.trans hs1' (fun _ f _ => f)) hS HLW.out.ge.1⟩
          clear hx hS hC hs1' hx1
          go_wp2
          go_meet
          exact HFn
        ·
          have a := blk_cell HLW.out.x 0
          have f := blk_free HLW.out.x 0
          simp [msgCells, pollM, noTree, ba, zV] at a
          have hx := blk_set HLW.out.x 0 (.int .i64 (2 + d))
          have hS : Step (fun j => j = X) wc (wc.setCell ⟨X, 0, none⟩ (.int .i64 (2 + d))) := by refine set_at (Step.refl _ _) ?_ _ <;> rfl
          have HXm : Hid ((wc.setCell ⟨X, 0, none⟩ (.int .i64 (2 + d))).heap[X]? = some (.cells (msgCells (pollT 12 d) (.slice (some ⟨C1, 0, none⟩) 1 1) zV zV) TM (0, 0))) := Lib.hid hx
          have HMr : Hid (MsgR (wc.setCell ⟨X, 0, none⟩ (.int .i64 (2 + d))) (pollT 12 d) (.slice (some ⟨C1, 0, none⟩) 1 1) zV zV) := Lib.hid ⟨pE_of (hS.blk HLW.out.c1 (blk_ne HLW.out.c1 HLW.out.x (by decide))), sl_nil _, sl_nil _, by first | exact Nat.zero_le _ | (show 1 ≤ maxLen; decide)⟩
          have HSt : Hid (Step No w (wc.setCell ⟨X, 0, none⟩ (.int .i64 (2 + d)))) := Lib.hid (mx_step HLW.out.step hS HLW.out.ge.1)
          have HNo := Lib.hid (no_pollT 12 d hd0)
          have HRn : Hid (ParMay.RngN (pollT 12 d).tree.nodes) := Lib.hid (fun x hx => by cases hx)
          clear hx hS
          go_wp2
          go_meet
          exact Lib.hid ⟨_, _, _, _, HXm.out, HMr.out, HRn.out, HNo.out, HSt.out⟩
      case rest =>
        have HF := hcut
        clear hcut HLW
        obtain ⟨m, ev, env, nv', hxm, hmr, hrn, hno, hst⟩ := HF.out
        obtain ⟨A1, c1', rfl, -, -⟩ := comps_len hmr.edit
        obtain ⟨A2, c2', rfl, -, -⟩ := sl_len hmr.entries
        obtain ⟨A4, c4', rfl, -, -⟩ := nodes_len hmr.nodes
        have HXm := Lib.hid hxm
        have HMr := Lib.hid hmr
        have HRn := Lib.hid hrn
        have HNo := Lib.hid hno
        have HSt := Lib.hid hst
        obtain ⟨a0, a1, a2, a3, a4, a5, a6, a7, a8, a9, a10, a11, a12⟩ := cells13 hxm
        clear hxm hmr hrn hno hst HF
        go_wp2_with fail
        refine (put_any m _ _ _ _ HMr.out HRn.out (HE.out.step HSt.out)).mono ?_
        rintro e w12 ⟨hs12, hp⟩
        rcases hp with ⟨hp, -⟩ | ⟨-, rfl⟩
        · exact (no_put HNo.out hp).elim
        · have HXm2 := Lib.hid (hs12.blk HXm.out (fun f => f))
          have HMr2 := Lib.hid (HMr.out.to hs12)
          have HSt2 := Lib.hid (HSt.out.trans hs12 (fun _ f _ => f))
          clear a0 a1 a2 a3 a4 a5 a6 a7 a8 a9 a10 a11 a12 hs12 HXm HMr HSt
          obtain ⟨a0, a1, a2, a3, a4, a5, a6, a7, a8, a9, a10, a11, a12⟩ := cells13 HXm2.out
          go_wp2_with fail
          refine (may_any m _ _ _ w12 HMr2.out HRn.out).mono ?_
          rintro e w13 ⟨rfl, hs13⟩
          rw [HNo.out]
          have HSt3 := Lib.hid (HSt2.out.trans hs13 (fun _ f _ => f))
          clear a0 a1 a2 a3 a4 a5 a6 a7 a8 a9 a10 a11 a12 hs13 HXm2 HMr2 HSt2
          go_wp2_with fail
          refine (num_any _ _).mono ?_
          rintro e w' ⟨rfl, rfl⟩
          go_wp2
          go_ret
          exact ⟨rfl, HSt3.out⟩
    · have HF := Lib.hid hF
      clear HC hF
      have hk13 : ¬ k ≤ 12 := by omega
      go_upto_block 0 with (fail)
      go_cut [] (fun wx => Hid (Fin w X wx))
      case first =>
        have e0 : ((k : Int) == 0) = false := beq_eq_false_iff_ne.2 (by omega)
        have e1 : ((k : Int) == 1) = false := beq_eq_false_iff_ne.2 (by omega)
        have e2 : ((k : Int) == 2) = false := beq_eq_false_iff_ne.2 (by omega)
        have e3 : ((k : Int) == 3) = false := beq_eq_false_iff_ne.2 (by omega)
        have e4 : ((k : Int) == 4) = false := beq_eq_false_iff_ne.2 (by omega)
        have e5 : ((k : Int) == 5) = false := beq_eq_false_iff_ne.2 (by omega)
        have e6 : ((k : Int) == 6) = false := beq_eq_false_iff_ne.2 (by omega)
        have e7 : ((k : Int) == 7) = false := beq_eq_false_iff_ne.2 (by omega)
        have e8 : ((k : Int) == 8) = false := beq_eq_false_iff_ne.2 (by omega)
        have e9 : ((k : Int) == 9) = false := beq_eq_false_iff_ne.2 (by omega)
        have e10 : ((k : Int) == 10) = false := beq_eq_false_iff_ne.2 (by omega)
        have e11 : ((k : Int) == 11) = false := beq_eq_false_iff_ne.2 (by omega)
        have e12 : ((k : Int) == 12) = false := beq_eq_false_iff_ne.2 (by omega)
        go_wp2
        go_meet
        exact HF
      case rest =>
        clear HF
        have HF := hcut
        clear hcut
        obtain ⟨m, ev, env, nv', hxm, hmr, hrn, hno, hst⟩ := HF.out
        obtain ⟨A1, c1', rfl, -, -⟩ := comps_len hmr.edit
        obtain ⟨A2, c2', rfl, -, -⟩ := sl_len hmr.entries
        obtain ⟨A4, c4', rfl, -, -⟩ := nodes_len hmr.nodes
        have HXm := Lib.hid hxm
        have HMr := Lib.hid hmr
        have HRn := Lib.hid hrn
        have HNo := Lib.hid hno
        have HSt := Lib.hid hst
        obtain ⟨a0, a1, a2, a3, a4, a5, a6, a7, a8, a9, a10, a11, a12⟩ := cells13 hxm
        clear hxm hmr hrn hno hst HF
        go_wp2_with fail
        refine (put_any m _ _ _ _ HMr.out HRn.out (HE.out.step HSt.out)).mono ?_
        rintro e w12 ⟨hs12, hp⟩
        rcases hp with ⟨hp, -⟩ | ⟨-, rfl⟩
        · exact (no_put HNo.out hp).elim
        · have HXm2 := Lib.hid (hs12.blk HXm.out (fun f => f))
          have HMr2 := Lib.hid (HMr.out.to hs12)
          have HSt2 := Lib.hid (HSt.out.trans hs12 (fun _ f _ => f))
          clear a0 a1 a2 a3 a4 a5 a6 a7 a8 a9 a10 a11 a12 hs12 HXm HMr HSt
          obtain ⟨a0, a1, a2, a3, a4, a5, a6, a7, a8, a9, a10, a11, a12⟩ := cells13 HXm2.out
          go_wp2_with fail
          refine (may_any m _ _ _ w12 HMr2.out HRn.out).mono ?_
          rintro e w13 ⟨rfl, hs13⟩
          rw [HNo.out]
          have HSt3 := Lib.hid (HSt2.out.trans hs13 (fun _ f _ => f))
          clear a0 a1 a2 a3 a4 a5 a6 a7 a8 a9 a10 a11 a12 hs13 HXm2 HMr2 HSt2
          go_wp2_with fail
          refine (num_any _ _).mono ?_
          rintro e w' ⟨rfl, rfl⟩
          go_wp2
          go_ret
          exact ⟨rfl, HSt3.out⟩
end Go.Proofs.YtkamhpbfebdhjaaGreatDoor.PfL
