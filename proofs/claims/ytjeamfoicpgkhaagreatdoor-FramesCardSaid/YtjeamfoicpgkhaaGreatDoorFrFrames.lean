/- Frames: any message, any text: the program and the reference answer alike, and the message stays. -/
import Derived.Test.YtjeamfoicpgkhaaGreatDoorPkL
import Derived.Test.YtjeamfoicpgkhaaGreatDoorFrAwake
import Derived.Test.YtjeamfoicpgkhaaGreatDoorRefGetFr
import Derived.Test.YtjeamfoicpgkhaaGreatDoorRefGet
import Derived.Test.YtjeamfoicpgkhaaGreatDoorRefMsgMay
import Derived.Test.YtjeamfoicpgkhaaGreatDoorLumpK
namespace Go.Proofs.YtjeamfoicpgkhaaGreatDoor.FrFrames
open Go.RowKit Go.Lib Go.Proofs.YtjeamfoicpgkhaaGreatDoor.Mem Go.Proofs.YtjeamfoicpgkhaaGreatDoor.Read Go.Proofs.YtjeamfoicpgkhaaGreatDoor.Tree Go.Proofs.YtjeamfoicpgkhaaGreatDoor.Data Go.Proofs.YtjeamfoicpgkhaaGreatDoor.Env Go.Proofs.YtjeamfoicpgkhaaGreatDoor.Take Go.Proofs.YtjeamfoicpgkhaaGreatDoor.Pk Go.Proofs.YtjeamfoicpgkhaaGreatDoor.OwnR Go.Proofs.YtjeamfoicpgkhaaGreatDoor.MsgR Go.Proofs.YtjeamfoicpgkhaaGreatDoor.CompR Go.Proofs.YtjeamfoicpgkhaaGreatDoor.May Go.Proofs.YtjeamfoicpgkhaaGreatDoor.TakeM Go.Proofs.YtjeamfoicpgkhaaGreatDoor.Get Go.Proofs.YtjeamfoicpgkhaaGreatDoor.PkL Go.Proofs.YtjeamfoicpgkhaaGreatDoor.FrAwake Go.Proofs.YtjeamfoicpgkhaaGreatDoor.Fr Go.Proofs.YtjeamfoicpgkhaaGreatDoor.Frame Go.Proofs.YtjeamfoicpgkhaaGreatDoor.Same Go.Proofs.YtjeamfoicpgkhaaGreatDoor.C13 Go.Proofs.YtjeamfoicpgkhaaGreatDoor.Soft Go.Proofs.YtjeamfoicpgkhaaGreatDoor.Spoil Go.Proofs.YtjeamfoicpgkhaaGreatDoor.CopyM
open Go.Proofs.YtjeamfoicpgkhaaGreatDoor.RefPutFr (fput_ref)
open Go.Proofs.YtjeamfoicpgkhaaGreatDoor.RefGetFr (GetFrame_x FGetPostX)
open Go.Proofs.YtjeamfoicpgkhaaGreatDoor.RefGet (MayAll)
open Go.Proofs.YtjeamfoicpgkhaaGreatDoor.MayLen (putOk)
open Go.Proofs.YtjeamfoicpgkhaaGreatDoor.MsgOpen (Bnd)
set_option linter.unusedVariables false
set_option linter.unusedSimpArgs false
theorem may_all : MayAll := fun m ev env nv w hm hk => RefMsgMay.may_at m ev env nv w hm hk
theorem bnd_kids {m : MsgD} (h : Bnd m) : ∀ x ∈ m.tree.nodes, x.kids.length ≤ 140737488355328 := fun x hx => by
  have := h.nodes.2 x hx
  unfold MsgOpen.BndK at this
  omega
theorem put_pair {m : MsgD} {w w' u u' : World} {e e' : Ending} (h : FPutPost m w e w') (h' : FPutPost m u e' u') : ∃ (U : ByteArray) (E : Int), e = .returned (.tuple #[.string U, .int .i64 E]) ∧ e' = .returned (.tuple #[.string U, .int .i64 E]) := by
  rcases h.2 with ⟨a, rfl⟩ | ⟨a, rfl⟩ <;> rcases h'.2 with ⟨b, rfl⟩ | ⟨b, rfl⟩
  · exact ⟨_, _, rfl, rfl⟩
  · rw [a] at b; cases b
  · rw [a] at b; cases b
  · exact ⟨_, _, rfl, rfl⟩
theorem put_is {m : MsgD} {w w' : World} {e : Ending} (h : FPutPost m w e w') : ∃ (U : ByteArray) (E : Int), e = .returned (.tuple #[.string U, .int .i64 E]) ∧ Step No w w' ∧ Hid (∀ u u' e', FPutPost m u e' u' → e' = .returned (.tuple #[.string U, .int .i64 E])) := by
  obtain ⟨U, E, rfl, -⟩ := put_pair h h
  refine ⟨U, E, rfl, h.1, Lib.hid fun u u' e' h' => ?_⟩
  obtain ⟨U', E', h1, h2⟩ := put_pair h h'
  injection h1 with h1
  injection h1 with h1
  simp at h1
  obtain ⟨rfl, rfl⟩ := h1
  exact h2
theorem zW (base : Nat) (w : World) : MsgW base w zM zV zV zV := ⟨RowO.nil _, ⟨[], rfl, RowO.nil _⟩, ⟨[], rfl, RowO.nil _⟩, Nat.zero_le _⟩
theorem saysF_one {m k : MsgD} {l : List UInt8} (h : SaysF m l) (h' : SaysF k l) : m = k := saysP_one (l := putS m) ⟨h.1, rfl⟩ ⟨h'.1, Option.some.inj (h'.frame.symm.trans h.frame)⟩
/-- What both takers hand back. -/
theorem get_is {w w' : World} {l : List UInt8} {e : Ending} (h : FGetPost w l e w') : ∃ k ev env nv E, e = .returned (.tuple #[.agg (msgCells k ev env nv), .int .i64 E]) ∧ MsgW w.heap.size w' k ev env nv ∧ Step No w w' ∧ Hid (∀ u u' e', FGetPostX u l e' u' → ∃ ev' env' nv', e' = .returned (.tuple #[.agg (msgCells k ev' env' nv'), .int .i64 E]) ∧ MsgR u' k ev' env' nv' ∧ Step No u u') := by
  obtain ⟨hs, h⟩ := h
  rcases h with ⟨m, ev, env, nv, hm, rfl, hw⟩ | ⟨hno, rfl⟩
  · refine ⟨m, ev, env, nv, 0, rfl, hw, hs, Lib.hid fun u u' e' h' => ?_⟩
    rcases h'.2 with ⟨m', ev', env', nv', hm', rfl, hr⟩ | ⟨hno, -⟩
    · obtain rfl := saysF_one hm' hm
      exact ⟨_, _, _, rfl, hr, h'.1⟩
    · exact absurd hm (hno m)
  · refine ⟨zM, zV, zV, zV, 1800, rfl, zW _ _, hs, Lib.hid fun u u' e' h' => ?_⟩
    rcases h'.2 with ⟨m', ev', env', nv', hm', rfl, hr⟩ | ⟨-, rfl⟩
    · exact absurd hm' (hno m')
    · exact ⟨_, _, _, rfl, msg_reads (zW 0 _), h'.1⟩
set_option maxHeartbeats 16000000 in
set_option maxRecDepth 100000 in
theorem Frames_any (w : World) (m : MsgD) (ev env nv : Value) (l : List UInt8) (hl : l.length ≤ 140737488351232) (hm : MsgR w m ev env nv) (hr : ParMay.RngN m.tree.nodes) (hb : Bnd m) (hE : Env w) :
    Calls Tryz.prog 7 #[aggM m ev env nv, .string ⟨l.toArray⟩] w fun e w' => e = .returned (.bool true) ∧ Step No w w' := by
  obtain ⟨A1, n1, rfl, -, -⟩ := comps_len hm.edit
  obtain ⟨A2, n2, rfl, -, -⟩ := sl_len hm.entries
  obtain ⟨A3, n3, rfl, -, -⟩ := nodes_len hm.nodes
  have HA := Lib.hid hm
  have HRa := Lib.hid hr
  have HB := Lib.hid hb
  have HKd := Lib.hid (bnd_kids hb)
  have HE := Lib.hid hE
  clear hm hr hb hE
  obtain ⟨kd, cl, rv, sq, fm, ls, rf, es, en, tx, ⟨rt, nx, ns⟩⟩ := m
  unfold aggM msgCells
  simp only at *
  go_enter Tryz.func7, Tryz.ntmps7
  go_upto_region 1 with (fail)
  have hx := blk_new w (.cells #[.int .i64 kd, .int .i64 cl, .int .i64 rv, .int .i64 sq, .int .i64 fm, .int .i64 ls, .bool rf, .slice A1 es.length n1, .slice A2 en.length n2, .string tx, .int .i64 rt, .int .i64 nx, .slice A3 ns.length n3] TM)
  have hs1 : Step No w (w.alloc (.cells #[.int .i64 kd, .int .i64 cl, .int .i64 rv, .int .i64 sq, .int .i64 fm, .int .i64 ls, .bool rf, .slice A1 es.length n1, .slice A2 en.length n2, .string tx, .int .i64 rt, .int .i64 nx, .slice A3 ns.length n3] TM)) := (Step.refl No w).alloc _
  generalize hW : World.alloc w _ = w1 at *
  generalize w.heap.size = bA at *
  clear hW
  have HX1 := Lib.hid hx
  have HS1 := Lib.hid hs1
  clear hx hs1
  obtain ⟨a0, a1, a2, a3, a4, a5, a6, a7, a8, a9, a10, a11, a12⟩ := cells13 HX1.out
  go_wp2_with fail
  refine (CopyMsg_any w1 ⟨kd, cl, rv, sq, fm, ls, rf, es, en, tx, ⟨rt, nx, ns⟩⟩ _ _ _ (HA.out.to HS1.out) HB.out).mono ?_
  rintro e w2 ⟨v, rfl, ⟨ev1, env1, nv1, rfl, hr1⟩, hs2⟩
  obtain ⟨B1, m1, rfl, -, -⟩ := comps_len hr1.edit
  obtain ⟨B2, m2, rfl, -, -⟩ := sl_len hr1.entries
  obtain ⟨B3, m3, rfl, -, -⟩ := nodes_len hr1.nodes
  have hy := blk_new w2 (.cells #[.int .i64 kd, .int .i64 cl, .int .i64 rv, .int .i64 sq, .int .i64 fm, .int .i64 ls, .bool rf, .slice B1 es.length m1, .slice B2 en.length m2, .string tx, .int .i64 rt, .int .i64 nx, .slice B3 ns.length m3] TM)
  have hs3 : Step No w2 (w2.alloc (.cells #[.int .i64 kd, .int .i64 cl, .int .i64 rv, .int .i64 sq, .int .i64 fm, .int .i64 ls, .bool rf, .slice B1 es.length m1, .slice B2 en.length m2, .string tx, .int .i64 rt, .int .i64 nx, .slice B3 ns.length m3] TM)) := (Step.refl No w2).alloc _
  have hx2 := hs2.blk HX1.out (fun f => f)
  have HC2 := Lib.hid hr1
  have HS2 : Hid (Step No w w2) := Lib.hid (HS1.out.trans hs2 (fun _ f _ => f))
  clear a0 a1 a2 a3 a4 a5 a6 a7 a8 a9 a10 a11 a12 hs2 hr1 HX1 HS1
  unfold aggM msgCells
  simp only
  go_upto_region 2 with (fail)
  generalize hW : World.alloc w2 _ = w3 at *
  generalize w2.heap.size = bX at *
  clear hW
  have HX3 := Lib.hid (hs3.blk hx2 (fun f => f))
  have HY3 := Lib.hid hy
  have HC3 := Lib.hid (HC2.out.to hs3)
  have HS3 : Hid (Step No w w3) := Lib.hid (HS2.out.trans hs3 (fun _ f _ => f))
  clear hs3 hy hx2 HC2 HS2
  obtain ⟨a0, a1, a2, a3, a4, a5, a6, a7, a8, a9, a10, a11, a12⟩ := cells13 HY3.out
  go_wp2_with fail
  refine (fput_any ⟨kd, cl, rv, sq, fm, ls, rf, es, en, tx, ⟨rt, nx, ns⟩⟩ _ _ _ _ HC3.out HRa.out (HE.out.step HS3.out)).mono ?_
  rintro e w4 hp
  obtain ⟨U, E, rfl, hs4, HPu⟩ := put_is hp
  have HS34 := Lib.hid hs4
  have HX4 := Lib.hid (hs4.blk HX3.out (fun f => f))
  clear a0 a1 a2 a3 a4 a5 a6 a7 a8 a9 a10 a11 a12 hp hs4
  obtain ⟨a0, a1, a2, a3, a4, a5, a6, a7, a8, a9, a10, a11, a12⟩ := cells13 HX4.out
  go_wp2_with fail
  refine (fput_ref _ ⟨kd, cl, rv, sq, fm, ls, rf, es, en, tx, ⟨rt, nx, ns⟩⟩ _ _ _ (HA.out.to (HS3.out.trans HS34.out (fun _ f _ => f))) (may_all _ _ _ _ _ (HA.out.to (HS3.out.trans HS34.out (fun _ f _ => f))) HKd.out)).mono ?_
  rintro e w5 hp
  obtain rfl := HPu.out _ _ _ hp
  have HS35 : Hid (Step No w3 w5) := Lib.hid (HS34.out.trans hp.1 (fun _ f _ => f))
  clear a0 a1 a2 a3 a4 a5 a6 a7 a8 a9 a10 a11 a12 hp HX4 HS34 HPu
  go_wp2_with fail
  refine (fget_any _ l (by omega) (HE.out.step (HS3.out.trans HS35.out (fun _ f _ => f)))).mono ?_
  rintro e w6 hp
  obtain ⟨k, ev', env', nv', F, rfl, hw, hs6, HGe⟩ := get_is hp
  obtain ⟨⟨C1, o1, p1, rfl⟩, ⟨C2, o2, p2, rfl⟩, C3, o3, p3, rfl⟩ := hw.slices
  have HW6 := Lib.hid hw
  have HS36 : Hid (Step No w3 w6) := Lib.hid (HS35.out.trans hs6 (fun _ f _ => f))
  have HBs := Lib.hid HS35.out.size
  have HS56 := Lib.hid hs6
  clear hp hw hs6
  obtain ⟨kd2, cl2, rv2, sq2, fm2, ls2, rf2, es2, en2, tx2, ⟨rt2, nx2, ns2⟩⟩ := k
  simp only [msgCells]
  go_upto_region 5 with (fail)
  have hc := blk_new w6 (.cells #[.int .i64 kd2, .int .i64 cl2, .int .i64 rv2, .int .i64 sq2, .int .i64 fm2, .int .i64 ls2, .bool rf2, .slice C1 o1 p1, .slice C2 o2 p2, .string tx2, .int .i64 rt2, .int .i64 nx2, .slice C3 o3 p3] TM)
  have hs7 : Step No w6 (w6.alloc (.cells #[.int .i64 kd2, .int .i64 cl2, .int .i64 rv2, .int .i64 sq2, .int .i64 fm2, .int .i64 ls2, .bool rf2, .slice C1 o1 p1, .slice C2 o2 p2, .string tx2, .int .i64 rt2, .int .i64 nx2, .slice C3 o3 p3] TM)) := (Step.refl No w6).alloc _
  generalize hW : World.alloc w6 _ = w7 at *
  generalize w6.heap.size = bC at *
  clear hW
  have HC7 := Lib.hid hc
  have HW7 := Lib.hid (HW6.out.go hs7 (Types.no _ _ _))
  have HS57 : Hid (Step No w5 w7) := Lib.hid (HS56.out.trans hs7 (fun _ f _ => f))
  have HS37 : Hid (Step No w3 w7) := Lib.hid (HS36.out.trans hs7 (fun _ f _ => f))
  clear hc hs7 HW6 HS36
  go_wp2_with fail
  refine (GetFrame_x may_all ⟨l.toArray⟩ (by show l.length ≤ _; omega) _).mono ?_
  rintro e w8 hp
  obtain ⟨ev9, env9, nv9, rfl, hr9, hs8⟩ := HGe.out _ _ _ hp
  obtain ⟨D1, q1, rfl, -, -⟩ := comps_len hr9.edit
  obtain ⟨D2, q2, rfl, -, -⟩ := sl_len hr9.entries
  obtain ⟨D3, q3, rfl, -, -⟩ := nodes_len hr9.nodes
  have HD8 := Lib.hid hr9
  have HC8 := Lib.hid (hs8.blk HC7.out (fun f => f))
  have HW8 := Lib.hid (HW7.out.go hs8 (Types.no _ _ _))
  have HS58 : Hid (Step No w5 w8) := Lib.hid (HS57.out.trans hs8 (fun _ f _ => f))
  have HS38 : Hid (Step No w3 w8) := Lib.hid (HS37.out.trans hs8 (fun _ f _ => f))
  clear hp hr9 hs8 HGe HC7 HW7 HS37
  simp only [msgCells]
  go_upto_region 6 with (fail)
  have hd := blk_new w8 (.cells #[.int .i64 kd2, .int .i64 cl2, .int .i64 rv2, .int .i64 sq2, .int .i64 fm2, .int .i64 ls2, .bool rf2, .slice D1 es2.length q1, .slice D2 en2.length q2, .string tx2, .int .i64 rt2, .int .i64 nx2, .slice D3 ns2.length q3] TM)
  have hs9 : Step No w8 (w8.alloc (.cells #[.int .i64 kd2, .int .i64 cl2, .int .i64 rv2, .int .i64 sq2, .int .i64 fm2, .int .i64 ls2, .bool rf2, .slice D1 es2.length q1, .slice D2 en2.length q2, .string tx2, .int .i64 rt2, .int .i64 nx2, .slice D3 ns2.length q3] TM)) := (Step.refl No w8).alloc _
  generalize hW : World.alloc w8 _ = w9 at *
  generalize w8.heap.size = bD at *
  clear hW
  have HD9 := Lib.hid hd
  have HDr := Lib.hid (HD8.out.to hs9)
  have HC9 := Lib.hid (hs9.blk HC8.out (fun f => f))
  have HW9 := Lib.hid (HW8.out.go hs9 (Types.no _ _ _))
  have HS59 : Hid (Step No w5 w9) := Lib.hid (HS58.out.trans hs9 (fun _ f _ => f))
  have HS39 : Hid (Step No w3 w9) := Lib.hid (HS38.out.trans hs9 (fun _ f _ => f))
  have HX9 := Lib.hid (HS39.out.blk HX3.out (fun f => f))
  have HY9 := Lib.hid (HS39.out.blk HY3.out (fun f => f))
  clear hd hs9 HD8 HC8 HW8 HS38
  have HCr := Lib.hid (msg_reads HW9.out)
  have HXr := Lib.hid (HC3.out.to HS39.out)
  have HAr := Lib.hid (HA.out.to (HS3.out.trans HS39.out (fun _ f _ => f)))
  have hUU : (U.toList == U.toList) = true := beq_self_eq_true _
  have hUn : (U.toList != U.toList) = false := bne_self_eq_false _
  have hEn : (E != E) = false := bne_self_eq_false _
  have hFn : (F != F) = false := bne_self_eq_false _
  obtain ⟨c0, c1, c2, c3, c4, c5, c6, c7, c8, c9, c10, c11, c12⟩ := cells13 (HC9.out)
  obtain ⟨d0, d1, d2, d3, d4, d5, d6, d7, d8, d9, d10, d11, d12⟩ := cells13 (HD9.out)
  go_wp2_with fail
  refine (num_any _ _).mono ?_
  rintro e w' ⟨rfl, rfl⟩
  go_wp2_with fail
  refine (SameMsg_any _ ⟨kd2, cl2, rv2, sq2, fm2, ls2, rf2, es2, en2, tx2, ⟨rt2, nx2, ns2⟩⟩ ⟨kd2, cl2, rv2, sq2, fm2, ls2, rf2, es2, en2, tx2, ⟨rt2, nx2, ns2⟩⟩ _ _ _ _ _ _ HCr.out HDr.out).mono ?_
  rintro e w10 ⟨rr, rfl, hrr, hs10⟩
  obtain rfl : rr = true := hrr.2 rfl
  clear hrr c0 c1 c2 c3 c4 c5 c6 c7 c8 c9 c10 c11 c12 d0 d1 d2 d3 d4 d5 d6 d7 d8 d9 d10 d11 d12
  go_wp2_with fail
  refine (num_any _ _).mono ?_
  rintro e w' ⟨rfl, rfl⟩
  have HW10 := Lib.hid (HW9.out.go hs10 (Types.no _ _ _))
  have HC10 := Lib.hid (hs10.blk HC9.out (fun f => f))
  have HS310 : Hid (Step No w3 w10) := Lib.hid (HS39.out.trans hs10 (fun _ f _ => f))
  have hle : w5.heap.size ≤ w10.heap.size := Nat.le_trans HS59.out.size hs10.size
  have hsh := sh_msg HW10.out
  have HSh := Lib.hid hsh
  have HLe := Lib.hid hle
  clear hs10 hsh hle HC9 HW9 HS39 HD9 HX9 HY9 HCr HXr HAr HDr hUU hUn hEn hFn
  obtain ⟨c0, c1, c2, c3, c4, c5, c6, c7, c8, c9, c10, c11, c12⟩ := cells13 (HC10.out)
  go_wp2_with fail
  refine (SpoilMsg_any w5.heap.size _ ⟨kd2, cl2, rv2, sq2, fm2, ls2, rf2, es2, en2, tx2, ⟨rt2, nx2, ns2⟩⟩ _ _ _ HLe.out HSh.out.1 HSh.out.2.1 HSh.out.2.2).mono ?_
  rintro e w11 ⟨rfl, hsp⟩
  have HS311 : Hid (Step No w3 w11) := Lib.hid (HS310.out.trans hsp.2 (fun i hi hlt => absurd hlt (by have := HBs.out; omega)))
  clear hsp c0 c1 c2 c3 c4 c5 c6 c7 c8 c9 c10 c11 c12 HC10 HSh HLe HW10 HS310
  obtain ⟨x0, x1, x2, x3, x4, x5, x6, x7, x8, x9, x10, x11, x12⟩ := cells13 (HS311.out.blk HY3.out (fun f => f))
  obtain ⟨y0, y1, y2, y3, y4, y5, y6, y7, y8, y9, y10, y11, y12⟩ := cells13 (HS311.out.blk HX3.out (fun f => f))
  go_wp2_with fail
  refine (SameMsg_any w11 ⟨kd, cl, rv, sq, fm, ls, rf, es, en, tx, ⟨rt, nx, ns⟩⟩ ⟨kd, cl, rv, sq, fm, ls, rf, es, en, tx, ⟨rt, nx, ns⟩⟩ _ _ _ _ _ _ (HC3.out.to HS311.out) (HA.out.to (HS3.out.trans HS311.out (fun _ f _ => f)))).mono ?_
  rintro e w12 ⟨rr, rfl, hrr, hs12⟩
  obtain rfl : rr = true := hrr.2 rfl
  have HS12 : Hid (Step No w w12) := Lib.hid ((HS3.out.trans HS311.out (fun _ f _ => f)).trans hs12 (fun _ f _ => f))
  clear hrr hs12 x0 x1 x2 x3 x4 x5 x6 x7 x8 x9 x10 x11 x12 y0 y1 y2 y3 y4 y5 y6 y7 y8 y9 y10 y11 y12
  go_wp2_with fail
  refine (awake_any _ (HE.out.step HS12.out)).mono ?_
  rintro e w13 ⟨rfl, hs13⟩
  have HS13 : Hid (Step No w w13) := Lib.hid (HS12.out.trans hs13 (fun _ f _ => f))
  clear hs13
  go_wp2
  go_ret
  exact ⟨rfl, HS13.out⟩
end Go.Proofs.YtjeamfoicpgkhaaGreatDoor.FrFrames
