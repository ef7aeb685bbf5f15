/- A message, taken from a text. -/
import Derived.Test.YtkamhpbfebdhjaaGreatDoorLumpT
namespace Go.Proofs.YtkamhpbfebdhjaaGreatDoor.TakeM
open Go.RowKit Go.Lib Go.Proofs.YtkamhpbfebdhjaaGreatDoor.Mem Go.Proofs.YtkamhpbfebdhjaaGreatDoor.Read Go.Proofs.YtkamhpbfebdhjaaGreatDoor.Tree Go.Proofs.YtkamhpbfebdhjaaGreatDoor.Data Go.Proofs.YtkamhpbfebdhjaaGreatDoor.Env Go.Proofs.YtkamhpbfebdhjaaGreatDoor.Take Go.Proofs.YtkamhpbfebdhjaaGreatDoor.Taker Go.Proofs.YtkamhpbfebdhjaaGreatDoor.Pk Go.Proofs.YtkamhpbfebdhjaaGreatDoor.PkR Go.Proofs.YtkamhpbfebdhjaaGreatDoor.OwnR Go.Proofs.YtkamhpbfebdhjaaGreatDoor.Each Go.Proofs.YtkamhpbfebdhjaaGreatDoor.EachS Go.Proofs.YtkamhpbfebdhjaaGreatDoor.MsgR Go.Proofs.YtkamhpbfebdhjaaGreatDoor.CompR Go.Proofs.YtkamhpbfebdhjaaGreatDoor.TakeE
open Go.Proofs.YtkamhpbfebdhjaaGreatDoor.Writer (EnvS)
open Go.Proofs.YtkamhpbfebdhjaaGreatDoor.TakeS (TS)
set_option linter.unusedVariables false
set_option linter.unusedSimpArgs false
abbrev TM : TypeId := 33
theorem tM : TM ≠ TT := by decide
theorem index_find (b : UInt8) : ∀ l : List UInt8, indexByte l b = (l.findIdx? (· == b)).elim (-1) (fun i => (i : Int))
  | [] => rfl
  | c :: l => by
    rw [List.findIdx?_cons]
    by_cases h : (c == b) = true
    · simp [indexByte, h]
    · have hb : (c == b) = false := by simpa using h
      have ih := index_find b l
      cases hf : l.findIdx? (· == b) with
      | none => rw [hf] at ih; simp [indexByte, hb, ih]
      | some k =>
        rw [hf] at ih
        have hk : ((k : Int) == -1) = false := beq_eq_false_iff_ne.2 (by omega)
        simp [indexByte, hb, ih, hk]
theorem kind_find : ∀ b : UInt8, (([80, 67, 83] : List UInt8).findIdx? (· == b)).elim (-1) (fun i => (i : Int)) = kindOf b := by
  intro b
  unfold kindOf
  by_cases h0 : b = 80
  · subst h0; decide
  by_cases h1 : b = 67
  · subst h1; decide
  by_cases h2 : b = 83
  · subst h2; decide
  have e0 : ((80 : UInt8) == b) = false := beq_eq_false_iff_ne.2 (fun e => h0 e.symm)
  have e1 : ((67 : UInt8) == b) = false := beq_eq_false_iff_ne.2 (fun e => h1 e.symm)
  have e2 : ((83 : UInt8) == b) = false := beq_eq_false_iff_ne.2 (fun e => h2 e.symm)
  simp [List.findIdx?_cons, e0, e1, e2, h0, h1, h2]
theorem idx_any (c : UInt8) (w : World) : Calls Tryz.prog 55 #[.string ⟨#[80, 67, 83]⟩, .int .u8 c.toNat] w fun e w' => e = .returned (.int .i64 (kindOf c)) ∧ w = w' := by
  refine (Tryz.strings_IndexByte _ _ _).mono ?_
  rintro e w' ⟨rfl, rfl⟩
  refine ⟨?_, rfl⟩
  rw [← kind_find, ← index_find]
  simp
theorem kind_cases (c : UInt8) : kindOf c = 0 ∨ kindOf c = 1 ∨ kindOf c = 2 ∨ kindOf c = -1 := by
  unfold kindOf
  split
  · exact .inl rfl
  · split
    · exact .inr (.inl rfl)
    · split
      · exact .inr (.inr (.inl rfl))
      · exact .inr (.inr (.inr rfl))
theorem msg0 {st s0 s1 s2 s3 s4 : St} {c : UInt8} {x1 x2 x3 : Int} {cs : List CompD} (h0 : byteR st = (c, s0)) (hk : kindOf c = 0) (h1 : digR 44 s0 = (x1, s1)) (h2 : digR 44 s1 = (x2, s2)) (h3 : digR 44 s2 = (x3, s3)) (h4 : eachR takeC s3 = (cs, s4)) : takeM st = (⟨0, x1, x2, x3, 0, 0, false, cs, [], ba [], noTree⟩, s4) := by
  simp [takeM, numR, h0, hk, h1, h2, h3, h4]
theorem msg1 {st s0 s1 s2 s3 : St} {c : UInt8} {x1 x2 : Int} {es : List EntryD} (h0 : byteR st = (c, s0)) (hk : kindOf c = 1) (h1 : digR 44 s0 = (x1, s1)) (h2 : digR 44 s1 = (x2, s2)) (h4 : eachR takeE s2 = (es, s3)) : takeM st = (⟨1, x1, x2, 0, 0, 0, false, [], es, ba [], noTree⟩, s3) := by
  simp [takeM, numR, h0, hk, h1, h2, h4]
theorem msg2 {st s0 s1 s2 s3 s4 s5 s6 s7 s8 s9 s10 : St} {c : UInt8} {x1 x2 x3 x4 x5 x6 x8 x9 : Int} {t : List UInt8} {ns : List NodeD} (h0 : byteR st = (c, s0)) (hk : kindOf c = 2) (h1 : digR 44 s0 = (x1, s1)) (h2 : digR 44 s1 = (x2, s2)) (h3 : digR 44 s2 = (x3, s3)) (h4 : digR 44 s3 = (x4, s4)) (h5 : digR 44 s4 = (x5, s5)) (h6 : digR 44 s5 = (x6, s6)) (h7 : Take.strR s6 = (t, s7)) (h8 : digR 44 s7 = (x8, s8)) (h9 : digR 44 s8 = (x9, s9)) (h10 : eachR takeN s9 = (ns, s10)) :
    takeM st = (⟨2, x1, x2, x3, x4, x5, x6 == 1, [], [], ba t, ⟨x8, x9, ns⟩⟩, s10) := by
  simp [takeM, numR, h0, hk, h1, h2, h3, h4, h5, h6, h7, h8, h9, h10]
theorem msg3 {st s0 s1 s2 : St} {c : UInt8} {x1 x2 : Int} (h0 : byteR st = (c, s0)) (hk : kindOf c = -1) (h1 : digR 44 s0 = (x1, s1)) (h2 : digR 44 s1 = (x2, s2)) : takeM st = (⟨-1, x1, x2, 0, 0, 0, false, [], [], ba [], noTree⟩, s2) := by
  simp [takeM, numR, h0, hk, h1, h2]
theorem str_text (st : St) : (Take.strR st).1.length ≤ st.1.length := by
  unfold Take.strR
  simp only
  split
  · simp
  · rw [List.length_take]
    have : (digR 58 st).2.1.length ≤ st.1.length := by
      unfold digR
      cases hc : Dec.cutAt 58 st.1 with
      | none => exact Nat.le_refl _
      | some p =>
        have := cut_len hc
        simp only
        split
        · split
          · exact Nat.le_refl _
          · simp only; omega
        · exact Nat.le_refl _
    omega
theorem entries_slice {base : Nat} {w : World} {xs : List (EntryD × Value × Value)} {v : Value} (h : EntriesW base w xs v) : ∃ A n c, v = .slice A n c := by obtain ⟨A, c, e, _⟩ := row_slice h.1; exact ⟨A, _, c, e⟩
theorem nodes_slice {base : Nat} {w : World} {xs : List (NodeD × Value)} {v : Value} (h : NodesW base w xs v) : ∃ A n c, v = .slice A n c := by obtain ⟨A, c, e, _⟩ := row_slice h.1; exact ⟨A, _, c, e⟩
theorem entries_base {base base' : Nat} {w : World} {xs : List (EntryD × Value × Value)} {v : Value} (h : EntriesW base w xs v) (hb : base' ≤ base) : EntriesW base' w xs v := ⟨h.1, fun k hk => Nat.le_trans hb (h.2.1 k hk), fun a ha => (h.2.2 a ha).base hb⟩
theorem nodes_base {base base' : Nat} {w : World} {xs : List (NodeD × Value)} {v : Value} (h : NodesW base w xs v) (hb : base' ≤ base) : NodesW base' w xs v := ⟨h.1, fun k hk => Nat.le_trans hb (h.2.1 k hk), fun a ha => ints_base (h.2.2 a ha) hb⟩
theorem entries_go {base : Nat} {F : Nat → Prop} {w w' : World} {xs : List (EntryD × Value × Value)} {v : Value} (h : EntriesW base w xs v) (hs : Step F w w') (hF : Types (fun t => t ≠ TE ∧ t ≠ TC ∧ t ≠ TS ∧ t ≠ TI) base w F) : EntriesW base w' xs v := RowO.step (stabE base) h hs hF
theorem nodes_go {base : Nat} {F : Nat → Prop} {w w' : World} {xs : List (NodeD × Value)} {v : Value} (h : NodesW base w xs v) (hs : Step F w w') (hF : Types (fun t => t ≠ TN ∧ t ≠ TI) base w F) : NodesW base w' xs v := RowO.step (stabN base) h hs (hF.mono fun _ h => ⟨h.1, h.2, trivial⟩)
/-- What hangs on a message of one's own. -/
structure MsgW (base : Nat) (w : World) (m : MsgD) (ev env nv : Value) : Prop where
  edit : CompsW base w m.edit ev
  entries : ∃ es : List (EntryD × Value × Value), es.map (·.1) = m.entries ∧ EntriesW base w es env
  nodes : ∃ ns : List (NodeD × Value), ns.map (·.1) = m.tree.nodes ∧ NodesW base w ns nv
  text : m.text.size ≤ maxLen
theorem MsgW.slices {base : Nat} {w : World} {m : MsgD} {ev env nv : Value} (h : MsgW base w m ev env nv) : (∃ A n c, ev = .slice A n c) ∧ (∃ A n c, env = .slice A n c) ∧ ∃ A n c, nv = .slice A n c := by
  obtain ⟨h1, ⟨es, _, h2⟩, ⟨ns, _, h3⟩, _⟩ := h
  exact ⟨comps_slice h1, entries_slice h2, nodes_slice h3⟩
theorem MsgW.go {base : Nat} {F : Nat → Prop} {w w' : World} {m : MsgD} {ev env nv : Value} (h : MsgW base w m ev env nv) (hs : Step F w w') (hF : Types (fun t => t ≠ TE ∧ t ≠ TC ∧ t ≠ TS ∧ t ≠ TI ∧ t ≠ TN) base w F) : MsgW base w' m ev env nv := by
  obtain ⟨h1, ⟨es, e2, h2⟩, ⟨ns, e3, h3⟩, h4⟩ := h
  exact ⟨comps_go h1 hs (hF.mono fun _ h => h.2.1), ⟨es, e2, entries_go h2 hs (hF.mono fun _ h => ⟨h.1, h.2.1, h.2.2.1, h.2.2.2.1⟩)⟩, ⟨ns, e3, nodes_go h3 hs (hF.mono fun _ h => ⟨h.2.2.2.2, h.2.2.2.1⟩)⟩, h4⟩
def MsgPost (w : World) (b : Nat) (st : St) (e : Ending) (w' : World) : Prop := ∃ m ev env nv st', takeM st = (m, st') ∧ e = .returned (.agg (msgCells m ev env nv)) ∧ MsgW w.heap.size w' m ev env nv ∧ TK w b st' w'
def mZ : Array Value := #[.int .i64 0, .int .i64 0, .int .i64 0, .int .i64 0, .int .i64 0, .int .i64 0, .bool false, .slice none 0 0, .slice none 0 0, .string ⟨#[]⟩, .int .i64 0, .int .i64 0, .slice none 0 0]
theorem zero_rows (base : Nat) (w : World) : CompsW base w [] (.slice none 0 0) ∧ EntriesW base w [] (.slice none 0 0) ∧ NodesW base w [] (.slice none 0 0) := ⟨RowO.nil _, RowO.nil _, RowO.nil _⟩
theorem ba_len (l : List UInt8) : (ba l).size = l.length := rfl
set_option maxHeartbeats 16000000 in
set_option maxRecDepth 100000 in
theorem message_any (w : World) (b : Nat) (st : St) (h : TRep w b st) (hE : EnvS (fun k => k = b) w) : Calls Tryz.prog 35 #[.pointer (some ⟨b, 0, none⟩)] w (MsgPost w b st) := by
  have hs1 : Step No w (w.alloc (.cells mZ TM)) := Step.alloc (Step.refl _ _) _
  have HT := Lib.hid ((TK.start h).no hs1)
  have HR1 : Hid ((w.alloc (.cells mZ TM)).heap[w.heap.size]? = some (.cells mZ TM (0, 0))) := Lib.hid (blk_new _ _)
  have HE := Lib.hid hE
  have HLt : Hid (st.1.length ≤ maxLen) := Lib.hid (by have := h.2; unfold maxLen; omega)
  clear hE h hs1
  simp only [mZ] at HT HR1
  go_enter Tryz.func35, Tryz.ntmps35
  go_wp2_with fail
  generalize hW : World.alloc w _ = w1 at *
  clear hW
  generalize hr : w.heap.size = r at *
  have HRz := Lib.hid hr
  clear hr
  obtain ⟨c, s0, hc⟩ : ∃ c s', byteR st = (c, s') := ⟨_, _, rfl⟩
  have D0 := Lib.hid hc
  refine (Byte_any _ b st HT.out.1).mono ?_
  rintro e w2 hp
  obtain ⟨rfl, ht2⟩ := HT.out.next hp
  have HR2 := Lib.hid (res_at HR1.out HT.out.blk (by decide) hp.2.2)
  rw [hc] at ht2 ⊢
  simp only at ht2 ⊢
  have HT2 := Lib.hid ht2
  clear hp ht2 hc HT HR1
  go_wp2_with fail
  refine (idx_any c _).mono ?_
  rintro e w' ⟨rfl, rfl⟩
  obtain ⟨kd, hkd⟩ : ∃ kd, kindOf c = kd := ⟨_, rfl⟩
  have HK := Lib.hid hkd
  have hkk := kind_cases c
  rw [hkd] at hkk ⊢
  clear hkd
  have HB := Lib.hid (EB.born (cs := #[.int .i64 kd, .int .i64 0, .int .i64 0, .int .i64 0, .int .i64 0, .int .i64 0, .bool false, .slice none 0 0, .slice none 0 0, .string ⟨#[]⟩, .int .i64 0, .int .i64 0, .slice none 0 0]) tM HR2.out HT2.out (by rw [HRz.out]; exact Nat.le_refl _))
  clear HR2 HT2
  go_wp2_with fail
  generalize hW : World.alloc w2 _ = w3 at *
  generalize hs : w2.heap.size = s at *
  clear hW hs
  obtain ⟨x1, s1, hx1⟩ : ∃ x s', digR 44 s0 = (x, s') := ⟨_, _, rfl⟩
  have Dx1 := Lib.hid hx1
  refine (Num_any _ b s0 HB.out.tk.1 (HE.out _ HB.out.tk.2)).mono ?_
  rintro e wn hp
  obtain ⟨rfl, ht⟩ := (TK.start HB.out.tk.1).next hp
  rw [hx1] at ht ⊢
  simp only at ht ⊢
  have HX := Lib.hid (HB.out.next tM ht)
  clear hp ht HB hx1
  have HB := Lib.hid (HX.out.store tM 1 (.int .i64 x1))
  have d := blk_cell HX.out.own 1
  have f := blk_free HX.out.own 1
  simp at d HB
  clear HX
  go_wp2_with fail
  generalize hW : World.setCell wn _ _ = w4 at *; clear hW d f
  obtain ⟨x2, s2, hx2⟩ : ∃ x s', digR 44 s1 = (x, s') := ⟨_, _, rfl⟩
  have Dx2 := Lib.hid hx2
  refine (Num_any _ b s1 HB.out.tk.1 (HE.out _ HB.out.tk.2)).mono ?_
  rintro e wn hp
  obtain ⟨rfl, ht⟩ := (TK.start HB.out.tk.1).next hp
  rw [hx2] at ht ⊢
  simp only at ht ⊢
  have HX := Lib.hid (HB.out.next tM ht)
  clear hp ht HB hx2
  have HB := Lib.hid (HX.out.store tM 2 (.int .i64 x2))
  have d := blk_cell HX.out.own 2
  have f := blk_free HX.out.own 2
  simp at d HB
  clear HX
  skip
  skip
  have d0 := blk_cell HB.out.own 0
  simp at d0
  rcases hkk with rfl | rfl | rfl | rfl
  ·
    go_wp2_with fail
    generalize hW : World.setCell wn _ _ = w5 at *; clear hW d f
    clear d0
    obtain ⟨x3, s3, hx3⟩ : ∃ x s', digR 44 s2 = (x, s') := ⟨_, _, rfl⟩
    have Dx3 := Lib.hid hx3
    refine (Num_any _ b s2 HB.out.tk.1 (HE.out _ HB.out.tk.2)).mono ?_
    rintro e wn hp
    obtain ⟨rfl, ht⟩ := (TK.start HB.out.tk.1).next hp
    rw [hx3] at ht ⊢
    simp only at ht ⊢
    have HX := Lib.hid (HB.out.next tM ht)
    clear hp ht HB hx3
    have HB := Lib.hid (HX.out.store tM 3 (.int .i64 x3))
    have d := blk_cell HX.out.own 3
    have f := blk_free HX.out.own 3
    simp at d HB
    clear HX
    go_wp2_with fail
    generalize hW : World.setCell wn _ _ = w6 at *; clear hW d f
    obtain ⟨cs, s4, hcs⟩ : ∃ x s', eachR takeC s3 = (x, s') := ⟨_, _, rfl⟩
    have Dcs := Lib.hid hcs
    refine (eachComp_any _ b s3 HB.out.tk.1 (fun w' hs => HE.out w' (HB.out.tk.2.trans hs (fun _ f _ => f)))).mono ?_
    rintro e wn ⟨rv, xs, rfl, hxs, hrow, ht⟩
    rw [hcs] at ht hxs
    simp only at ht hxs
    try rw [List.map_id] at hxs
    have HXS := Lib.hid hxs
    have HX := Lib.hid (HB.out.next tM ht)
    have HR := Lib.hid (comps_base hrow HB.out.tk.2.size)
    obtain ⟨A6, n6, c6, rfl⟩ := comps_slice hrow
    clear HB hrow ht hxs hcs
    have HB := Lib.hid (HX.out.store tM 7 (.slice A6 n6 c6))
    have HR2 := Lib.hid (comps_go HR.out (w' := wn.setCell ⟨s, 7, none⟩ (.slice A6 n6 c6)) (F := fun k => k = s) (by refine set_at (Step.refl _ _) ?_ _ <;> rfl) (HX.out.types (by decide)))
    have d := blk_cell HX.out.own 7
    have f := blk_free HX.out.own 7
    simp at d HB
    have HD := Lib.hid (HB.out.done tM [.int .i64 0, .int .i64 x1, .int .i64 x2, .int .i64 x3, .int .i64 0, .int .i64 0, .bool false, .slice A6 n6 c6, .slice none 0 0, .string ⟨#[]⟩, .int .i64 0, .int .i64 0, .slice none 0 0] rfl)
    have HR3 := Lib.hid (comps_go HR2.out HD.out.2.2 (Types.at HB.out.res (by decide)))
    clear HX HR HR2
    have g0 := blk_cell HB.out.own 0
    have k0 := blk_cell HB.out.res 0
    have y0 := blk_free HB.out.res 0
    have g1 := blk_cell HB.out.own 1
    have k1 := blk_cell HB.out.res 1
    have y1 := blk_free HB.out.res 1
    have g2 := blk_cell HB.out.own 2
    have k2 := blk_cell HB.out.res 2
    have y2 := blk_free HB.out.res 2
    have g3 := blk_cell HB.out.own 3
    have k3 := blk_cell HB.out.res 3
    have y3 := blk_free HB.out.res 3
    have g4 := blk_cell HB.out.own 4
    have k4 := blk_cell HB.out.res 4
    have y4 := blk_free HB.out.res 4
    have g5 := blk_cell HB.out.own 5
    have k5 := blk_cell HB.out.res 5
    have y5 := blk_free HB.out.res 5
    have g6 := blk_cell HB.out.own 6
    have k6 := blk_cell HB.out.res 6
    have y6 := blk_free HB.out.res 6
    have g7 := blk_cell HB.out.own 7
    have k7 := blk_cell HB.out.res 7
    have y7 := blk_free HB.out.res 7
    have g8 := blk_cell HB.out.own 8
    have k8 := blk_cell HB.out.res 8
    have y8 := blk_free HB.out.res 8
    have g9 := blk_cell HB.out.own 9
    have k9 := blk_cell HB.out.res 9
    have y9 := blk_free HB.out.res 9
    have g10 := blk_cell HB.out.own 10
    have k10 := blk_cell HB.out.res 10
    have y10 := blk_free HB.out.res 10
    have g11 := blk_cell HB.out.own 11
    have k11 := blk_cell HB.out.res 11
    have y11 := blk_free HB.out.res 11
    have g12 := blk_cell HB.out.own 12
    have k12 := blk_cell HB.out.res 12
    have y12 := blk_free HB.out.res 12
    simp at g0 k0 g1 k1 g2 k2 g3 k3 g4 k4 g5 k5 g6 k6 g7 k7 g8 k8 g9 k9 g10 k10 g11 k11 g12 k12
    obtain ⟨-, -, hne⟩ := HB.out.rs
    have hne2 : ¬ s = r := fun e => hne e.symm
    simp only [sets, Nat.reduceAdd] at HD HR3
    clear HB
    go_wp2
    generalize hW : World.setCell (World.setCell (World.setCell (World.setCell (World.setCell (World.setCell (World.setCell (World.setCell (World.setCell (World.setCell (World.setCell (World.setCell (World.setCell _ ⟨r, 0, none⟩ _) ⟨r, 1, none⟩ _) ⟨r, 2, none⟩ _) ⟨r, 3, none⟩ _) ⟨r, 4, none⟩ _) ⟨r, 5, none⟩ _) ⟨r, 6, none⟩ _) ⟨r, 7, none⟩ _) ⟨r, 8, none⟩ _) ⟨r, 9, none⟩ _) ⟨r, 10, none⟩ _) ⟨r, 11, none⟩ _) ⟨r, 12, none⟩ _ = W at *
    clear hW
    have r0 := blk_cell HD.out.1 0
    have r1 := blk_cell HD.out.1 1
    have r2 := blk_cell HD.out.1 2
    have r3 := blk_cell HD.out.1 3
    have r4 := blk_cell HD.out.1 4
    have r5 := blk_cell HD.out.1 5
    have r6 := blk_cell HD.out.1 6
    have r7 := blk_cell HD.out.1 7
    have r8 := blk_cell HD.out.1 8
    have r9 := blk_cell HD.out.1 9
    have r10 := blk_cell HD.out.1 10
    have r11 := blk_cell HD.out.1 11
    have r12 := blk_cell HD.out.1 12
    simp at r0 r1 r2 r3 r4 r5 r6 r7 r8 r9 r10 r11 r12
    exact bodyPost_ret (by simp [results, Tryz.results35, go_sem, r0, r1, r2, r3, r4, r5, r6, r7, r8, r9, r10, r11, r12]; rfl) rfl (⟨_, _, _, _, _, msg0 D0.out HK.out Dx1.out Dx2.out Dx3.out Dcs.out, rfl, ⟨by have := HR3.out; rw [HXS.out] at this; exact this, ⟨[], rfl, RowO.nil _⟩, ⟨[], rfl, RowO.nil _⟩, Nat.zero_le _⟩, HD.out.2.1⟩)
  ·
    go_wp2_with fail
    generalize hW : World.setCell wn _ _ = w5 at *; clear hW d f
    clear d0
    obtain ⟨es, s3, hes⟩ : ∃ x s', eachR takeE s2 = (x, s') := ⟨_, _, rfl⟩
    have Des := Lib.hid hes
    refine (eachEntry_any _ b s2 HB.out.tk.1 (fun w' hs => HE.out w' (HB.out.tk.2.trans hs (fun _ f _ => f)))).mono ?_
    rintro e wn ⟨rv, xs, rfl, hxs, hrow, ht⟩
    rw [hes] at ht hxs
    simp only at ht hxs
    try rw [List.map_id] at hxs
    have HXS := Lib.hid hxs
    have HX := Lib.hid (HB.out.next tM ht)
    have HR := Lib.hid (entries_base hrow HB.out.tk.2.size)
    obtain ⟨A6, n6, c6, rfl⟩ := entries_slice hrow
    clear HB hrow ht hxs hes
    have HB := Lib.hid (HX.out.store tM 8 (.slice A6 n6 c6))
    have HR2 := Lib.hid (entries_go HR.out (w' := wn.setCell ⟨s, 8, none⟩ (.slice A6 n6 c6)) (F := fun k => k = s) (by refine set_at (Step.refl _ _) ?_ _ <;> rfl) (HX.out.types (by decide)))
    have d := blk_cell HX.out.own 8
    have f := blk_free HX.out.own 8
    simp at d HB
    have HD := Lib.hid (HB.out.done tM [.int .i64 1, .int .i64 x1, .int .i64 x2, .int .i64 0, .int .i64 0, .int .i64 0, .bool false, .slice none 0 0, .slice A6 n6 c6, .string ⟨#[]⟩, .int .i64 0, .int .i64 0, .slice none 0 0] rfl)
    have HR3 := Lib.hid (entries_go HR2.out HD.out.2.2 (Types.at HB.out.res (by decide)))
    clear HX HR HR2
    have g0 := blk_cell HB.out.own 0
    have k0 := blk_cell HB.out.res 0
    have y0 := blk_free HB.out.res 0
    have g1 := blk_cell HB.out.own 1
    have k1 := blk_cell HB.out.res 1
    have y1 := blk_free HB.out.res 1
    have g2 := blk_cell HB.out.own 2
    have k2 := blk_cell HB.out.res 2
    have y2 := blk_free HB.out.res 2
    have g3 := blk_cell HB.out.own 3
    have k3 := blk_cell HB.out.res 3
    have y3 := blk_free HB.out.res 3
    have g4 := blk_cell HB.out.own 4
    have k4 := blk_cell HB.out.res 4
    have y4 := blk_free HB.out.res 4
    have g5 := blk_cell HB.out.own 5
    have k5 := blk_cell HB.out.res 5
    have y5 := blk_free HB.out.res 5
    have g6 := blk_cell HB.out.own 6
    have k6 := blk_cell HB.out.res 6
    have y6 := blk_free HB.out.res 6
    have g7 := blk_cell HB.out.own 7
    have k7 := blk_cell HB.out.res 7
    have y7 := blk_free HB.out.res 7
    have g8 := blk_cell HB.out.own 8
    have k8 := blk_cell HB.out.res 8
    have y8 := blk_free HB.out.res 8
    have g9 := blk_cell HB.out.own 9
    have k9 := blk_cell HB.out.res 9
    have y9 := blk_free HB.out.res 9
    have g10 := blk_cell HB.out.own 10
    have k10 := blk_cell HB.out.res 10
    have y10 := blk_free HB.out.res 10
    have g11 := blk_cell HB.out.own 11
    have k11 := blk_cell HB.out.res 11
    have y11 := blk_free HB.out.res 11
    have g12 := blk_cell HB.out.own 12
    have k12 := blk_cell HB.out.res 12
    have y12 := blk_free HB.out.res 12
    simp at g0 k0 g1 k1 g2 k2 g3 k3 g4 k4 g5 k5 g6 k6 g7 k7 g8 k8 g9 k9 g10 k10 g11 k11 g12 k12
    obtain ⟨-, -, hne⟩ := HB.out.rs
    have hne2 : ¬ s = r := fun e => hne e.symm
    simp only [sets, Nat.reduceAdd] at HD HR3
    clear HB
    go_wp2
    generalize hW : World.setCell (World.setCell (World.setCell (World.setCell (World.setCell (World.setCell (World.setCell (World.setCell (World.setCell (World.setCell (World.setCell (World.setCell (World.setCell _ ⟨r, 0, none⟩ _) ⟨r, 1, none⟩ _) ⟨r, 2, none⟩ _) ⟨r, 3, none⟩ _) ⟨r, 4, none⟩ _) ⟨r, 5, none⟩ _) ⟨r, 6, none⟩ _) ⟨r, 7, none⟩ _) ⟨r, 8, none⟩ _) ⟨r, 9, none⟩ _) ⟨r, 10, none⟩ _) ⟨r, 11, none⟩ _) ⟨r, 12, none⟩ _ = W at *
    clear hW
    have r0 := blk_cell HD.out.1 0
    have r1 := blk_cell HD.out.1 1
    have r2 := blk_cell HD.out.1 2
    have r3 := blk_cell HD.out.1 3
    have r4 := blk_cell HD.out.1 4
    have r5 := blk_cell HD.out.1 5
    have r6 := blk_cell HD.out.1 6
    have r7 := blk_cell HD.out.1 7
    have r8 := blk_cell HD.out.1 8
    have r9 := blk_cell HD.out.1 9
    have r10 := blk_cell HD.out.1 10
    have r11 := blk_cell HD.out.1 11
    have r12 := blk_cell HD.out.1 12
    simp at r0 r1 r2 r3 r4 r5 r6 r7 r8 r9 r10 r11 r12
    exact bodyPost_ret (by simp [results, Tryz.results35, go_sem, r0, r1, r2, r3, r4, r5, r6, r7, r8, r9, r10, r11, r12]; rfl) rfl (⟨_, _, _, _, _, msg1 D0.out HK.out Dx1.out Dx2.out Des.out, rfl, ⟨RowO.nil _, ⟨xs, HXS.out, HR3.out⟩, ⟨[], rfl, RowO.nil _⟩, Nat.zero_le _⟩, HD.out.2.1⟩)
  ·
    go_wp2_with fail
    generalize hW : World.setCell wn _ _ = w5 at *; clear hW d f
    clear d0
    obtain ⟨x3, s3, hx3⟩ : ∃ x s', digR 44 s2 = (x, s') := ⟨_, _, rfl⟩
    have Dx3 := Lib.hid hx3
    refine (Num_any _ b s2 HB.out.tk.1 (HE.out _ HB.out.tk.2)).mono ?_
    rintro e wn hp
    obtain ⟨rfl, ht⟩ := (TK.start HB.out.tk.1).next hp
    rw [hx3] at ht ⊢
    simp only at ht ⊢
    have HX := Lib.hid (HB.out.next tM ht)
    clear hp ht HB hx3
    have HB := Lib.hid (HX.out.store tM 3 (.int .i64 x3))
    have d := blk_cell HX.out.own 3
    have f := blk_free HX.out.own 3
    simp at d HB
    clear HX
    go_wp2_with fail
    generalize hW : World.setCell wn _ _ = w6 at *; clear hW d f
    obtain ⟨x4, s4, hx4⟩ : ∃ x s', digR 44 s3 = (x, s') := ⟨_, _, rfl⟩
    have Dx4 := Lib.hid hx4
    refine (Num_any _ b s3 HB.out.tk.1 (HE.out _ HB.out.tk.2)).mono ?_
    rintro e wn hp
    obtain ⟨rfl, ht⟩ := (TK.start HB.out.tk.1).next hp
    rw [hx4] at ht ⊢
    simp only at ht ⊢
    have HX := Lib.hid (HB.out.next tM ht)
    clear hp ht HB hx4
    have HB := Lib.hid (HX.out.store tM 4 (.int .i64 x4))
    have d := blk_cell HX.out.own 4
    have f := blk_free HX.out.own 4
    simp at d HB
    clear HX
    go_wp2_with fail
    generalize hW : World.setCell wn _ _ = w7 at *; clear hW d f
    obtain ⟨x5, s5, hx5⟩ : ∃ x s', digR 44 s4 = (x, s') := ⟨_, _, rfl⟩
    have Dx5 := Lib.hid hx5
    refine (Num_any _ b s4 HB.out.tk.1 (HE.out _ HB.out.tk.2)).mono ?_
    rintro e wn hp
    obtain ⟨rfl, ht⟩ := (TK.start HB.out.tk.1).next hp
    rw [hx5] at ht ⊢
    simp only at ht ⊢
    have HX := Lib.hid (HB.out.next tM ht)
    clear hp ht HB hx5
    have HB := Lib.hid (HX.out.store tM 5 (.int .i64 x5))
    have d := blk_cell HX.out.own 5
    have f := blk_free HX.out.own 5
    simp at d HB
    clear HX
    go_wp2_with fail
    generalize hW : World.setCell wn _ _ = w8 at *; clear hW d f
    obtain ⟨x6, s6, hx6⟩ : ∃ x s', digR 44 s5 = (x, s') := ⟨_, _, rfl⟩
    have Dx6 := Lib.hid hx6
    refine (Num_any _ b s5 HB.out.tk.1 (HE.out _ HB.out.tk.2)).mono ?_
    rintro e wn hp
    obtain ⟨rfl, ht⟩ := (TK.start HB.out.tk.1).next hp
    rw [hx6] at ht ⊢
    simp only at ht ⊢
    have HX := Lib.hid (HB.out.next tM ht)
    clear hp ht HB hx6
    have HB := Lib.hid (HX.out.store tM 6 (.bool (x6 == 1)))
    have d := blk_cell HX.out.own 6
    have f := blk_free HX.out.own 6
    simp at d HB
    clear HX
    go_wp2_with fail
    generalize hW : World.setCell wn _ _ = w9 at *; clear hW d f
    obtain ⟨t, s7, ht7⟩ : ∃ x s', Take.strR s6 = (x, s') := ⟨_, _, rfl⟩
    have Dt := Lib.hid ht7
    have HTx : Hid (t.length ≤ maxLen) := Lib.hid (by have h1 := str_text s6; rw [ht7] at h1; have h2 := HB.out.tk.1.2; simp only at h1; unfold maxLen; omega)
    refine (Str_any _ b s6 HB.out.tk.1 (HE.out _ HB.out.tk.2)).mono ?_
    rintro e wn hp
    obtain ⟨rfl, ht⟩ := (TK.start HB.out.tk.1).next hp
    rw [ht7] at ht ⊢
    simp only at ht ⊢
    have HX := Lib.hid (HB.out.next tM ht)
    clear hp ht HB ht7
    have HB := Lib.hid (HX.out.store tM 9 (.string ⟨t.toArray⟩))
    have d := blk_cell HX.out.own 9
    have f := blk_free HX.out.own 9
    simp at d HB
    clear HX
    go_wp2_with fail
    generalize hW : World.setCell wn _ _ = w10 at *
    clear hW d f
    obtain ⟨x8, s8, hx8⟩ : ∃ x s', digR 44 s7 = (x, s') := ⟨_, _, rfl⟩
    have Dx8 := Lib.hid hx8
    refine (Num_any _ b s7 HB.out.tk.1 (HE.out _ HB.out.tk.2)).mono ?_
    rintro e wn hp
    obtain ⟨rfl, ht⟩ := (TK.start HB.out.tk.1).next hp
    rw [hx8] at ht ⊢
    simp only at ht ⊢
    have HX := Lib.hid (HB.out.next tM ht)
    clear hp ht HB hx8
    have HB := Lib.hid (HX.out.store tM 10 (.int .i64 x8))
    have d := blk_cell HX.out.own 10
    have f := blk_free HX.out.own 10
    simp at d HB
    clear HX
    go_wp2_with fail
    generalize hW : World.setCell wn _ _ = w11 at *; clear hW d f
    obtain ⟨x9, s9, hx9⟩ : ∃ x s', digR 44 s8 = (x, s') := ⟨_, _, rfl⟩
    have Dx9 := Lib.hid hx9
    refine (Num_any _ b s8 HB.out.tk.1 (HE.out _ HB.out.tk.2)).mono ?_
    rintro e wn hp
    obtain ⟨rfl, ht⟩ := (TK.start HB.out.tk.1).next hp
    rw [hx9] at ht ⊢
    simp only at ht ⊢
    have HX := Lib.hid (HB.out.next tM ht)
    clear hp ht HB hx9
    have HB := Lib.hid (HX.out.store tM 11 (.int .i64 x9))
    have d := blk_cell HX.out.own 11
    have f := blk_free HX.out.own 11
    simp at d HB
    clear HX
    go_wp2_with fail
    generalize hW : World.setCell wn _ _ = w12 at *; clear hW d f
    obtain ⟨ns, s10, hns⟩ : ∃ x s', eachR takeN s9 = (x, s') := ⟨_, _, rfl⟩
    have Dns := Lib.hid hns
    refine (eachNode_any _ b s9 HB.out.tk.1 (fun w' hs => HE.out w' (HB.out.tk.2.trans hs (fun _ f _ => f)))).mono ?_
    rintro e wn ⟨rv, xs, rfl, hxs, hrow, ht⟩
    rw [hns] at ht hxs
    simp only at ht hxs
    try rw [List.map_id] at hxs
    have HXS := Lib.hid hxs
    have HX := Lib.hid (HB.out.next tM ht)
    have HR := Lib.hid (nodes_base hrow HB.out.tk.2.size)
    obtain ⟨A6, n6, c6, rfl⟩ := nodes_slice hrow
    clear HB hrow ht hxs hns
    have HB := Lib.hid (HX.out.store tM 12 (.slice A6 n6 c6))
    have HR2 := Lib.hid (nodes_go HR.out (w' := wn.setCell ⟨s, 12, none⟩ (.slice A6 n6 c6)) (F := fun k => k = s) (by refine set_at (Step.refl _ _) ?_ _ <;> rfl) (HX.out.types (by decide)))
    have d := blk_cell HX.out.own 12
    have f := blk_free HX.out.own 12
    simp at d HB
    have HD := Lib.hid (HB.out.done tM [.int .i64 2, .int .i64 x1, .int .i64 x2, .int .i64 x3, .int .i64 x4, .int .i64 x5, .bool (x6 == 1), .slice none 0 0, .slice none 0 0, .string ⟨t.toArray⟩, .int .i64 x8, .int .i64 x9, .slice A6 n6 c6] rfl)
    have HR3 := Lib.hid (nodes_go HR2.out HD.out.2.2 (Types.at HB.out.res (by decide)))
    clear HX HR HR2
    have g0 := blk_cell HB.out.own 0
    have k0 := blk_cell HB.out.res 0
    have y0 := blk_free HB.out.res 0
    have g1 := blk_cell HB.out.own 1
    have k1 := blk_cell HB.out.res 1
    have y1 := blk_free HB.out.res 1
    have g2 := blk_cell HB.out.own 2
    have k2 := blk_cell HB.out.res 2
    have y2 := blk_free HB.out.res 2
    have g3 := blk_cell HB.out.own 3
    have k3 := blk_cell HB.out.res 3
    have y3 := blk_free HB.out.res 3
    have g4 := blk_cell HB.out.own 4
    have k4 := blk_cell HB.out.res 4
    have y4 := blk_free HB.out.res 4
    have g5 := blk_cell HB.out.own 5
    have k5 := blk_cell HB.out.res 5
    have y5 := blk_free HB.out.res 5
    have g6 := blk_cell HB.out.own 6
    have k6 := blk_cell HB.out.res 6
    have y6 := blk_free HB.out.res 6
    have g7 := blk_cell HB.out.own 7
    have k7 := blk_cell HB.out.res 7
    have y7 := blk_free HB.out.res 7
    have g8 := blk_cell HB.out.own 8
    have k8 := blk_cell HB.out.res 8
    have y8 := blk_free HB.out.res 8
    have g9 := blk_cell HB.out.own 9
    have k9 := blk_cell HB.out.res 9
    have y9 := blk_free HB.out.res 9
    have g10 := blk_cell HB.out.own 10
    have k10 := blk_cell HB.out.res 10
    have y10 := blk_free HB.out.res 10
    have g11 := blk_cell HB.out.own 11
    have k11 := blk_cell HB.out.res 11
    have y11 := blk_free HB.out.res 11
    have g12 := blk_cell HB.out.own 12
    have k12 := blk_cell HB.out.res 12
    have y12 := blk_free HB.out.res 12
    simp at g0 k0 g1 k1 g2 k2 g3 k3 g4 k4 g5 k5 g6 k6 g7 k7 g8 k8 g9 k9 g10 k10 g11 k11 g12 k12
    obtain ⟨-, -, hne⟩ := HB.out.rs
    have hne2 : ¬ s = r := fun e => hne e.symm
    simp only [sets, Nat.reduceAdd] at HD HR3
    clear HB
    go_wp2
    generalize hW : World.setCell (World.setCell (World.setCell (World.setCell (World.setCell (World.setCell (World.setCell (World.setCell (World.setCell (World.setCell (World.setCell (World.setCell (World.setCell _ ⟨r, 0, none⟩ _) ⟨r, 1, none⟩ _) ⟨r, 2, none⟩ _) ⟨r, 3, none⟩ _) ⟨r, 4, none⟩ _) ⟨r, 5, none⟩ _) ⟨r, 6, none⟩ _) ⟨r, 7, none⟩ _) ⟨r, 8, none⟩ _) ⟨r, 9, none⟩ _) ⟨r, 10, none⟩ _) ⟨r, 11, none⟩ _) ⟨r, 12, none⟩ _ = W at *
    clear hW
    have r0 := blk_cell HD.out.1 0
    have r1 := blk_cell HD.out.1 1
    have r2 := blk_cell HD.out.1 2
    have r3 := blk_cell HD.out.1 3
    have r4 := blk_cell HD.out.1 4
    have r5 := blk_cell HD.out.1 5
    have r6 := blk_cell HD.out.1 6
    have r7 := blk_cell HD.out.1 7
    have r8 := blk_cell HD.out.1 8
    have r9 := blk_cell HD.out.1 9
    have r10 := blk_cell HD.out.1 10
    have r11 := blk_cell HD.out.1 11
    have r12 := blk_cell HD.out.1 12
    simp at r0 r1 r2 r3 r4 r5 r6 r7 r8 r9 r10 r11 r12
    exact bodyPost_ret (by simp [results, Tryz.results35, go_sem, r0, r1, r2, r3, r4, r5, r6, r7, r8, r9, r10, r11, r12]; rfl) rfl (⟨_, _, _, _, _, msg2 D0.out HK.out Dx1.out Dx2.out Dx3.out Dx4.out Dx5.out Dx6.out Dt.out Dx8.out Dx9.out Dns.out, rfl, ⟨RowO.nil _, ⟨[], rfl, RowO.nil _⟩, ⟨xs, HXS.out, HR3.out⟩, HTx.out⟩, HD.out.2.1⟩)
  ·
    have HD := Lib.hid (HB.out.done tM [.int .i64 (-1), .int .i64 x1, .int .i64 x2, .int .i64 0, .int .i64 0, .int .i64 0, .bool false, .slice none 0 0, .slice none 0 0, .string ⟨#[]⟩, .int .i64 0, .int .i64 0, .slice none 0 0] rfl)
    have HR3 : Hid True := Lib.hid trivial
    clear d0
    have g0 := blk_cell HB.out.own 0
    have k0 := blk_cell HB.out.res 0
    have y0 := blk_free HB.out.res 0
    have g1 := blk_cell HB.out.own 1
    have k1 := blk_cell HB.out.res 1
    have y1 := blk_free HB.out.res 1
    have g2 := blk_cell HB.out.own 2
    have k2 := blk_cell HB.out.res 2
    have y2 := blk_free HB.out.res 2
    have g3 := blk_cell HB.out.own 3
    have k3 := blk_cell HB.out.res 3
    have y3 := blk_free HB.out.res 3
    have g4 := blk_cell HB.out.own 4
    have k4 := blk_cell HB.out.res 4
    have y4 := blk_free HB.out.res 4
    have g5 := blk_cell HB.out.own 5
    have k5 := blk_cell HB.out.res 5
    have y5 := blk_free HB.out.res 5
    have g6 := blk_cell HB.out.own 6
    have k6 := blk_cell HB.out.res 6
    have y6 := blk_free HB.out.res 6
    have g7 := blk_cell HB.out.own 7
    have k7 := blk_cell HB.out.res 7
    have y7 := blk_free HB.out.res 7
    have g8 := blk_cell HB.out.own 8
    have k8 := blk_cell HB.out.res 8
    have y8 := blk_free HB.out.res 8
    have g9 := blk_cell HB.out.own 9
    have k9 := blk_cell HB.out.res 9
    have y9 := blk_free HB.out.res 9
    have g10 := blk_cell HB.out.own 10
    have k10 := blk_cell HB.out.res 10
    have y10 := blk_free HB.out.res 10
    have g11 := blk_cell HB.out.own 11
    have k11 := blk_cell HB.out.res 11
    have y11 := blk_free HB.out.res 11
    have g12 := blk_cell HB.out.own 12
    have k12 := blk_cell HB.out.res 12
    have y12 := blk_free HB.out.res 12
    simp at g0 k0 g1 k1 g2 k2 g3 k3 g4 k4 g5 k5 g6 k6 g7 k7 g8 k8 g9 k9 g10 k10 g11 k11 g12 k12
    obtain ⟨-, -, hne⟩ := HB.out.rs
    have hne2 : ¬ s = r := fun e => hne e.symm
    simp only [sets, Nat.reduceAdd] at HD HR3
    clear HB
    go_wp2
    generalize hW : World.setCell (World.setCell (World.setCell (World.setCell (World.setCell (World.setCell (World.setCell (World.setCell (World.setCell (World.setCell (World.setCell (World.setCell (World.setCell _ ⟨r, 0, none⟩ _) ⟨r, 1, none⟩ _) ⟨r, 2, none⟩ _) ⟨r, 3, none⟩ _) ⟨r, 4, none⟩ _) ⟨r, 5, none⟩ _) ⟨r, 6, none⟩ _) ⟨r, 7, none⟩ _) ⟨r, 8, none⟩ _) ⟨r, 9, none⟩ _) ⟨r, 10, none⟩ _) ⟨r, 11, none⟩ _) ⟨r, 12, none⟩ _ = W at *
    clear hW
    have r0 := blk_cell HD.out.1 0
    have r1 := blk_cell HD.out.1 1
    have r2 := blk_cell HD.out.1 2
    have r3 := blk_cell HD.out.1 3
    have r4 := blk_cell HD.out.1 4
    have r5 := blk_cell HD.out.1 5
    have r6 := blk_cell HD.out.1 6
    have r7 := blk_cell HD.out.1 7
    have r8 := blk_cell HD.out.1 8
    have r9 := blk_cell HD.out.1 9
    have r10 := blk_cell HD.out.1 10
    have r11 := blk_cell HD.out.1 11
    have r12 := blk_cell HD.out.1 12
    simp at r0 r1 r2 r3 r4 r5 r6 r7 r8 r9 r10 r11 r12
    exact bodyPost_ret (by simp [results, Tryz.results35, go_sem, r0, r1, r2, r3, r4, r5, r6, r7, r8, r9, r10, r11, r12]; rfl) rfl (⟨_, _, _, _, _, msg3 D0.out HK.out Dx1.out Dx2.out, rfl, ⟨RowO.nil _, ⟨[], rfl, RowO.nil _⟩, ⟨[], rfl, RowO.nil _⟩, Nat.zero_le _⟩, HD.out.2.1⟩)
end Go.Proofs.YtkamhpbfebdhjaaGreatDoor.TakeM
