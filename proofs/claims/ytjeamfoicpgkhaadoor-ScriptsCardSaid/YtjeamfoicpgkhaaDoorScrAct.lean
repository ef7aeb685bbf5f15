/- An act, taken from a text: the program's answer. -/
import Derived.Test.YtjeamfoicpgkhaaDoorScrShow2
import Derived.Test.YtjeamfoicpgkhaaDoorTaker2
namespace Go.Proofs.YtjeamfoicpgkhaaDoor.ScrW
open Go.RowKit Go.Lib Go.Proofs.YtjeamfoicpgkhaaDoor.Mem Go.Proofs.YtjeamfoicpgkhaaDoor.Scr Go.Proofs.YtjeamfoicpgkhaaDoor.Read Go.Proofs.YtjeamfoicpgkhaaDoor.Env Go.Proofs.YtjeamfoicpgkhaaDoor.Take Go.Proofs.YtjeamfoicpgkhaaDoor.Taker
open Go.Proofs.YtjeamfoicpgkhaaDoor.Writer (EnvS)
set_option linter.unusedVariables false
set_option linter.unusedSimpArgs false
abbrev TA : TypeId := 37
/-- The act under way in block g, the result in block r, the taker in b. -/
def AS (w : World) (b g r : Nat) (cs : Array Value) (st : St) (wr : World) : Prop :=
  wr.heap[g]? = some (.cells cs TA (0, 0)) ∧ (∃ rc, wr.heap[r]? = some (.cells rc TA (0, 0)) ∧ rc.size = 6) ∧ TRep wr b st ∧ Step (fun k => k = b) w wr ∧ b < w.heap.size ∧ w.heap.size ≤ g ∧ w.heap.size ≤ r ∧ g ≠ r
theorem AS.take {w wr w' : World} {b g r : Nat} {cs : Array Value} {st st' : St} {v : Value} {e : Ending} (h : AS w b g r cs st wr) (hp : TPost wr b v st' e w') : e = .returned v ∧ AS w b g r cs st' w' := by
  obtain ⟨h1, ⟨rc, h2, h2'⟩, h3, h4, h5, h6, h7, h8⟩ := h
  exact ⟨hp.1, hp.2.2.blk h1 (fun e => by omega), ⟨rc, hp.2.2.blk h2 (fun e => by omega), h2'⟩, hp.2.1, h4.trans hp.2.2 (fun _ f _ => f), h5, h6, h7, h8⟩
theorem AS.set {w wr : World} {b g r : Nat} {cs : Array Value} {st : St} (h : AS w b g r cs st wr) (i : Nat) (u : Value) : AS w b g r (cs.setIfInBounds i u) st (wr.setCell ⟨g, i, none⟩ u) := by
  obtain ⟨h1, ⟨rc, h2, h2'⟩, h3, h4, h5, h6, h7, h8⟩ := h
  refine ⟨blk_set h1 i u, ⟨rc, blk_set_other h2 (fun e => h8 e) u, h2'⟩, ⟨blk_set_other h3.1 (fun e => ?_) u, h3.2⟩, h4.setCell (fun e => ?_) u, h5, h6, h7, h8⟩
  · simp only at e; omega
  · simp only at e; omega
theorem AS.env {w wr : World} {b g r : Nat} {cs : Array Value} {st : St} (h : AS w b g r cs st wr) (hE : Env w) : Env wr → True := fun _ => trivial
theorem AS.cell {w wr : World} {b g r : Nat} {cs : Array Value} {st : St} (h : AS w b g r cs st wr) (i : Nat) : wr.cell? ⟨g, i, none⟩ = cs[i]? := blk_cell h.1 i
theorem AS.free {w wr : World} {b g r : Nat} {cs : Array Value} {st : St} (h : AS w b g r cs st wr) (i : Nat) : wr.frozen? ⟨g, i, none⟩ = false := blk_free h.1 i
theorem kinds4 (k : Int) : (isEdit k = true ∧ isMove k = false ∧ isBreak k = false) ∨ (isEdit k = false ∧ isMove k = true ∧ isBreak k = false) ∨ (isEdit k = false ∧ isMove k = true ∧ isBreak k = true) ∨ (isEdit k = false ∧ isMove k = false ∧ isBreak k = false) := by
  by_cases h0 : k = 0
  · subst h0; exact .inl (by decide)
  · by_cases h5 : k = 5
    · subst h5; exact .inr (.inr (.inl (by decide)))
    · have e0 : isEdit k = false := by simp [isEdit, h0]
      have e5 : isBreak k = false := by simp [isBreak, h5]
      cases hm : isMove k
      · exact .inr (.inr (.inr ⟨e0, rfl, e5⟩))
      · exact .inr (.inl ⟨e0, rfl, e5⟩)
theorem index_find (b : UInt8) : ∀ l : List UInt8, indexByte l b = (l.findIdx? (· == b)).elim (-1) (fun i => (i : Int))
  | [] => rfl
  | c :: l => by
    rw [List.findIdx?_cons]
    by_cases h : (c == b) = true
    · simp [indexByte, h]
    · have hb : (c == b) = false := by simpa using h
      have ih := index_find b l
      cases hf : l.findIdx? (· == b) with
      | none => rw [hf] at ih; simp [indexByte, hb, ih]
      | some k =>
        rw [hf] at ih
        have hk : ((k : Int) == -1) = false := beq_eq_false_iff_ne.2 (by omega)
        simp [indexByte, hb, ih, hk]
theorem idx_index (b : UInt8) : indexByte letters b = idx b := index_find b letters
theorem idx_any (c : UInt8) (w : World) : Calls Tryd.prog 38 #[.string ⟨#[101, 116, 100, 108, 99, 98, 120, 106]⟩, .int .u8 c.toNat] w fun e w' => e = .returned (.int .i64 (idx c)) ∧ w = w' := by
  refine (Tryd.strings_IndexByte _ _ _).mono ?_
  rintro e w' ⟨rfl, rfl⟩
  refine ⟨?_, rfl⟩
  rw [← idx_index]
  simp [letters]
theorem b_eq (c d : UInt8) : ((c.toNat : Int) == (d.toNat : Int)) = (c == d) := by
  rw [Bool.eq_iff_iff, beq_iff_eq, beq_iff_eq]
  constructor
  · intro h; exact UInt8.toNat_inj.1 (by omega)
  · rintro rfl; rfl
/-- What an act's taking comes to. -/
def ActPost (w : World) (b : Nat) (a : ActD) (st : St) (e : Ending) (w' : World) : Prop :=
  e = .returned (aggA a) ∧ TRep w' b st ∧ Step (fun k => k = b) w w'
theorem AS.start {w w1 : World} {b : Nat} {st : St} {zs cs : Array Value} (hb : b < w.heap.size) (h1 : TRep w1 b st) (h2 : Step (fun k => k = b) (w.alloc (.cells zs TA)) w1) (hz : zs.size = 6) :
    AS w b w1.heap.size w.heap.size cs st (w1.alloc (.cells cs TA)) := by
  have hs := h2.size
  have hs' : w.heap.size + 1 ≤ w1.heap.size := by simpa using hs
  exact ⟨blk_new w1 _, ⟨zs, blk_alloc (h2.blk (blk_new w _) (fun e => by omega)) _, hz⟩, ⟨blk_alloc h1.1 _, h1.2⟩, ((Step.alloc (Step.refl _ w) _).trans h2 (fun i f _ => f)).alloc _, hb, by omega, Nat.le_refl _, by omega⟩
theorem AS.six {w wr : World} {b g r : Nat} {v0 v1 v2 v3 v4 v5 : Value} {st : St} (h : AS w b g r #[v0, v1, v2, v3, v4, v5] st wr) :
    (wr.cell? ⟨g, 0, none⟩ = some v0 ∧ wr.cell? ⟨g, 1, none⟩ = some v1 ∧ wr.cell? ⟨g, 2, none⟩ = some v2 ∧ wr.cell? ⟨g, 3, none⟩ = some v3 ∧ wr.cell? ⟨g, 4, none⟩ = some v4 ∧ wr.cell? ⟨g, 5, none⟩ = some v5) ∧
    (∃ z0 z1 z2 z3 z4 z5, wr.cell? ⟨r, 0, none⟩ = some z0 ∧ wr.cell? ⟨r, 1, none⟩ = some z1 ∧ wr.cell? ⟨r, 2, none⟩ = some z2 ∧ wr.cell? ⟨r, 3, none⟩ = some z3 ∧ wr.cell? ⟨r, 4, none⟩ = some z4 ∧ wr.cell? ⟨r, 5, none⟩ = some z5) ∧
    (wr.frozen? ⟨r, 0, none⟩ = false ∧ wr.frozen? ⟨r, 1, none⟩ = false ∧ wr.frozen? ⟨r, 2, none⟩ = false ∧ wr.frozen? ⟨r, 3, none⟩ = false ∧ wr.frozen? ⟨r, 4, none⟩ = false ∧ wr.frozen? ⟨r, 5, none⟩ = false) := by
  obtain ⟨h1, ⟨rc, h2, h2'⟩, -⟩ := h
  refine ⟨⟨blk_cell h1 0, blk_cell h1 1, blk_cell h1 2, blk_cell h1 3, blk_cell h1 4, blk_cell h1 5⟩, ⟨rc[0], rc[1], rc[2], rc[3], rc[4], rc[5], ?_⟩, blk_free h2 0, blk_free h2 1, blk_free h2 2, blk_free h2 3, blk_free h2 4, blk_free h2 5⟩
  refine ⟨?_, ?_, ?_, ?_, ?_, ?_⟩ <;> (rw [blk_cell h2]; simp [h2'])
theorem AS.done {w wr : World} {b g r : Nat} {cs : Array Value} {st : St} (h : AS w b g r cs st wr) (u0 u1 u2 u3 u4 u5 : Value) :
    TRep ((((((wr.setCell ⟨r, 0, none⟩ u0).setCell ⟨r, 1, none⟩ u1).setCell ⟨r, 2, none⟩ u2).setCell ⟨r, 3, none⟩ u3).setCell ⟨r, 4, none⟩ u4).setCell ⟨r, 5, none⟩ u5) b st ∧
    Step (fun k => k = b) w ((((((wr.setCell ⟨r, 0, none⟩ u0).setCell ⟨r, 1, none⟩ u1).setCell ⟨r, 2, none⟩ u2).setCell ⟨r, 3, none⟩ u3).setCell ⟨r, 4, none⟩ u4).setCell ⟨r, 5, none⟩ u5) := by
  obtain ⟨h1, -, h3, h4, h5, h6, h7, h8⟩ := h
  have hr : ∀ i, (⟨r, i, none⟩ : Addr).block < w.heap.size → (⟨r, i, none⟩ : Addr).block = b := fun i e => by simp only at e; omega
  have hn : ∀ i, (⟨r, i, none⟩ : Addr).block ≠ b := fun i e => by simp only at e; omega
  exact ⟨⟨blk_set_other (blk_set_other (blk_set_other (blk_set_other (blk_set_other (blk_set_other h3.1 (hn 0) _) (hn 1) _) (hn 2) _) (hn 3) _) (hn 4) _) (hn 5) _, h3.2⟩,
    (((((h4.setCell (hr 0) _).setCell (hr 1) _).setCell (hr 2) _).setCell (hr 3) _).setCell (hr 4) _).setCell (hr 5) _⟩
theorem AS.stepE {w wr : World} {b g r : Nat} {cs : Array Value} {st : St} (h : AS w b g r cs st wr) (hE : EnvS (fun k => k = b) w) : Env wr := hE _ h.2.2.2.1
set_option maxHeartbeats 4000000 in
set_option maxRecDepth 100000 in
theorem act_any (w : World) (b : Nat) (st : St) (h : TRep w b st) (hE : EnvS (fun k => k = b) w) :
    Calls Tryd.prog 33 #[.pointer (some ⟨b, 0, none⟩)] w (ActPost w b (Scr.actR st).1 (Scr.actR st).2) := by
  have HT := Lib.hid h
  have HE := Lib.hid hE
  clear h hE
  obtain ⟨c1, s1, E1⟩ : ∃ c s, Hid (byteR st = (c, s)) := ⟨_, _, Lib.hid rfl⟩
  obtain ⟨c2, s2, E2⟩ : ∃ c s, Hid (byteR s1 = (c, s)) := ⟨_, _, Lib.hid rfl⟩
  obtain ⟨k, EK⟩ : ∃ k, Hid (idx c1 = k) := ⟨_, Lib.hid rfl⟩
  have hc2 : (c2.toNat : Int) < 256 := by have := c2.toNat_lt; omega
  have HA : Hid (∀ a st', (Scr.actR st) = (a, st') → ActPost w b (Scr.actR st).1 (Scr.actR st).2 = ActPost w b a st') := Lib.hid (by intro a st' h; rw [h])
  rcases kinds4 k with ⟨b1, b2, b3⟩ | ⟨b1, b2, b3⟩ | ⟨b1, b2, b3⟩ | ⟨b1, b2, b3⟩
  · obtain ⟨c3, s3, E3⟩ : ∃ c s, Hid (byteR s2 = (c, s)) := ⟨_, _, Lib.hid rfl⟩
    obtain ⟨m4, s4, E4⟩ : ∃ c s, Hid (digR 44 s3 = (c, s)) := ⟨_, _, Lib.hid rfl⟩
    obtain ⟨m5, s5, E5⟩ : ∃ c s, Hid (digR 44 s4 = (c, s)) := ⟨_, _, Lib.hid rfl⟩
    obtain ⟨t6, s6, E6⟩ : ∃ c s, Hid (Take.strR s5 = (c, s)) := ⟨_, _, Lib.hid rfl⟩
    obtain ⟨c7, s7, E7⟩ : ∃ c s, Hid (byteR s6 = (c, s)) := ⟨_, _, Lib.hid rfl⟩
    rw [HA.out (⟨k, (c2.toNat : Int) - 48, c3 == 117, m4, m5, ⟨t6.toArray⟩⟩) s7 (by simp [Scr.actR, E1.out, E2.out, EK.out, b1, b2, b3, E3.out, E4.out, E5.out, E6.out, E7.out])]
    generalize hu : (c3 == 117) = u at *
    have Hhu := Lib.hid hu
    clear hu
    have hb := blk_lt HT.out.1
    have Hb1 := Lib.hid b1
    have Hb2 := Lib.hid b2
    have Hb3 := Lib.hid b3
    have Hhb := Lib.hid hb
    clear b1 b2 b3 hb
    go_enter Tryd.func33, Tryd.ntmps33
    go_wp2_with fail
    refine (Byte_any _ b st (HT.out.step (Step.alloc (Step.refl No _) _) (fun f => f))).mono ?_
    rintro e w1 hp
    rw [E1.out] at hp
    obtain ⟨rfl, hp1, hp2⟩ := hp
    have Hhp1 := Lib.hid hp1
    have Hhp2 := Lib.hid hp2
    clear hp1 hp2
    go_wp2_with fail
    refine (idx_any c1 _).mono ?_
    rintro e w' ⟨rfl, rfl⟩
    rw [EK.out]
    have H2 := Lib.hid (AS.start (cs := #[.int .i64 k, .int .i64 0, .bool false, .int .i64 0, .int .i64 0, .string ⟨#[]⟩]) Hhb.out Hhp1.out Hhp2.out rfl)
    go_wp2_with fail
    refine (Byte_any _ b s1 H2.out.2.2.1).mono ?_
    rintro e w2 hp
    rw [E2.out] at hp
    obtain ⟨rfl, hq⟩ := AS.take H2.out hp
    have h4 : AS w b w1.heap.size w.heap.size #[.int .i64 k, .int .i64 ((c2.toNat : Int) - 48), .bool false, .int .i64 0, .int .i64 0, .string ⟨#[]⟩] s2 _ := hq.set 1 (.int .i64 ((c2.toNat : Int) - 48))
    have c0 := hq.cell 0
    have c0' := hq.cell 1
    have f0 := hq.free 1
    simp at c0 c0'
    have H4 := Lib.hid h4
    clear hp hq h4
    generalize w1.heap.size = g at *
    go_wp2_with fail
    refine (edits_any _ _).mono ?_
    rintro e w' ⟨rfl, rfl⟩
    rw [Hb1.out]
    have hc3 : (c3.toNat : Int) < 256 := by have := c3.toNat_lt; omega
    have hb3 : ((c3.toNat : Int) == 117) = u := (b_eq c3 117).trans Hhu.out
    go_wp2_with fail
    refine (Byte_any _ b s2 H4.out.2.2.1).mono ?_
    rintro e w3 hp
    rw [E3.out] at hp
    obtain ⟨rfl, hq⟩ := AS.take H4.out hp
    have h4 : AS w b g w.heap.size #[.int .i64 k, .int .i64 ((c2.toNat : Int) - 48), .bool u, .int .i64 0, .int .i64 0, .string ⟨#[]⟩] s3 _ := hq.set 2 (.bool u)
    have c1 := hq.cell 2
    have f1 := hq.free 2
    simp at c1
    have H5 := Lib.hid h4
    clear hp hq h4
    go_wp2_with fail
    refine (Num_any _ b s3 H5.out.2.2.1 (H5.out.stepE HE.out)).mono ?_
    rintro e w4 hp
    rw [E4.out] at hp
    obtain ⟨rfl, hq⟩ := AS.take H5.out hp
    have h4 : AS w b g w.heap.size #[.int .i64 k, .int .i64 ((c2.toNat : Int) - 48), .bool u, .int .i64 m4, .int .i64 0, .string ⟨#[]⟩] s4 _ := hq.set 3 (.int .i64 m4)
    clear c0 c0' c1 f0 f1 hc3
    have c0 := hq.cell 0
    have c0' := hq.cell 3
    have f0 := hq.free 3
    simp at c0 c0'
    have H6 := Lib.hid h4
    clear hp hq h4
    go_wp2_with fail
    refine (edits_any _ _).mono ?_
    rintro e w' ⟨rfl, rfl⟩
    rw [Hb1.out]
    go_wp2_with fail
    refine (Num_any _ b s4 H6.out.2.2.1 (H6.out.stepE HE.out)).mono ?_
    rintro e w5 hp
    rw [E5.out] at hp
    obtain ⟨rfl, hq⟩ := AS.take H6.out hp
    have h4 : AS w b g w.heap.size #[.int .i64 k, .int .i64 ((c2.toNat : Int) - 48), .bool u, .int .i64 m4, .int .i64 m5, .string ⟨#[]⟩] s5 _ := hq.set 4 (.int .i64 m5)
    clear c0 c0' f0
    have c0 := hq.cell 4
    have f0 := hq.free 4
    simp at c0
    have H7 := Lib.hid h4
    clear hp hq h4
    go_wp2_with fail
    refine (Str_any _ b s5 H7.out.2.2.1 (H7.out.stepE HE.out)).mono ?_
    rintro e w6 hp
    rw [E6.out] at hp
    obtain ⟨rfl, hq⟩ := AS.take H7.out hp
    have h4 : AS w b g w.heap.size #[.int .i64 k, .int .i64 ((c2.toNat : Int) - 48), .bool u, .int .i64 m4, .int .i64 m5, .string ⟨t6.toArray⟩] s6 _ := hq.set 5 (.string ⟨t6.toArray⟩)
    clear c0 f0
    have c0 := hq.cell 5
    have f0 := hq.free 5
    simp at c0
    have H8 := Lib.hid h4
    clear hp hq h4
    have c0' : True := trivial
    go_wp2_with fail
    refine (Byte_any _ b s6 H8.out.2.2.1).mono ?_
    rintro e w7 hp
    rw [E7.out] at hp
    obtain ⟨rfl, hq⟩ := AS.take H8.out hp
    have H9 := Lib.hid hq
    clear hp hq
    clear c0 c0' f0
    obtain ⟨⟨d0, d1, d2, d3, d4, d5⟩, ⟨z0, z1, z2, z3, z4, z5, r0, r1, r2, r3, r4, r5⟩, t0, t1, t2, t3, t4, t5⟩ := H9.out.six
    go_wp2
    exact bodyPost_ret (by simp [results, Tryd.results33, go_sem, aggA, r0, r1, r2, r3, r4, r5]) rfl ⟨rfl, H9.out.done _ _ _ _ _ _⟩
  · obtain ⟨c3, s3, E3⟩ : ∃ c s, Hid (byteR s2 = (c, s)) := ⟨_, _, Lib.hid rfl⟩
    obtain ⟨m4, s4, E4⟩ : ∃ c s, Hid (digR 44 s3 = (c, s)) := ⟨_, _, Lib.hid rfl⟩
    obtain ⟨c7, s7, E7⟩ : ∃ c s, Hid (byteR s4 = (c, s)) := ⟨_, _, Lib.hid rfl⟩
    rw [HA.out (⟨k, (c2.toNat : Int) - 48, c3 == 117, m4, 0, ⟨#[]⟩⟩) s7 (by simp [Scr.actR, E1.out, E2.out, EK.out, b1, b2, b3, E3.out, E4.out, E7.out])]
    generalize hu : (c3 == 117) = u at *
    have Hhu := Lib.hid hu
    clear hu
    have hb := blk_lt HT.out.1
    have Hb1 := Lib.hid b1
    have Hb2 := Lib.hid b2
    have Hb3 := Lib.hid b3
    have Hhb := Lib.hid hb
    clear b1 b2 b3 hb
    go_enter Tryd.func33, Tryd.ntmps33
    go_wp2_with fail
    refine (Byte_any _ b st (HT.out.step (Step.alloc (Step.refl No _) _) (fun f => f))).mono ?_
    rintro e w1 hp
    rw [E1.out] at hp
    obtain ⟨rfl, hp1, hp2⟩ := hp
    have Hhp1 := Lib.hid hp1
    have Hhp2 := Lib.hid hp2
    clear hp1 hp2
    go_wp2_with fail
    refine (idx_any c1 _).mono ?_
    rintro e w' ⟨rfl, rfl⟩
    rw [EK.out]
    have H2 := Lib.hid (AS.start (cs := #[.int .i64 k, .int .i64 0, .bool false, .int .i64 0, .int .i64 0, .string ⟨#[]⟩]) Hhb.out Hhp1.out Hhp2.out rfl)
    go_wp2_with fail
    refine (Byte_any _ b s1 H2.out.2.2.1).mono ?_
    rintro e w2 hp
    rw [E2.out] at hp
    obtain ⟨rfl, hq⟩ := AS.take H2.out hp
    have h4 : AS w b w1.heap.size w.heap.size #[.int .i64 k, .int .i64 ((c2.toNat : Int) - 48), .bool false, .int .i64 0, .int .i64 0, .string ⟨#[]⟩] s2 _ := hq.set 1 (.int .i64 ((c2.toNat : Int) - 48))
    have c0 := hq.cell 0
    have c0' := hq.cell 1
    have f0 := hq.free 1
    simp at c0 c0'
    have H4 := Lib.hid h4
    clear hp hq h4
    generalize w1.heap.size = g at *
    go_wp2_with fail
    refine (edits_any _ _).mono ?_
    rintro e w' ⟨rfl, rfl⟩
    rw [Hb1.out]
    go_wp2_with fail
    refine (moves_any _ _).mono ?_
    rintro e w' ⟨rfl, rfl⟩
    rw [Hb2.out]
    have hc3 : (c3.toNat : Int) < 256 := by have := c3.toNat_lt; omega
    have hb3 : ((c3.toNat : Int) == 117) = u := (b_eq c3 117).trans Hhu.out
    go_wp2_with fail
    refine (Byte_any _ b s2 H4.out.2.2.1).mono ?_
    rintro e w3 hp
    rw [E3.out] at hp
    obtain ⟨rfl, hq⟩ := AS.take H4.out hp
    have h4 : AS w b g w.heap.size #[.int .i64 k, .int .i64 ((c2.toNat : Int) - 48), .bool u, .int .i64 0, .int .i64 0, .string ⟨#[]⟩] s3 _ := hq.set 2 (.bool u)
    have c1 := hq.cell 2
    have f1 := hq.free 2
    simp at c1
    have H5 := Lib.hid h4
    clear hp hq h4
    go_wp2_with fail
    refine (Num_any _ b s3 H5.out.2.2.1 (H5.out.stepE HE.out)).mono ?_
    rintro e w4 hp
    rw [E4.out] at hp
    obtain ⟨rfl, hq⟩ := AS.take H5.out hp
    have h4 : AS w b g w.heap.size #[.int .i64 k, .int .i64 ((c2.toNat : Int) - 48), .bool u, .int .i64 m4, .int .i64 0, .string ⟨#[]⟩] s4 _ := hq.set 3 (.int .i64 m4)
    clear c0 c0' c1 f0 f1 hc3
    have c0 := hq.cell 0
    have c0' := hq.cell 3
    have f0 := hq.free 3
    simp at c0 c0'
    have H6 := Lib.hid h4
    clear hp hq h4
    go_wp2_with fail
    refine (edits_any _ _).mono ?_
    rintro e w' ⟨rfl, rfl⟩
    rw [Hb1.out]
    go_wp2_with fail
    refine (breaks_any _ _).mono ?_
    rintro e w' ⟨rfl, rfl⟩
    rw [Hb3.out]
    go_wp2_with fail
    refine (Byte_any _ b s4 H6.out.2.2.1).mono ?_
    rintro e w7 hp
    rw [E7.out] at hp
    obtain ⟨rfl, hq⟩ := AS.take H6.out hp
    have H9 := Lib.hid hq
    clear hp hq
    clear c0 c0' f0
    obtain ⟨⟨d0, d1, d2, d3, d4, d5⟩, ⟨z0, z1, z2, z3, z4, z5, r0, r1, r2, r3, r4, r5⟩, t0, t1, t2, t3, t4, t5⟩ := H9.out.six
    go_wp2
    exact bodyPost_ret (by simp [results, Tryd.results33, go_sem, aggA, r0, r1, r2, r3, r4, r5]) rfl ⟨rfl, H9.out.done _ _ _ _ _ _⟩
  · obtain ⟨c3, s3, E3⟩ : ∃ c s, Hid (byteR s2 = (c, s)) := ⟨_, _, Lib.hid rfl⟩
    obtain ⟨m4, s4, E4⟩ : ∃ c s, Hid (digR 44 s3 = (c, s)) := ⟨_, _, Lib.hid rfl⟩
    obtain ⟨m5, s5, E5⟩ : ∃ c s, Hid (digR 44 s4 = (c, s)) := ⟨_, _, Lib.hid rfl⟩
    obtain ⟨t6, s6, E6⟩ : ∃ c s, Hid (Take.strR s5 = (c, s)) := ⟨_, _, Lib.hid rfl⟩
    obtain ⟨c7, s7, E7⟩ : ∃ c s, Hid (byteR s6 = (c, s)) := ⟨_, _, Lib.hid rfl⟩
    rw [HA.out (⟨k, (c2.toNat : Int) - 48, c3 == 117, m4, m5, ⟨t6.toArray⟩⟩) s7 (by simp [Scr.actR, E1.out, E2.out, EK.out, b1, b2, b3, E3.out, E4.out, E5.out, E6.out, E7.out])]
    generalize hu : (c3 == 117) = u at *
    have Hhu := Lib.hid hu
    clear hu
    have hb := blk_lt HT.out.1
    have Hb1 := Lib.hid b1
    have Hb2 := Lib.hid b2
    have Hb3 := Lib.hid b3
    have Hhb := Lib.hid hb
    clear b1 b2 b3 hb
    go_enter Tryd.func33, Tryd.ntmps33
    go_wp2_with fail
    refine (Byte_any _ b st (HT.out.step (Step.alloc (Step.refl No _) _) (fun f => f))).mono ?_
    rintro e w1 hp
    rw [E1.out] at hp
    obtain ⟨rfl, hp1, hp2⟩ := hp
    have Hhp1 := Lib.hid hp1
    have Hhp2 := Lib.hid hp2
    clear hp1 hp2
    go_wp2_with fail
    refine (idx_any c1 _).mono ?_
    rintro e w' ⟨rfl, rfl⟩
    rw [EK.out]
    have H2 := Lib.hid (AS.start (cs := #[.int .i64 k, .int .i64 0, .bool false, .int .i64 0, .int .i64 0, .string ⟨#[]⟩]) Hhb.out Hhp1.out Hhp2.out rfl)
    go_wp2_with fail
    refine (Byte_any _ b s1 H2.out.2.2.1).mono ?_
    rintro e w2 hp
    rw [E2.out] at hp
    obtain ⟨rfl, hq⟩ := AS.take H2.out hp
    have h4 : AS w b w1.heap.size w.heap.size #[.int .i64 k, .int .i64 ((c2.toNat : Int) - 48), .bool false, .int .i64 0, .int .i64 0, .string ⟨#[]⟩] s2 _ := hq.set 1 (.int .i64 ((c2.toNat : Int) - 48))
    have c0 := hq.cell 0
    have c0' := hq.cell 1
    have f0 := hq.free 1
    simp at c0 c0'
    have H4 := Lib.hid h4
    clear hp hq h4
    generalize w1.heap.size = g at *
    go_wp2_with fail
    refine (edits_any _ _).mono ?_
    rintro e w' ⟨rfl, rfl⟩
    rw [Hb1.out]
    go_wp2_with fail
    refine (moves_any _ _).mono ?_
    rintro e w' ⟨rfl, rfl⟩
    rw [Hb2.out]
    have hc3 : (c3.toNat : Int) < 256 := by have := c3.toNat_lt; omega
    have hb3 : ((c3.toNat : Int) == 117) = u := (b_eq c3 117).trans Hhu.out
    go_wp2_with fail
    refine (Byte_any _ b s2 H4.out.2.2.1).mono ?_
    rintro e w3 hp
    rw [E3.out] at hp
    obtain ⟨rfl, hq⟩ := AS.take H4.out hp
    have h4 : AS w b g w.heap.size #[.int .i64 k, .int .i64 ((c2.toNat : Int) - 48), .bool u, .int .i64 0, .int .i64 0, .string ⟨#[]⟩] s3 _ := hq.set 2 (.bool u)
    have c1 := hq.cell 2
    have f1 := hq.free 2
    simp at c1
    have H5 := Lib.hid h4
    clear hp hq h4
    go_wp2_with fail
    refine (Num_any _ b s3 H5.out.2.2.1 (H5.out.stepE HE.out)).mono ?_
    rintro e w4 hp
    rw [E4.out] at hp
    obtain ⟨rfl, hq⟩ := AS.take H5.out hp
    have h4 : AS w b g w.heap.size #[.int .i64 k, .int .i64 ((c2.toNat : Int) - 48), .bool u, .int .i64 m4, .int .i64 0, .string ⟨#[]⟩] s4 _ := hq.set 3 (.int .i64 m4)
    clear c0 c0' c1 f0 f1 hc3
    have c0 := hq.cell 0
    have c0' := hq.cell 3
    have f0 := hq.free 3
    simp at c0 c0'
    have H6 := Lib.hid h4
    clear hp hq h4
    go_wp2_with fail
    refine (edits_any _ _).mono ?_
    rintro e w' ⟨rfl, rfl⟩
    rw [Hb1.out]
    go_wp2_with fail
    refine (breaks_any _ _).mono ?_
    rintro e w' ⟨rfl, rfl⟩
    rw [Hb3.out]
    go_wp2_with fail
    refine (Num_any _ b s4 H6.out.2.2.1 (H6.out.stepE HE.out)).mono ?_
    rintro e w5 hp
    rw [E5.out] at hp
    obtain ⟨rfl, hq⟩ := AS.take H6.out hp
    have h4 : AS w b g w.heap.size #[.int .i64 k, .int .i64 ((c2.toNat : Int) - 48), .bool u, .int .i64 m4, .int .i64 m5, .string ⟨#[]⟩] s5 _ := hq.set 4 (.int .i64 m5)
    clear c0 c0' f0
    have c0 := hq.cell 4
    have f0 := hq.free 4
    simp at c0
    have H7 := Lib.hid h4
    clear hp hq h4
    go_wp2_with fail
    refine (Str_any _ b s5 H7.out.2.2.1 (H7.out.stepE HE.out)).mono ?_
    rintro e w6 hp
    rw [E6.out] at hp
    obtain ⟨rfl, hq⟩ := AS.take H7.out hp
    have h4 : AS w b g w.heap.size #[.int .i64 k, .int .i64 ((c2.toNat : Int) - 48), .bool u, .int .i64 m4, .int .i64 m5, .string ⟨t6.toArray⟩] s6 _ := hq.set 5 (.string ⟨t6.toArray⟩)
    clear c0 f0
    have c0 := hq.cell 5
    have f0 := hq.free 5
    simp at c0
    have H8 := Lib.hid h4
    clear hp hq h4
    have c0' : True := trivial
    go_wp2_with fail
    refine (Byte_any _ b s6 H8.out.2.2.1).mono ?_
    rintro e w7 hp
    rw [E7.out] at hp
    obtain ⟨rfl, hq⟩ := AS.take H8.out hp
    have H9 := Lib.hid hq
    clear hp hq
    clear c0 c0' f0
    obtain ⟨⟨d0, d1, d2, d3, d4, d5⟩, ⟨z0, z1, z2, z3, z4, z5, r0, r1, r2, r3, r4, r5⟩, t0, t1, t2, t3, t4, t5⟩ := H9.out.six
    go_wp2
    exact bodyPost_ret (by simp [results, Tryd.results33, go_sem, aggA, r0, r1, r2, r3, r4, r5]) rfl ⟨rfl, H9.out.done _ _ _ _ _ _⟩
  · obtain ⟨c7, s7, E7⟩ : ∃ c s, Hid (byteR s2 = (c, s)) := ⟨_, _, Lib.hid rfl⟩
    rw [HA.out (⟨k, (c2.toNat : Int) - 48, false, 0, 0, ⟨#[]⟩⟩) s7 (by simp [Scr.actR, E1.out, E2.out, EK.out, b1, b2, b3, E7.out])]
    have hb := blk_lt HT.out.1
    have Hb1 := Lib.hid b1
    have Hb2 := Lib.hid b2
    have Hb3 := Lib.hid b3
    have Hhb := Lib.hid hb
    clear b1 b2 b3 hb
    go_enter Tryd.func33, Tryd.ntmps33
    go_wp2_with fail
    refine (Byte_any _ b st (HT.out.step (Step.alloc (Step.refl No _) _) (fun f => f))).mono ?_
    rintro e w1 hp
    rw [E1.out] at hp
    obtain ⟨rfl, hp1, hp2⟩ := hp
    have Hhp1 := Lib.hid hp1
    have Hhp2 := Lib.hid hp2
    clear hp1 hp2
    go_wp2_with fail
    refine (idx_any c1 _).mono ?_
    rintro e w' ⟨rfl, rfl⟩
    rw [EK.out]
    have H2 := Lib.hid (AS.start (cs := #[.int .i64 k, .int .i64 0, .bool false, .int .i64 0, .int .i64 0, .string ⟨#[]⟩]) Hhb.out Hhp1.out Hhp2.out rfl)
    go_wp2_with fail
    refine (Byte_any _ b s1 H2.out.2.2.1).mono ?_
    rintro e w2 hp
    rw [E2.out] at hp
    obtain ⟨rfl, hq⟩ := AS.take H2.out hp
    have h4 : AS w b w1.heap.size w.heap.size #[.int .i64 k, .int .i64 ((c2.toNat : Int) - 48), .bool false, .int .i64 0, .int .i64 0, .string ⟨#[]⟩] s2 _ := hq.set 1 (.int .i64 ((c2.toNat : Int) - 48))
    have c0 := hq.cell 0
    have c0' := hq.cell 1
    have f0 := hq.free 1
    simp at c0 c0'
    have H4 := Lib.hid h4
    clear hp hq h4
    generalize w1.heap.size = g at *
    go_wp2_with fail
    refine (edits_any _ _).mono ?_
    rintro e w' ⟨rfl, rfl⟩
    rw [Hb1.out]
    go_wp2_with fail
    refine (moves_any _ _).mono ?_
    rintro e w' ⟨rfl, rfl⟩
    rw [Hb2.out]
    go_wp2_with fail
    refine (edits_any _ _).mono ?_
    rintro e w' ⟨rfl, rfl⟩
    rw [Hb1.out]
    go_wp2_with fail
    refine (breaks_any _ _).mono ?_
    rintro e w' ⟨rfl, rfl⟩
    rw [Hb3.out]
    go_wp2_with fail
    refine (Byte_any _ b s2 H4.out.2.2.1).mono ?_
    rintro e w4 hp
    rw [E7.out] at hp
    obtain ⟨rfl, hq⟩ := AS.take H4.out hp
    have H5 := Lib.hid hq
    clear hp hq
    clear c0 c0' f0
    obtain ⟨⟨d0, d1, d2, d3, d4, d5⟩, ⟨z0, z1, z2, z3, z4, z5, r0, r1, r2, r3, r4, r5⟩, t0, t1, t2, t3, t4, t5⟩ := H5.out.six
    go_wp2
    exact bodyPost_ret (by simp [results, Tryd.results33, go_sem, aggA, r0, r1, r2, r3, r4, r5]) rfl ⟨rfl, H5.out.done _ _ _ _ _ _⟩
end Go.Proofs.YtjeamfoicpgkhaaDoor.ScrW
