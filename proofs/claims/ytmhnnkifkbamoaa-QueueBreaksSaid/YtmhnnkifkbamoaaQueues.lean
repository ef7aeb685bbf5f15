/- The law on queues under any acts: the program's queue and the document's go side by side. -/
import Derived.Test.YtmhnnkifkbamoaaQAwake
namespace Go.Proofs.Ytmhnnkifkbamoaa.QLaw
open Go.RowKit Go.Proofs.Ytmhnnkifkbamoaa.Mem Go.Proofs.Ytmhnnkifkbamoaa.Read Go.Proofs.Ytmhnnkifkbamoaa.NetQ
set_option linter.unusedVariables false
set_option linter.unusedSimpArgs false

structure Act22 where
  kind : Int
  at_ : Int
  k : Int
  by_ : Int
  s : ByteArray
def actCells (a : Act22) : List Value := [.int .i64 a.kind, .int .i64 a.at_, .int .i64 a.k, .int .i64 a.by_, .string a.s]
def actR : World → Act22 → List Value → Prop := fun _ a cs => cs = actCells a ∧ a.s.size ≤ maxLen
abbrev Acts (w : World) (xs : List Act22) (v : Value) : Prop := SlR 5 actR w xs v
theorem act_cells {w : World} {xs : List Act22} {A : Option Addr} {n c : Nat} (h : Acts w xs (.slice A n c)) (k : Nat) (hk : k < xs.length) :
    ∃ ad, A = some ad ∧ (xs[k]).s.size ≤ maxLen ∧ w.cell? (ad.add (k * 5)) = some (.int .i64 (xs[k]).kind) ∧ w.cell? ⟨(ad.add (k * 5)).block, (ad.add (k * 5)).off + 1, none⟩ = some (.int .i64 (xs[k]).at_) ∧ w.cell? ⟨(ad.add (k * 5)).block, (ad.add (k * 5)).off + 2, none⟩ = some (.int .i64 (xs[k]).k) ∧
      w.cell? ⟨(ad.add (k * 5)).block, (ad.add (k * 5)).off + 3, none⟩ = some (.int .i64 (xs[k]).by_) ∧ w.cell? ⟨(ad.add (k * 5)).block, (ad.add (k * 5)).off + 4, none⟩ = some (.string (xs[k]).s) := by
  obtain ⟨A', c', he, _, _, h3⟩ := h
  injection he with he1 _ _
  subst he1
  obtain ⟨ad, cs, e, _, ⟨rfl, hz⟩, hc⟩ := h3 k hk
  have key : ∀ i u, (actCells xs[k])[i]? = some u → w.cell? ((ad.add (k * 5)).add i) = some u := fun i u hu => by rw [add_add]; exact hc i u hu
  exact ⟨ad, e, hz, hc 0 _ rfl, key 1 _ rfl, key 2 _ rfl, key 3 _ rfl, key 4 _ rfl⟩
/-- Frames as they may be in a queue. -/
def Fine (xs : List Fr) : Prop := xs.length ≤ 8 ∧ ∀ x ∈ xs, x.1.size ≤ 1000064
theorem fine_put {xs : List Fr} (h : Fine xs) (x : Fr) : Fine (putS xs x) := by
  unfold putS fits
  split
  · rename_i hf
    simp only [Bool.and_eq_true, decide_eq_true_eq] at hf
    refine ⟨by simp; omega, fun y hy => ?_⟩
    rw [List.mem_append, List.mem_singleton] at hy
    rcases hy with hy | rfl
    · exact h.2 y hy
    · exact hf.2
  · exact h
theorem fine_take {xs : List Fr} (h : Fine xs) (i : Int) : Fine (takeS xs i).2.2 := by
  unfold takeS
  split
  · exact ⟨by have := List.length_eraseIdx_le xs i.toNat; have := h.1; simp only; omega, fun x hx => h.2 x (List.mem_of_mem_eraseIdx hx)⟩
  · exact h
theorem fine_copy {xs : List Fr} (h : Fine xs) (i : Int) : Fine (copyS xs i).2.2 := by
  unfold copyS
  split
  · exact fine_put h _
  · exact h
theorem turn_size (s : ByteArray) (k : Nat) (b : Int) : (turn s k b).size = s.size := by
  show (List.toArray _).size = _
  rw [List.size_toArray, List.length_set, Array.length_toList]; rfl
theorem fine_break {xs : List Fr} (h : Fine xs) (i k b : Int) : Fine (breakS xs i k b).2 := by
  unfold breakS
  split
  · split
    · exact h
    · refine ⟨by rw [List.length_set]; exact h.1, fun x hx => ?_⟩
      rcases List.mem_or_eq_of_mem_set hx with hx | rfl
      · exact h.2 x hx
      · rw [turn_size]; exact h.2 _ (List.getElem_mem _)
  · exact h
/-- Both queues, apart from each other and from block b, all made since w0. -/
structure Bo (w0 w : World) (Q R : Nat) (okq okr : Nat → Prop) (xs ys : List Fr) : Prop where
  dis : ∀ k, okq k → okr k → False
  lq : ∀ k, okq k → w0.heap.size ≤ k ∧ k < w.heap.size
  lr : ∀ k, okr k → w0.heap.size ≤ k ∧ k < w.heap.size
  q : QRep 83 86 okq w Q xs
  r : QRep 35 89 okr w R ys
  st : Step No w0 w
/-- And a block that neither has. -/
structure Bt (w0 w : World) (Q R b : Nat) (o : Obj) (okq okr : Nat → Prop) (xs ys : List Fr) : Prop where
  bo : Bo w0 w Q R okq okr xs ys
  blk : w.heap[b]? = some o
  nq : ¬ okq b
  nr : ¬ okr b
theorem Bt.ofQ {w0 w w' : World} {Q R b : Nat} {o : Obj} {okq okr : Nat → Prop} {xs ys xs' : List Fr} {v : Value} {e : Ending} (h : Bt w0 w Q R b o okq okr xs ys) (hp : QPost 83 86 okq w Q v xs' e w') :
    e = .returned v ∧ Bt w0 w' Q R b o (fun k => (okq k ∨ w.heap.size ≤ k) ∧ k < w'.heap.size) okr xs' ys := by
  refine ⟨hp.1, ⟨⟨fun k a b => a.1.elim (fun a => h.bo.dis k a b) (fun a => by have := (h.bo.lr k b).2; omega), fun k a => ⟨a.1.elim (fun a => (h.bo.lq k a).1) (Nat.le_trans h.bo.st.size), a.2⟩, fun k a => ⟨(h.bo.lr k a).1, Nat.lt_of_lt_of_le (h.bo.lr k a).2 hp.2.2.size⟩,
    hp.2.1.mono (fun k hk a => ⟨a, hk⟩), h.bo.r.step hp.2.2 (fun k a _ b => h.bo.dis k b a), h.bo.st.trans hp.2.2 (fun i hi hlt => by have := (h.bo.lq i hi).1; omega)⟩, hp.2.2.blk h.blk h.nq, fun a => a.1.elim h.nq (fun a => by have := blk_lt h.blk; omega), h.nr⟩⟩
theorem Bt.ofR {w0 w w' : World} {Q R b : Nat} {o : Obj} {okq okr : Nat → Prop} {xs ys ys' : List Fr} {v : Value} {e : Ending} (h : Bt w0 w Q R b o okq okr xs ys) (hp : QPost 35 89 okr w R v ys' e w') :
    e = .returned v ∧ Bt w0 w' Q R b o okq (fun k => (okr k ∨ w.heap.size ≤ k) ∧ k < w'.heap.size) xs ys' := by
  refine ⟨hp.1, ⟨⟨fun k b a => a.1.elim (fun a => h.bo.dis k b a) (fun a => by have := (h.bo.lq k b).2; omega), fun k a => ⟨(h.bo.lq k a).1, Nat.lt_of_lt_of_le (h.bo.lq k a).2 hp.2.2.size⟩, fun k a => ⟨a.1.elim (fun a => (h.bo.lr k a).1) (Nat.le_trans h.bo.st.size), a.2⟩,
    h.bo.q.step hp.2.2 (fun k a _ b => h.bo.dis k a b), hp.2.1.mono (fun k hk a => ⟨a, hk⟩), h.bo.st.trans hp.2.2 (fun i hi hlt => by have := (h.bo.lr i hi).1; omega)⟩, hp.2.2.blk h.blk h.nr, h.nq, fun a => a.1.elim h.nr (fun a => by have := blk_lt h.blk; omega)⟩⟩
theorem Bo.step {w0 w w' : World} {Q R : Nat} {okq okr : Nat → Prop} {xs ys : List Fr} (h : Bo w0 w Q R okq okr xs ys) (hs : Step No w w') : Bo w0 w' Q R okq okr xs ys :=
  ⟨h.dis, fun k a => ⟨(h.lq k a).1, Nat.lt_of_lt_of_le (h.lq k a).2 hs.size⟩, fun k a => ⟨(h.lr k a).1, Nat.lt_of_lt_of_le (h.lr k a).2 hs.size⟩, h.q.step hs (fun _ _ _ f => f), h.r.step hs (fun _ _ _ f => f), h.st.trans hs (fun _ f _ => f)⟩
/-- Both, with the same frames. -/
def Same (w0 w : World) (Q R : Nat) (xs : List Fr) : Prop := Fine xs ∧ ∃ okq okr, Bo w0 w Q R okq okr xs xs
theorem Bo.new {w0 w : World} {Q R : Nat} {okq okr : Nat → Prop} {xs : List Fr} (h : Bo w0 w Q R okq okr xs xs) (cs : Array Value) (t : TypeId) : Bt w0 (w.alloc (.cells cs t)) Q R w.heap.size (.cells cs t) okq okr xs xs :=
  ⟨h.step ((Step.refl No w).alloc _), blk_new w _, fun a => absurd (h.lq _ a).2 (Nat.lt_irrefl _), fun a => absurd (h.lr _ a).2 (Nat.lt_irrefl _)⟩
theorem Bt.drew {w0 w : World} {Q R b : Nat} {o : Obj} {okq okr : Nat → Prop} {xs ys : List Fr} (h : Bt w0 w Q R b o okq okr xs ys) : Bt w0 w.drew Q R b o okq okr xs ys := ⟨h.bo.step ((Step.refl No w).drew), h.blk, h.nq, h.nr⟩
theorem five {w : World} {b : Nat} {v0 v1 v2 v3 v4 : Value} {t : TypeId} (h : w.heap[b]? = some (.cells #[v0, v1, v2, v3, v4] t (0, 0))) : w.cell? ⟨b, 0, none⟩ = some v0 ∧ w.cell? ⟨b, 1, none⟩ = some v1 ∧ w.cell? ⟨b, 2, none⟩ = some v2 ∧ w.cell? ⟨b, 3, none⟩ = some v3 ∧ w.cell? ⟨b, 4, none⟩ = some v4 :=
  ⟨blk_cell h 0, blk_cell h 1, blk_cell h 2, blk_cell h 3, blk_cell h 4⟩
theorem all_texts {xs : List Fr} (h : Fine xs) : ∀ s ∈ xs.map (·.1), s.size ≤ maxLen := by
  intro s hs
  rw [List.mem_map] at hs
  obtain ⟨x, hx, rfl⟩ := hs
  have := h.2 x hx
  simp only [maxLen]
  omega
theorem start (w : World) : Same w ((w.alloc (.cells #[.slice none 0 0] 83)).alloc (.cells #[.slice none 0 0] 35)) w.heap.size (w.heap.size + 1) [] := by
  refine ⟨⟨by simp, by simp⟩, fun k => k = w.heap.size, fun k => k = w.heap.size + 1, ⟨fun k a b => by omega, fun k a => ⟨by omega, by simp; omega⟩, fun k a => ⟨by omega, by simp; omega⟩, ?_, ?_, (by repeat' (first | exact Step.refl _ _ | with_reducible assumption | refine Step.drew ?_ | refine Step.drewN ?_ _ | refine Step.alloc ?_ _))⟩⟩
  · exact ⟨.slice none 0 0, blk_alloc (blk_new w _) _, rfl, World.ownsRow_nil _ _ _ _, fun k hk => by simp [Value.ownBlock] at hk⟩
  · refine ⟨.slice none 0 0, ?_, rfl, World.ownsRow_nil _ _ _ _, fun k hk => by simp [Value.ownBlock] at hk⟩
    have := blk_new (w.alloc (.cells #[.slice none 0 0] 83)) (.cells #[.slice none 0 0] 35)
    simpa using this
set_option maxHeartbeats 20000000 in
set_option maxRecDepth 100000 in
theorem queues_any (w : World) (v : Value) (acts : List Act22) (ha : Acts w acts v) :
    Calls Try.prog 7 #[v] w fun e w' => e = .returned (.bool true) ∧ Below w.heap.size w w' := by
  obtain ⟨A, c, rfl, h1, h2⟩ := sl_len ha
  unfold maxLen at h2
  have HA := Lib.hid ha
  clear ha
  go_enter Try.func7, Try.ntmps7
  go_wp2_with fail
  refine (new_any _).mono ?_
  rintro e w1 ⟨rfl, h1⟩
  subst h1
  go_wp2
  go_loopw [5] (fun i wr => ∃ k : Nat, k ≤ acts.length ∧ i = .int .i64 k ∧ ∃ xs, Same w wr w.heap.size (w.heap.size + 1) xs) (fun i _ => acts.length - (intOf i).toNat)
  case atStart => exact ⟨0, Nat.zero_le _, rfl, [], start w⟩
  case round =>
    obtain ⟨k, hk, rfl, xs, hsame⟩ := hrel
    by_cases hlt : k < acts.length ∧ k < 60
    · obtain ⟨hl1, hl2⟩ := hlt
      have hst : Step No w wr := by obtain ⟨_, _, _, h⟩ := hsame; exact h.st
      obtain ⟨ad, rfl, hz, c0, c1, c2, c3, c4⟩ := act_cells HA.out k hl1
      have d0 := hst.cell c0 (fun f => f)
      have d1 := hst.cell c1 (fun f => f)
      have d2 := hst.cell c2 (fun f => f)
      have d3 := hst.cell c3 (fun f => f)
      have d4 := hst.cell c4 (fun f => f)
      clear c0 c1 c2 c3 c4 hst
      have hi1 : (k : Int) < acts.length := by omega
      have hi2 : (k : Int) < 60 := by omega
      have hs : (acts[k]).s.size ≤ 9223372036854775807 := hz
      generalize acts[k] = a at *
      obtain ⟨kd, aa, kk, bb, s⟩ := a
      simp only at *
      obtain ⟨hfine, okq, okr, hbo⟩ := hsame
      have HT := Lib.hid (hbo.new #[.int .i64 kd, .int .i64 aa, .int .i64 kk, .int .i64 bb, .string s] 37)
      clear hbo
      have Hhfine := Lib.hid hfine
      have Hhz := Lib.hid hz
      have Hhs := Lib.hid hs
      clear hfine hz hs
      go_upto_region 9 with (fail)
      generalize wr.alloc (.cells #[.int .i64 kd, .int .i64 aa, .int .i64 kk, .int .i64 bb, .string s] 37) = w1 at *
      clear d0 d1 d2 d3 d4
      obtain ⟨e0, e1, e2, e3, e4⟩ := five HT.out.blk
      by_cases h0 : kd = 0
      · subst h0
        go_upto_region 13 with (fail)
        have HTd := Lib.hid HT.out.drew
        go_region_held3 (fun w' => w'.cell? ⟨wr.heap.size, 4, none⟩ = some (.string s)) (first | exact e4 | exact f4 | exact g4) (first | (go_at_call 19; refine (NetQ.Put_any _ _ _ _ s HTd.out.bo.q).mono ?_; rintro e w2 hp; obtain ⟨rfl, hT2⟩ := HTd.out.ofQ hp; obtain ⟨f0, f1, f2, f3, f4⟩ := five hT2.blk; have HT2 := Lib.hid hT2; clear hp hT2) | (go_at_call 20; refine (RefQ.Put_any _ _ _ _ s HT2.out.bo.r).mono ?_; rintro e w3 hp; obtain ⟨rfl, hT3⟩ := HT2.out.ofR hp; obtain ⟨g0, g1, g2, g3, g4⟩ := five hT3.blk; have HT3 := Lib.hid hT3; clear hp hT3))
        all_goals
          have HF := Lib.hid (fine_put Hhfine.out (s, false))
          generalize putS xs (s, false) = ys at *
          generalize fits xs s = b1 at *
          go_wp2_with fail
          refine (NetQ.All_any _ _ _ _ HF.out.1 HT3.out.bo.q).mono ?_
          rintro e w4 h8
          obtain ⟨va, rfl, hs7, hr⟩ := all_row h8
          have HR1 := Lib.hid (hr (all_texts HF.out))
          have HB4 := Lib.hid (HT3.out.bo.step hs7)
          clear h8 hs7 hr
          go_wp2_with fail
          refine (RefQ.All_any _ _ _ _ HF.out.1 HB4.out.r).mono ?_
          rintro e w5 h8
          obtain ⟨vb, rfl, hs7, hr⟩ := all_row h8
          have HR2 := Lib.hid (hr (all_texts HF.out))
          have HR3 := Lib.hid (strS_step HR1.out hs7)
          have HB5 := Lib.hid (HB4.out.step hs7)
          clear h8 hs7 hr
          go_wp2_with fail
          refine (sameTexts_any _ _ _ _ _ HR3.out HR2.out).mono ?_
          rintro e w6 ⟨rfl, hs7⟩
          rw [decide_eq_true (rfl : ys.map (·.1) = ys.map (·.1))]
          have HB6 := Lib.hid (HB5.out.step hs7)
          clear hs7
          go_wp2
          go_roundw
          case rel => exact ⟨k + 1, hl1, rfl, ys, HF.out, _, _, HB6.out⟩
          case measure => simp [intOf]; omega
      · by_cases h1 : kd = 1
        · subst h1
          clear h0
          go_wp2_with fail
          refine (NetQ.Take_any _ _ _ _ aa Hhfine.out.1 HT.out.bo.q).mono ?_
          rintro e w2 hp
          obtain ⟨rfl, hT2⟩ := HT.out.ofQ hp
          obtain ⟨f0, f1, f2, f3, f4⟩ := five hT2.blk
          have HT2 := Lib.hid hT2
          clear hp hT2
          go_wp2_with fail
          refine (RefQ.Take_any _ _ _ _ aa Hhfine.out.1 HT2.out.bo.r).mono ?_
          rintro e w3 hp
          obtain ⟨rfl, hT3⟩ := HT2.out.ofR hp
          have HT3 := Lib.hid hT3
          clear hp hT3
          have HF := Lib.hid (fine_take Hhfine.out aa)
          generalize takeS xs aa = r at *
          obtain ⟨r1, r2, ys⟩ := r
          simp only at *
          go_wp2_with fail
          refine (num_any _ _).mono ?_
          rintro e w' ⟨rfl, rfl⟩
          go_wp2_with fail
          refine (NetQ.All_any _ _ _ _ HF.out.1 HT3.out.bo.q).mono ?_
          rintro e w4 h8
          obtain ⟨va, rfl, hs7, hr⟩ := all_row h8
          have HR1 := Lib.hid (hr (all_texts HF.out))
          have HB4 := Lib.hid (HT3.out.bo.step hs7)
          clear h8 hs7 hr
          go_wp2_with fail
          refine (RefQ.All_any _ _ _ _ HF.out.1 HB4.out.r).mono ?_
          rintro e w5 h8
          obtain ⟨vb, rfl, hs7, hr⟩ := all_row h8
          have HR2 := Lib.hid (hr (all_texts HF.out))
          have HR3 := Lib.hid (strS_step HR1.out hs7)
          have HB5 := Lib.hid (HB4.out.step hs7)
          clear h8 hs7 hr
          go_wp2_with fail
          refine (sameTexts_any _ _ _ _ _ HR3.out HR2.out).mono ?_
          rintro e w6 ⟨rfl, hs7⟩
          rw [decide_eq_true (rfl : ys.map (·.1) = ys.map (·.1))]
          have HB6 := Lib.hid (HB5.out.step hs7)
          clear hs7
          go_wp2
          go_roundw
          case rel => exact ⟨k + 1, hl1, rfl, ys, HF.out, _, _, HB6.out⟩
          case measure => simp [intOf]; omega
        · by_cases h2 : kd = 2
          · subst h2
            clear h0 h1
            go_wp2_with fail
            refine (NetQ.Copy_any _ _ _ _ aa HT.out.bo.q).mono ?_
            rintro e w2 hp
            obtain ⟨rfl, hT2⟩ := HT.out.ofQ hp
            obtain ⟨f0, f1, f2, f3, f4⟩ := five hT2.blk
            have HT2 := Lib.hid hT2
            clear hp hT2
            go_wp2_with fail
            refine (RefQ.Copy_any _ _ _ _ aa HT2.out.bo.r).mono ?_
            rintro e w3 hp
            obtain ⟨rfl, hT3⟩ := HT2.out.ofR hp
            have HT3 := Lib.hid hT3
            clear hp hT3
            have HF := Lib.hid (fine_copy Hhfine.out aa)
            generalize copyS xs aa = r at *
            obtain ⟨r1, r2, ys⟩ := r
            simp only at *
            go_wp2_with fail
            refine (num_any _ _).mono ?_
            rintro e w' ⟨rfl, rfl⟩
            go_wp2_with fail
            refine (NetQ.All_any _ _ _ _ HF.out.1 HT3.out.bo.q).mono ?_
            rintro e w4 h8
            obtain ⟨va, rfl, hs7, hr⟩ := all_row h8
            have HR1 := Lib.hid (hr (all_texts HF.out))
            have HB4 := Lib.hid (HT3.out.bo.step hs7)
            clear h8 hs7 hr
            go_wp2_with fail
            refine (RefQ.All_any _ _ _ _ HF.out.1 HB4.out.r).mono ?_
            rintro e w5 h8
            obtain ⟨vb, rfl, hs7, hr⟩ := all_row h8
            have HR2 := Lib.hid (hr (all_texts HF.out))
            have HR3 := Lib.hid (strS_step HR1.out hs7)
            have HB5 := Lib.hid (HB4.out.step hs7)
            clear h8 hs7 hr
            go_wp2_with fail
            refine (sameTexts_any _ _ _ _ _ HR3.out HR2.out).mono ?_
            rintro e w6 ⟨rfl, hs7⟩
            rw [decide_eq_true (rfl : ys.map (·.1) = ys.map (·.1))]
            have HB6 := Lib.hid (HB5.out.step hs7)
            clear hs7
            go_wp2
            go_roundw
            case rel => exact ⟨k + 1, hl1, rfl, ys, HF.out, _, _, HB6.out⟩
            case measure => simp [intOf]; omega
          · have q0 : (kd == 0) = false := beq_eq_false_iff_ne.2 h0
            have q1 : (kd == 1) = false := beq_eq_false_iff_ne.2 h1
            have q2 : (kd == 2) = false := beq_eq_false_iff_ne.2 h2
            clear h0 h1 h2
            go_upto_region 10 with (fail)
            have HTd := Lib.hid HT.out.drew
            go_region_held3 (fun w' => w'.cell? ⟨wr.heap.size, 1, none⟩ = some (.int .i64 aa) ∧ w'.cell? ⟨wr.heap.size, 2, none⟩ = some (.int .i64 kk) ∧ w'.cell? ⟨wr.heap.size, 3, none⟩ = some (.int .i64 bb)) (first | exact ⟨e1, e2, e3⟩ | exact ⟨f1, f2, f3⟩ | exact ⟨g1, g2, g3⟩) (first | (go_at_call 26; refine (NetQ.Break_any _ _ _ _ aa kk bb Hhfine.out.2 HTd.out.bo.q).mono ?_; rintro e w2 hp; obtain ⟨rfl, hT2⟩ := HTd.out.ofQ hp; obtain ⟨f0, f1, f2, f3, f4⟩ := five hT2.blk; have HT2 := Lib.hid hT2; clear hp hT2) | (go_at_call 23; refine (num_any _ _).mono ?_; rintro e w' ⟨rfl, rfl⟩) | (go_at_call 27; refine (RefQ.Break_any _ _ _ _ aa kk bb Hhfine.out.2 HT2.out.bo.r).mono ?_; rintro e w3 hp; obtain ⟨rfl, hT3⟩ := HT2.out.ofR hp; obtain ⟨g0, g1, g2, g3, g4⟩ := five hT3.blk; have HT3 := Lib.hid hT3; clear hp hT3))
            all_goals
              have HF := Lib.hid (fine_break Hhfine.out aa kk bb)
              generalize breakS xs aa kk bb = r at *
              obtain ⟨r1, ys⟩ := r
              simp only at *
              go_wp2_with fail
              refine (NetQ.All_any _ _ _ _ HF.out.1 HT3.out.bo.q).mono ?_
              rintro e w4 h8
              obtain ⟨va, rfl, hs7, hr⟩ := all_row h8
              have HR1 := Lib.hid (hr (all_texts HF.out))
              have HB4 := Lib.hid (HT3.out.bo.step hs7)
              clear h8 hs7 hr
              go_wp2_with fail
              refine (RefQ.All_any _ _ _ _ HF.out.1 HB4.out.r).mono ?_
              rintro e w5 h8
              obtain ⟨vb, rfl, hs7, hr⟩ := all_row h8
              have HR2 := Lib.hid (hr (all_texts HF.out))
              have HR3 := Lib.hid (strS_step HR1.out hs7)
              have HB5 := Lib.hid (HB4.out.step hs7)
              clear h8 hs7 hr
              go_wp2_with fail
              refine (sameTexts_any _ _ _ _ _ HR3.out HR2.out).mono ?_
              rintro e w6 ⟨rfl, hs7⟩
              rw [decide_eq_true (rfl : ys.map (·.1) = ys.map (·.1))]
              have HB6 := Lib.hid (HB5.out.step hs7)
              clear hs7
              go_wp2
              go_roundw
              case rel => exact ⟨k + 1, hl1, rfl, ys, HF.out, _, _, HB6.out⟩
              case measure => simp [intOf]; omega
    · obtain ⟨_, okq, okr, hbo⟩ := hsame
      have HS := Lib.hid hbo.st
      clear hbo
      by_cases h1 : k < acts.length
      · have h2 : ¬ k < 60 := fun h => hlt ⟨h1, h⟩
        clear hlt
        go_wp2_with fail
        refine (awake_any _).mono ?_
        rintro e w' ⟨rfl, hs⟩
        have Hhs := Lib.hid hs
        clear hs
        go_wp2_with fail
        go_ret
        exact ⟨rfl, (HS.out.trans Hhs.out (fun _ f _ => f)).below⟩
      · clear hlt
        go_wp2_with fail
        refine (awake_any _).mono ?_
        rintro e w' ⟨rfl, hs⟩
        have Hhs := Lib.hid hs
        clear hs
        go_wp2_with fail
        go_ret
        exact ⟨rfl, (HS.out.trans Hhs.out (fun _ f _ => f)).below⟩
end Go.Proofs.Ytmhnnkifkbamoaa.QLaw
