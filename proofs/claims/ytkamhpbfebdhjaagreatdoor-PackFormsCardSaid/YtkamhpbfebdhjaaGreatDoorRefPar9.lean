/- The document's tree of a text: Parse. -/
import Derived.Test.YtkamhpbfebdhjaaGreatDoorRefPar8
namespace Go.Proofs.YtkamhpbfebdhjaaGreatDoor.RefPar9
open Go.RowKit Go.Lib Go.Proofs.YtkamhpbfebdhjaaGreatDoor.Mem Go.Proofs.YtkamhpbfebdhjaaGreatDoor.Read Go.Proofs.YtkamhpbfebdhjaaGreatDoor.Tree Go.Proofs.YtkamhpbfebdhjaaGreatDoor.Data Go.Proofs.YtkamhpbfebdhjaaGreatDoor.OwnR Go.Proofs.YtkamhpbfebdhjaaGreatDoor.Tr Go.Proofs.YtkamhpbfebdhjaaGreatDoor.Tr2 Go.Proofs.YtkamhpbfebdhjaaGreatDoor.ParS Go.Proofs.YtkamhpbfebdhjaaGreatDoor.ParG Go.Proofs.YtkamhpbfebdhjaaGreatDoor.LexS Go.Proofs.YtkamhpbfebdhjaaGreatDoor.RefLex4 Go.Proofs.YtkamhpbfebdhjaaGreatDoor.RefPar1 Go.Proofs.YtkamhpbfebdhjaaGreatDoor.RefPar2 Go.Proofs.YtkamhpbfebdhjaaGreatDoor.RefPar3 Go.Proofs.YtkamhpbfebdhjaaGreatDoor.RefPar4 Go.Proofs.YtkamhpbfebdhjaaGreatDoor.RefPar5 Go.Proofs.YtkamhpbfebdhjaaGreatDoor.RefPar6 Go.Proofs.YtkamhpbfebdhjaaGreatDoor.RefPar7 Go.Proofs.YtkamhpbfebdhjaaGreatDoor.RefPar8
set_option linter.unusedVariables false
set_option linter.unusedSimpArgs false
/-- A tree that a call handed back: rows of its own. -/
def TreeOut (w : World) (t : TreeD) (e : Ending) (w' : World) : Prop := ∃ (nv : Value) (ys : List (NodeD × Value)), e = .returned (.tuple #[.agg #[.int .i64 t.root, .int .i64 t.next, nv], .int .i64 0]) ∧ ys.map (·.1) = t.nodes ∧ NodesW w.heap.size w' ys nv ∧ Apart ys ∧ Step No w w'
theorem solid_more {ts : List TokD} {k : Nat} (hk : k < ts.length) {c : Bool} (h : solid ts[k] = c) : (ts.take (k + 1)).filter solid = (ts.take k).filter solid ++ (if c = true then [ts[k]] else []) := by
  rw [List.take_succ_eq_append_getElem hk, List.filter_append]
  subst h
  by_cases hs : solid ts[k] = true <;> simp [hs]
/-- Where the copying of tokens stands. -/
structure LT (w : World) (b : Nat) (en : Int) (ts : List TokD) (tv : Value) (k : Nat) (o : Value) (wr : World) : Prop where
  blk : wr.heap[b]? = some (.cells #[o, .int .i64 0, .int .i64 en, .int .i64 0, .int .i64 0, .slice none 0 0] TP (0, 0))
  own : TksW w.heap.size wr ((ts.take k).filter solid) o
  src : TksW w.heap.size wr ts tv
  ne : ∀ j, o.ownBlock = some j → tv.ownBlock ≠ some j
  ge : w.heap.size < b
  step : Step No w wr
  res : wr.heap[w.heap.size]? = some (.cells #[.int .i64 0, .int .i64 0, .slice none 0 0] TTr (0, 0))
theorem LT.no {w : World} {b : Nat} {en : Int} {ts : List TokD} {tv : Value} {k : Nat} {o : Value} {wr w' : World} (h : LT w b en ts tv k o wr) (hs : Step No wr w') : LT w b en ts tv k o w' :=
  ⟨hs.blk h.blk (fun f => f), RowO.no (stabTk _) h.own hs, RowO.no (stabTk _) h.src hs, h.ne, h.ge, h.step.trans hs (fun _ f _ => f), hs.blk h.res (fun f => f)⟩
theorem LT.more {w : World} {b : Nat} {en : Int} {ts : List TokD} {tv : Value} {k : Nat} {o v1 : Value} {wr w1 : World} (h : LT w b en ts tv k o wr) (hk : k < ts.length) (hs : solid ts[k] = true) (ho : w1.ownsRow 0 TTk 3 v1 (((ts.take k).filter solid).length + 1) (((ts.take k).filter solid).flatMap encTk ++ encTk ts[k])) (hg : wr.grownBy w1 o.ownBlock) (hat : v1.ownBlock = o.ownBlock ∨ v1.ownBlock = some wr.heap.size) :
    LT w b en ts tv (k + 1) v1 (w1.setCell ⟨b, 0, none⟩ v1) ∧ w1.heap[b]? = some (.cells #[o, .int .i64 0, .int .i64 en, .int .i64 0, .int .i64 0, .slice none 0 0] TP (0, 0)) := by
  have hb1 : w1.heap[b]? = some (.cells #[o, .int .i64 0, .int .i64 en, .int .i64 0, .int .i64 0, .slice none 0 0] TP (0, 0)) := (hg.block b (blk_lt h.blk) (fun e => row_ne h.own.1 h.blk (by decide) e.symm)).trans h.blk
  have hr := RowO.next (stabTk _) (x := ts[k]) trivial h.own h.step.size trivial ho hg hat
  have hS : Step (fun j => j = b) w1 (w1.setCell ⟨b, 0, none⟩ v1) := by refine set_at (Step.refl _ _) ?_ _ <;> rfl
  have hsrc : TksW w.heap.size w1 ts tv := ⟨row_move h.src.1 fun j hj => hg.block j (h.src.1.lt j hj).2 fun e => h.ne j e.symm hj, h.src.2.1, h.src.2.2⟩
  refine ⟨⟨blk_set hb1 0 v1, ?_, tks_row hsrc hS (Types.at hb1 ⟨by decide, trivial⟩), fun j hj hj2 => ?_, h.ge, (h.step.grown hg (fun j hj hlt => absurd (h.own.2.1 j hj) (by omega))).setCell (fun e => absurd e (by have := h.ge; simp only; omega)) _, ?_⟩, hb1⟩
  · rw [solid_more hk hs, if_pos rfl]
    exact tks_row hr hS (Types.at hb1 ⟨by decide, trivial⟩)
  · rcases hat with hat | hat
    · exact h.ne j (by rw [← hat]; exact hj) hj2
    · rw [hj] at hat
      injection hat with hat
      have := (h.src.1.lt j hj2).2
      omega
  · exact hS.blk ((hg.block _ (blk_lt h.res) (fun e => row_ne h.own.1 h.res (by decide) e.symm)).trans h.res) (by have := h.ge; omega)
theorem LT.skip {w : World} {b : Nat} {en : Int} {ts : List TokD} {tv : Value} {k : Nat} {o : Value} {wr : World} (h : LT w b en ts tv k o wr) (hk : k < ts.length) (hs : solid ts[k] = false) : LT w b en ts tv (k + 1) o wr :=
  ⟨h.blk, by rw [solid_more hk hs]; simpa using h.own, h.src, h.ne, h.ge, h.step, h.res⟩
/-- Where the loop over the whole text stands. -/
def LP (ts : List TokD) (en : Int) (w0 : World) (b base : Nat) (tv : Value) (R : Bool × PS) (g : Nat) (v : Value) (wr : World) : Prop :=
  ∃ (one : Bool) (f : Nat) (s : PS), v = .bool one ∧ ts.length ≤ s.1 + g ∧ ts.length < s.1 + f ∧ topS ts en f one s = R ∧ PS' wr b base ts en tv s ∧ Step (PF b base w0) w0 wr ∧ Fine ts.length (1 + 5 * ts.length) s ∧ 0 < s.2.length
theorem ps_tp {w : World} {b base : Nat} {ts : List TokD} {en : Int} {tv : Value} {s : PS} (h : PS' w b base ts en tv s) : ∃ cs, w.heap[b]? = some (.cells cs TP (0, 0)) := by
  obtain ⟨nv, ys, h⟩ := h
  exact ⟨_, h.blk⟩
/-- What is of no type of the parser's stays. -/
theorem pf_stays {w w' : World} {b base : Nat} (hb : ∃ cs, w.heap[b]? = some (.cells cs TP (0, 0))) {r : Nat} {cs : Array Value} {t : TypeId} (hr : w.heap[r]? = some (.cells cs t (0, 0))) (ht : t ≠ TP ∧ t ≠ TN ∧ t ≠ TI) (hs : Step (PF b base w) w w') : w'.heap[r]? = some (.cells cs t (0, 0)) := by
  obtain ⟨cb, hb⟩ := hb
  refine hs.blk hr ?_
  rintro (rfl | ⟨_, cs', t', hc, ht'⟩)
  · exact blk_ne hr hb ht.1 rfl
  · rw [hr] at hc
    injection hc with hc
    injection hc with _ hc _
    subst hc
    exact ht'.elim ht.2.1 ht.2.2
theorem pf_done {w w1 w2 : World} {b : Nat} (h : Step No w w1) (h' : Step (PF b w.heap.size w1) w1 w2) (hb : w.heap.size < b) : Step No w w2 := h.trans h' (fun k f hlt => by
  rcases f with rfl | ⟨h1, _⟩ <;> omega)
theorem top_go {ts : List TokD} {e : Int} {f : Nat} {one : Bool} {s : PS} {R : Bool × PS} (hf : ts.length < s.1 + f) (hs : s.1 ≤ ts.length) (h : topS ts e f one s = R) : ∃ g, f = g + 1 ∧ ts.length < s.1 + 1 + g ∧
    R = (if s.1 < ts.length then (if startsS (tokS ts e s.1) 1 = true then (if one = true then topS ts e g true (wrapS ts e (valueS ts e ts.length) 0 1 s) else topS ts e g true ((valueS ts e ts.length 1 s).2.1, kidS (valueS ts e ts.length 1 s).2.2 0 ((valueS ts e ts.length 1 s).1 : Nat)))
      else topS ts e g one (strayS ts e 0 s)) else (one, s)) := by
  obtain ⟨g, rfl⟩ : ∃ g, f = g + 1 := ⟨f - 1, by omega⟩
  exact ⟨g, rfl, by omega, h.symm⟩
theorem fin {w W : World} {b : Nat} {ts : List TokD} {en : Int} {i : Nat} {ns : NS} {o nv : Value} {ys : List (NodeD × Value)} (hp : PST W b w.heap.size ts en i ns o nv ys) (hres : W.heap[w.heap.size]? = some (.cells #[.int .i64 0, .int .i64 0, .slice none 0 0] TTr (0, 0))) (hs : Step No w W) (hb : w.heap.size < b) (v : Int) :
    (W.setCell ⟨b, 4, none⟩ (.int .i64 v)).heap[b]? = some (.cells #[o, .int .i64 (i : Nat), .int .i64 en, .int .i64 0, .int .i64 v, nv] TP (0, 0)) ∧ (W.setCell ⟨b, 4, none⟩ (.int .i64 v)).heap[w.heap.size]? = some (.cells #[.int .i64 0, .int .i64 0, .slice none 0 0] TTr (0, 0)) ∧
    ((((W.setCell ⟨b, 4, none⟩ (.int .i64 v)).setCell ⟨w.heap.size, 0, none⟩ (.int .i64 0)).setCell ⟨w.heap.size, 1, none⟩ (.int .i64 v)).setCell ⟨w.heap.size, 2, none⟩ nv).heap[w.heap.size]? = some (.cells #[.int .i64 0, .int .i64 v, nv] TTr (0, 0)) ∧
    NodesW w.heap.size ((((W.setCell ⟨b, 4, none⟩ (.int .i64 v)).setCell ⟨w.heap.size, 0, none⟩ (.int .i64 0)).setCell ⟨w.heap.size, 1, none⟩ (.int .i64 v)).setCell ⟨w.heap.size, 2, none⟩ nv) ys nv ∧ Step No w ((((W.setCell ⟨b, 4, none⟩ (.int .i64 v)).setCell ⟨w.heap.size, 0, none⟩ (.int .i64 0)).setCell ⟨w.heap.size, 1, none⟩ (.int .i64 v)).setCell ⟨w.heap.size, 2, none⟩ nv) := by
  have b1 := blk_set hp.blk 4 (.int .i64 v)
  have r1 : (W.setCell ⟨b, 4, none⟩ (.int .i64 v)).heap[w.heap.size]? = some (.cells #[.int .i64 0, .int .i64 0, .slice none 0 0] TTr (0, 0)) := blk_set_other hres (by simp only; omega) _
  have S1 : Step (fun k => k = b) W (W.setCell ⟨b, 4, none⟩ (.int .i64 v)) := by refine set_at (Step.refl _ _) ?_ _ <;> rfl
  have n1 := nodes_go hp.nodes S1 (Types.at hp.blk ⟨by decide, by decide⟩)
  have S2 : Step (fun k => k = w.heap.size) (W.setCell ⟨b, 4, none⟩ (.int .i64 v)) ((((W.setCell ⟨b, 4, none⟩ (.int .i64 v)).setCell ⟨w.heap.size, 0, none⟩ (.int .i64 0)).setCell ⟨w.heap.size, 1, none⟩ (.int .i64 v)).setCell ⟨w.heap.size, 2, none⟩ nv) := by
    refine set_at (set_at (set_at (Step.refl _ _) ?_ _) ?_ _) ?_ _ <;> rfl
  refine ⟨by simpa using b1, r1, by simpa using blk_set (blk_set (blk_set r1 0 (.int .i64 0)) 1 (.int .i64 v)) 2 nv, nodes_go n1 S2 (Types.at r1 ⟨by decide, by decide⟩), ?_⟩
  exact set_new (set_new (set_new (set_new hs (by omega) _) (Nat.le_refl _) _) (Nat.le_refl _) _) (Nat.le_refl _) _
theorem Parse_long (S : ByteArray) (hS : 300 < S.size) (w : World) : Calls Tryz.prog 5 #[.string S] w fun e w' => e = .returned (.tuple #[.agg #[.int .i64 0, .int .i64 0, .slice none 0 0], .int .i64 1100]) ∧ Step No w w' := by
  have hb := blk_new w (.cells #[.int .i64 0, .int .i64 0, .slice none 0 0] TTr)
  have hs : Step No w (w.alloc (.cells #[.int .i64 0, .int .i64 0, .slice none 0 0] TTr)) := (Step.refl No w).alloc _
  go_enter Tryz.func5, Tryz.ntmps5
  go_wp2_with fail
  refine (Tokens_long S hS _).mono ?_
  rintro e w1 ⟨rfl, rfl⟩
  generalize hW : World.alloc w _ = w1 at *
  obtain ⟨r, hr⟩ : ∃ r, w.heap.size = r := ⟨_, rfl⟩
  have HRr : Hid (w.heap.size ≤ r) := Lib.hid (by omega)
  rw [hr] at hb ⊢
  clear hW hr
  have c0 := blk_cell hb 0
  have c1 := blk_cell hb 1
  have c2 := blk_cell hb 2
  have f0 := blk_free hb 0
  have f1 := blk_free hb 1
  have f2 := blk_free hb 2
  simp at c0 c1 c2
  have HB := Lib.hid hb
  have HS := Lib.hid hs
  clear hb hs
  have HD : Hid ((((w1.setCell ⟨r, 0, none⟩ (.int .i64 0)).setCell ⟨r, 1, none⟩ (.int .i64 0)).setCell ⟨r, 2, none⟩ (.slice none 0 0)).heap[r]? = some (.cells #[.int .i64 0, .int .i64 0, .slice none 0 0] TTr (0, 0)) ∧ Step No w (((w1.setCell ⟨r, 0, none⟩ (.int .i64 0)).setCell ⟨r, 1, none⟩ (.int .i64 0)).setCell ⟨r, 2, none⟩ (.slice none 0 0))) := Lib.hid ⟨by have := blk_set (blk_set (blk_set HB.out 0 (.int .i64 0)) 1 (.int .i64 0)) 2 (.slice none 0 0); simpa using this, set_new (set_new (set_new HS.out HRr.out _) HRr.out _) HRr.out _⟩
  go_wp2
  generalize hW : World.setCell (World.setCell (World.setCell _ ⟨r, 0, none⟩ _) ⟨r, 1, none⟩ _) ⟨r, 2, none⟩ _ = W at *
  have r0 := blk_cell HD.out.1 0
  have r1 := blk_cell HD.out.1 1
  have r2 := blk_cell HD.out.1 2
  simp at r0 r1 r2
  exact bodyPost_ret (by simp [results, Tryz.results5, go_sem, r0, r1, r2]) rfl ⟨rfl, HD.out.2⟩
set_option maxHeartbeats 8000000 in
set_option maxRecDepth 100000 in
theorem Parse_any (S : ByteArray) (hS : S.size ≤ 300) (w : World) : Calls Tryz.prog 5 #[.string S] w (TreeOut w (parseS S)) := by
  have hs : Step No w (w.alloc (.cells #[.int .i64 0, .int .i64 0, .slice none 0 0] TTr)) := (Step.refl No w).alloc _
  have hb := blk_new w (.cells #[.int .i64 0, .int .i64 0, .slice none 0 0] TTr)
  go_enter Tryz.func5, Tryz.ntmps5
  go_wp2_with fail
  generalize hW : World.alloc w _ = w1 at *
  refine (Tokens_any S hS _).mono ?_
  rintro e w2 ⟨tv, rfl, htk, hs2⟩
  have htk0 : TksW w.heap.size w2 (toksS S) tv := ⟨htk.1, fun k hk => Nat.le_trans hs.size (htk.2.1 k hk), htk.2.2⟩
  have hs02 := hs.trans hs2 (fun _ f _ => f)
  have hb2 := hs2.blk hb (fun f => f)
  have HRr : Hid (w.heap.size ≤ w.heap.size ∧ w.heap.size < w2.heap.size) := Lib.hid ⟨Nat.le_refl _, blk_lt hb2⟩
  have hlenT : (toksS S).length ≤ 300 := Nat.le_trans (toksF_len S S.size 0) (by omega)
  have HP : Hid (parseS S = treeS ((toksS S).filter solid) S.size) := Lib.hid rfl
  generalize parseS S = PT at *
  generalize toksS S = ts0 at *
  have hfl : (ts0.filter solid).length ≤ ts0.length := List.length_filter_le _ _
  clear htk hs2 hW hs hb
  obtain ⟨A, c, rfl, -, -⟩ := row_slice htk0.1
  go_upto_region 5 with (fail)
  have hb3 := blk_new w2 (.cells #[.slice none 0 0, .int .i64 0, .int .i64 (S.size : Nat), .int .i64 0, .int .i64 0, .slice none 0 0] TP)
  have hs3 : Step No w2 (w2.alloc (.cells #[.slice none 0 0, .int .i64 0, .int .i64 (S.size : Nat), .int .i64 0, .int .i64 0, .slice none 0 0] TP)) := (Step.refl No w2).alloc _
  have hL : LT w w2.heap.size (S.size : Nat) ts0 (.slice A ts0.length c) 0 (.slice none 0 0) (w2.alloc (.cells #[.slice none 0 0, .int .i64 0, .int .i64 (S.size : Nat), .int .i64 0, .int .i64 0, .slice none 0 0] TP)) :=
    ⟨hb3, RowO.nil _, RowO.no (stabTk _) htk0 hs3, fun j hj => by simp [Value.ownBlock] at hj, HRr.out.2, hs02.alloc _, hs3.blk hb2 (fun f => f)⟩
  have hrb : w.heap.size < w2.heap.size := HRr.out.2
  generalize hW : World.alloc w2 _ = w3 at *
  generalize w2.heap.size = b at *
  clear hW hb3 hs3 htk0 hs02 hb2 HRr
  have HL := Lib.hid hL
  clear hL
  obtain ⟨n, hn⟩ : ∃ n, ts0.length = n := ⟨_, rfl⟩
  have HN := Lib.hid hn
  rw [hn] at hlenT hfl ⊢
  clear hn
  go_wp2
  go_loopw [7] (fun i wr => ∃ (k : Nat) (o : Value), k ≤ n ∧ i = .int .i64 (k : Nat) ∧ Hid (LT w b (S.size : Nat) ts0 (.slice A n c) k o wr)) (fun i _ => n - (RowKit.intOf i).toNat)
  case atStart => exact ⟨0, _, Nat.zero_le _, rfl, by have := HL; rw [HN.out] at this; exact this⟩
  case round =>
    clear HL
    obtain ⟨k, o, hk, rfl, HL⟩ := hrel
    by_cases hlt : k < n
    · have hk0 : k < ts0.length := by have := HN.out; omega
      have hsrc := HL.out.src
      obtain ⟨g, rfl, -, q0, q1, q2⟩ := tks_at hsrc hk0
      have HLm := Lib.hid (fun (v1 : Value) (w0 w1 : World) (h0 : LT w b (S.size : Nat) ts0 (.slice (some ⟨g, 0, none⟩) n c) k o w0) hs => h0.more (v1 := v1) (w1 := w1) hk0 hs)
      have HSk := Lib.hid (fun hs => HL.out.skip hk0 hs)
      have HTk : Hid (∃ t, ts0[k] = t) := Lib.hid ⟨_, rfl⟩
      generalize ts0[k] = t at *
      obtain ⟨tk, tf, tu⟩ := t
      simp only at q0 q1 q2
      have hi0 : (0 : Int) ≤ (k : Nat) := by omega
      have hi1 : ((k : Nat) : Int) < (n : Nat) := by omega
      clear hsrc HTk
      by_cases h10 : tk = 10
      · have e10 : (tk != 10) = false := by rw [bne_eq_false_iff_eq]; exact h10
        have HX := Lib.hid (HSk.out (by rw [h10]; rfl))
        clear h10
        go_wp2
        go_roundw
        case rel => exact ⟨k + 1, o, by omega, by go_num, HX⟩
        case measure => simp [RowKit.intOf]; omega
      · have e10 : (tk != 10) = true := by rw [bne_iff_ne]; exact h10
        by_cases h9 : tk = 9
        · have e9 : (tk != 9) = false := by rw [bne_eq_false_iff_eq]; exact h9
          have HX := Lib.hid (HSk.out (by rw [h9]; rfl))
          clear h10 h9
          go_wp2
          go_roundw
          case rel => exact ⟨k + 1, o, by omega, by go_num, HX⟩
          case measure => simp [RowKit.intOf]; omega
        · have e9 : (tk != 9) = true := by rw [bne_iff_ne]; exact h9
          have hso : solid ⟨tk, tf, tu⟩ = true := by unfold solid; rw [e10, e9]; rfl
          have HSo := Lib.hid hso
          clear h10 h9 hso
          have hml : ((ts0.take k).filter solid).length ≤ 300 := by
            have h1 := List.length_filter_le solid (ts0.take k)
            rw [List.length_take] at h1
            omega
          generalize hxs : (ts0.take k).filter solid = xs at *
          obtain ⟨m, hm⟩ : ∃ m, xs.length = m := ⟨_, rfl⟩
          have HO := HL.out.own
          rw [hxs] at HO
          obtain ⟨Ao, co, rfl, -, -⟩ := row_slice HO.1
          rw [hm] at HO HL HLm HSk hml
          have HXs := Lib.hid hxs
          have HM := Lib.hid hm
          clear hxs hm HO
          go_upto_region 9 with (fail)
          have HO9 := Lib.hid (fun (W : World) (hs : Step No wr W) => HL.out.no hs)
          have c0 : wr.cell? ⟨b, 0, none⟩ = some (.slice Ao m co) := blk_cell HL.out.blk 0
          have c0a : (wr.alloc (.cells #[.int .i64 tk, .int .i64 tf, .int .i64 tu] 58)).cell? ⟨b, 0, none⟩ = some (.slice Ao m co) := (Step.alloc (Step.refl No wr) _).cell c0 (fun f => f)
          have hm9 : m + 1 ≤ maxLen := by unfold maxLen; omega
          have hb9 : (m + 1) * 24 ≤ 140737488355328 := by omega
          go_region_law (refine step_append_own rfl (.tmp 48) (.tmp 53) 51 58 _ 3 24 rfl Tryz.underlying51 infoTk rfl (by decide) (.slice Ao m co) m (xs.flatMap encTk) (by simp [Act.eval, Act.put]) (by have h9 := (HO9.out _ (show Step No wr (wr.alloc (.cells #[.int .i64 tk, .int .i64 tf, .int .i64 tu] TTk)).drew from by repeat' (first | exact Step.refl _ _ | refine Step.drew ?_ | refine Step.alloc ?_ _))).own.1; rw [HXs.out, HM.out] at h9; exact h9) ⟨wr.heap.size, 0, none⟩ 1 1 [.int .i64 tk, .int .i64 tf, .int .i64 tu] (by simp [Act.eval, Act.put]) rfl (by exact cells_new wr #[.int .i64 tk, .int .i64 tf, .int .i64 tu] TTk) (by simp [Value.oneCell']) hm9 hb9 ?_; (intro v5 w5 hown hg hat; have HQ := Lib.hid (HLm.out v5 _ w5 (HO9.out _ (show Step No wr (wr.alloc (.cells #[.int .i64 tk, .int .i64 tf, .int .i64 tu] TTk)).drew from by repeat' (first | exact Step.refl _ _ | refine Step.drew ?_ | refine Step.alloc ?_ _))) HSo.out hown hg hat); have d5 := (show w5.cell? ⟨b, 0, none⟩ = some (.slice Ao m co) from blk_cell HQ.out.2 0); have f5 := blk_free HQ.out.2 0; obtain ⟨A5, c5, rfl, -, -⟩ := row_slice hown; clear hown hg hat))
          all_goals
            go_wp2
            go_roundw
            case rel => exact ⟨k + 1, _, by omega, by go_num, Lib.hid HQ.out.1⟩
            case measure => simp [RowKit.intOf]; omega
    · obtain rfl : k = n := by omega
      have hall : (ts0.take k).filter solid = ts0.filter solid := by rw [← HN.out, List.take_length]
      have hown := HL.out.own
      rw [hall] at hown
      generalize ts0.filter solid = ts at *
      have hT : ts.length ≤ 300 := by omega
      have hP0 : PS' wr b w.heap.size ts (S.size : Nat) o (0, []) := ⟨_, [], HL.out.blk, hown, RowO.nil _, rfl, apart_nil, HL.out.step.size⟩
      have HRes := Lib.hid HL.out.res
      have HSt := Lib.hid HL.out.step
      have HGe := Lib.hid HL.out.ge
      clear HL hall hown
      obtain ⟨wo, rfl⟩ : ∃ wo : World, wo = wr := ⟨_, rfl⟩
      have hG0 : Fine ts.length (1 + 5 * ts.length) (0, nodeS [] 0 0 (S.size : Nat)) := ⟨wf_node (fun x hx => by simp at hx) _ _ _, by simp [tot, nodeS], by simp [nodeS], Nat.zero_le _⟩
      obtain ⟨Rr, hRr⟩ : ∃ Rr, topS ts (S.size : Nat) (ts.length + 1) false (0, nodeS [] 0 0 (S.size : Nat)) = Rr := ⟨_, rfl⟩
      have HPT : Hid (PT = ⟨0, ((if Rr.1 = true then Rr.2.2 else lackS Rr.2.2 0 (S.size : Nat)).length : Nat), if Rr.1 = true then Rr.2.2 else lackS Rr.2.2 0 (S.size : Nat)⟩) := Lib.hid (by rw [HP.out, ← hRr]; rfl)
      clear HP
      have hV := value_s (en := (S.size : Nat)) hT ts.length
      go_wp2_with fail
      refine (node_s wo b w.heap.size ts (S.size : Nat) o (0, []) 0 0 (S.size : Nat) hP0 (by simp)).mono ?_
      rintro e w4 ⟨rfl, h4, hs4⟩
      have HLP := Lib.hid (show LP ts (S.size : Nat) wo b w.heap.size o Rr ts.length (.bool false) w4 from ⟨false, ts.length + 1, (0, nodeS [] 0 0 (S.size : Nat)), rfl, by omega, by omega, hRr, h4, hs4, hG0, by simp [nodeS]⟩)
      have HWr := Lib.hid (ps_tp hP0)
      clear hRr hG0 h4 hs4 hP0
      simp only [List.length_nil]
      go_wp2
      go_loopg [9] ts.length (fun g v wx => LP ts (S.size : Nat) wo b w.heap.size o Rr g v wx)
      case atStart => exact HLP.out
      case round =>
        clear HLP
        obtain ⟨one, f, s, rfl, hg, hff, hq, h, hsw, hG, h0⟩ := hrel
        have hon := hG.on
        obtain ⟨f', rfl, hf', hq⟩ := top_go hff hon hq
        have hlen := hG.len (by omega)
        have htot := hG.tots (by omega)
        have hwf := hG.wf
        by_cases hlt : s.1 < ts.length
        · rw [if_pos hlt] at hq
          have hdl : decide (s.1 < ts.length) = true := decide_eq_true hlt
          obtain ⟨g', rfl⟩ : ∃ g', gk = g' + 1 := ⟨gk - 1, by omega⟩
          have hstr := stray_fit (ts := ts) (e := (S.size : Nat)) (id := 0) (s := s) hG.wf hlt
          obtain ⟨t, ht⟩ : ∃ t, tokS ts (S.size : Nat) s.1 = t := ⟨_, rfl⟩
          rw [ht] at hq
          have HTk := Lib.hid ht
          have HDl := Lib.hid hdl
          clear hdl ht
          obtain ⟨tk, tf, tu⟩ := t
          by_cases hst : startsS ⟨tk, tf, tu⟩ 1 = true
          · rw [if_pos hst] at hq
            have HNs := Lib.hid hst
            clear hst
            cases one
            · rw [if_neg (by decide)] at hq
              have HQ := Lib.hid hq
              obtain ⟨fv, hv1, hv2, hv3⟩ := value_fit (ts := ts) (e := (S.size : Nat)) ts.length 1 s hlt (by omega) hwf
              have gv := hG.fit fv
              have gk1 := hG.fit (kid_fit fv 0 hv2)
              clear hq
              go_wp2_with fail
              refine (next_s wr b w.heap.size ts (S.size : Nat) o s h (by omega) (by omega)).mono ?_
              unfold NOut
              rw [HTk.out, HDl.out]
              rintro e w1' ⟨rfl, hn1, hns1⟩
              simp only
              go_upto_region 13 with (fail)
              have hbx := blk_new w1' (.cells #[.int .i64 tk, .int .i64 tf, .int .i64 tu] TTk)
              have h2 := ps_box hn1 #[.int .i64 tk, .int .i64 tf, .int .i64 tu]
              have hs2 : Step No wr (w1'.alloc (.cells #[.int .i64 tk, .int .i64 tf, .int .i64 tu] TTk)) := hns1.alloc _
              generalize hW : World.alloc w1' _ = w2' at *
              generalize w1'.heap.size = rr at *
              have hsw2 := pf_next hsw hs2 (fun _ f _ => f.elim)
              clear hW hn1 hns1 hsw hs2
              have t0 := blk_cell hbx 0
              have t1 := blk_cell hbx 1
              have t2 := blk_cell hbx 2
              simp at t0 t1 t2
              go_wp2_with fail
              refine (starts_any ⟨tk, tf, tu⟩ 1 _ (by omega)).mono ?_
              rintro e w3' ⟨rfl, hs3⟩
              rw [HNs.out]
              have h3 := h2.no hs3
              have hsw3 := pf_next hsw2 hs3 (fun _ f _ => f.elim)
              clear t0 t1 t2 hbx h2 hs3 hsw2
              go_wp2_with fail
              refine (hV w3' b w.heap.size o s 1 h3 hlt (by omega) (by omega) (hG.le (by omega))).mono ?_
              rintro e w4' ⟨rfl, h4, hs4⟩
              generalize valueS ts (S.size : Nat) ts.length 1 s = q at *
              obtain ⟨cc, q⟩ := q
              simp only at *
              go_wp2_with fail
              refine (kid_s w4' b w.heap.size ts (S.size : Nat) o _ 0 _ h4 (Nat.lt_of_lt_of_le h0 fv.grow) (gv.tots (by omega))).mono ?_
              rintro e w5 ⟨rfl, h5, hs5⟩
              go_wp2
              go_roundg g'
              case measure => omega
              case rel => exact ⟨true, f', _, rfl, by simp only; omega, by simp only; omega, HQ.out.symm, h5, pf_trans (pf_trans hsw3 hs4) hs5, gk1.le (by omega), by simp only [len_kid]; exact Nat.lt_of_lt_of_le h0 fv.grow⟩
            · rw [if_pos rfl] at hq
              have HQ := Lib.hid hq
              obtain ⟨fw, hw1⟩ := wrap_fit (e := (S.size : Nat)) (id := 0) (d := 1) (value_fit (ts := ts) (e := (S.size : Nat)) ts.length) hwf hlt (by omega)
              have gw := hG.fit fw
              clear hq
              go_wp2_with fail
              refine (next_s wr b w.heap.size ts (S.size : Nat) o s h (by omega) (by omega)).mono ?_
              unfold NOut
              rw [HTk.out, HDl.out]
              rintro e w1' ⟨rfl, hn1, hns1⟩
              simp only
              go_upto_region 13 with (fail)
              have hbx := blk_new w1' (.cells #[.int .i64 tk, .int .i64 tf, .int .i64 tu] TTk)
              have h2 := ps_box hn1 #[.int .i64 tk, .int .i64 tf, .int .i64 tu]
              have hs2 : Step No wr (w1'.alloc (.cells #[.int .i64 tk, .int .i64 tf, .int .i64 tu] TTk)) := hns1.alloc _
              generalize hW : World.alloc w1' _ = w2' at *
              generalize w1'.heap.size = rr at *
              have hsw2 := pf_next hsw hs2 (fun _ f _ => f.elim)
              clear hW hn1 hns1 hsw hs2
              have t0 := blk_cell hbx 0
              have t1 := blk_cell hbx 1
              have t2 := blk_cell hbx 2
              simp at t0 t1 t2
              go_wp2_with fail
              refine (starts_any ⟨tk, tf, tu⟩ 1 _ (by omega)).mono ?_
              rintro e w3' ⟨rfl, hs3⟩
              rw [HNs.out]
              have h3 := h2.no hs3
              have hsw3 := pf_next hsw2 hs3 (fun _ f _ => f.elim)
              clear t0 t1 t2 hbx h2 hs3 hsw2
              go_wp2_with fail
              refine (wrapped_s hT hV w3' b w.heap.size o s 0 1 h3 h0 hlt (by omega) (by omega) (hG.le (by omega))).mono ?_
              rintro e w4' ⟨rfl, h4, hs4⟩
              go_wp2
              go_roundg g'
              case measure => omega
              case rel => exact ⟨true, f', _, rfl, by omega, by omega, HQ.out.symm, h4, pf_trans hsw3 hs4, gw.le (by omega), Nat.lt_of_lt_of_le h0 fw.grow⟩
          · have hst' : startsS ⟨tk, tf, tu⟩ 1 = false := by simpa using hst
            rw [if_neg hst] at hq
            have HQ := Lib.hid hq
            have HNs := Lib.hid hst'
            have gs := hG.fit hstr
            clear hq hst hst'
            go_wp2_with fail
            refine (next_s wr b w.heap.size ts (S.size : Nat) o s h (by omega) (by omega)).mono ?_
            unfold NOut
            rw [HTk.out, HDl.out]
            rintro e w1' ⟨rfl, hn1, hns1⟩
            simp only
            go_upto_region 13 with (fail)
            have hbx := blk_new w1' (.cells #[.int .i64 tk, .int .i64 tf, .int .i64 tu] TTk)
            have h2 := ps_box hn1 #[.int .i64 tk, .int .i64 tf, .int .i64 tu]
            have hs2 : Step No wr (w1'.alloc (.cells #[.int .i64 tk, .int .i64 tf, .int .i64 tu] TTk)) := hns1.alloc _
            generalize hW : World.alloc w1' _ = w2' at *
            generalize w1'.heap.size = rr at *
            have hsw2 := pf_next hsw hs2 (fun _ f _ => f.elim)
            clear hW hn1 hns1 hsw hs2
            have t0 := blk_cell hbx 0
            have t1 := blk_cell hbx 1
            have t2 := blk_cell hbx 2
            simp at t0 t1 t2
            go_wp2_with fail
            refine (starts_any ⟨tk, tf, tu⟩ 1 _ (by omega)).mono ?_
            rintro e w3' ⟨rfl, hs3⟩
            rw [HNs.out]
            have h3 := h2.no hs3
            have hsw3 := pf_next hsw2 hs3 (fun _ f _ => f.elim)
            clear t0 t1 t2 hbx h2 hs3 hsw2
            go_wp2_with fail
            refine (stray_s w3' b w.heap.size ts (S.size : Nat) o s 0 h3 h0 hlen htot (by omega) (by omega)).mono ?_
            rintro e w4' ⟨rfl, h4, hs4⟩
            go_wp2
            go_roundg g'
            case measure => omega
            case rel => exact ⟨one, f', strayS ts (S.size : Nat) 0 s, rfl, by simp only [strayS]; omega, by simp only [strayS]; omega, HQ.out.symm, h4, pf_trans hsw3 hs4, gs.le (by omega), Nat.lt_of_lt_of_le h0 hstr.grow⟩
        · rw [if_neg hlt] at hq
          subst hq
          simp only at HPT
          have hdl : decide (s.1 < ts.length) = false := decide_eq_false hlt
          have HDl := Lib.hid hdl
          clear hdl
          go_wp2_with fail
          refine (next_s wr b w.heap.size ts (S.size : Nat) o s h (by omega) (by omega)).mono ?_
          unfold NOut
          rw [HDl.out]
          generalize tokS ts (S.size : Nat) s.1 = t at *
          obtain ⟨tk, tf, tu⟩ := t
          rintro e w1' ⟨rfl, hn1, hns1⟩
          simp only
          go_upto_region 13 with (fail)
          have h2 := ps_box hn1 #[.int .i64 tk, .int .i64 tf, .int .i64 tu]
          have hs2 : Step No wr (w1'.alloc (.cells #[.int .i64 tk, .int .i64 tf, .int .i64 tu] TTk)) := hns1.alloc _
          generalize hW : World.alloc w1' _ = w2' at *
          generalize w1'.heap.size = rr at *
          have hsw2 := pf_next hsw hs2 (fun _ f _ => f.elim)
          clear hW hn1 hns1 hsw hs2
          cases one
          · have HPT2 : Hid (PT = ⟨0, ((lackS s.2 0 (S.size : Nat)).length : Nat), lackS s.2 0 (S.size : Nat)⟩) := Lib.hid (by rw [HPT.out]; rfl)
            clear HPT
            have fl := lack_fit (T := ts.length) hwf hon 0 (S.size : Nat)
            have gl := hG.fit fl
            go_wp2_with fail
            refine (lack_s w2' b w.heap.size ts (S.size : Nat) o s 0 (S.size : Nat) h2 h0 hlen htot).mono ?_
            rintro e w3' ⟨rfl, h3, hs3⟩
            have hsw3 := pf_trans hsw2 hs3
            clear h2 hsw2 hs3
            obtain ⟨nv, ys, hp⟩ := h3
            have hres := pf_stays HWr.out HRes.out (by decide) hsw3
            have hdone := pf_done HSt.out hsw3 HGe.out
            obtain ⟨A9, c9, rfl, -, -⟩ := row_slice hp.nodes.1
            have HF := Lib.hid (fin hp hres hdone HGe.out (ys.length : Nat))
            have hrl := blk_lt hres
            have HEq : Hid (PT = ⟨0, (ys.length : Nat), ys.map (·.1)⟩) := Lib.hid (by rw [hp.len, hp.eq]; exact HPT2.out)
            have HAp := Lib.hid hp.apart
            have p5 := blk_cell hp.blk 5
            have p4 := blk_cell hp.blk 4
            have f4 := blk_free hp.blk 4
            simp at p4 p5
            clear hp hres hdone hsw3 HPT2 HRes HSt HWr hq hlen htot hwf
            go_upto_region 23 with (fail)
            clear p4 p5 f4
            generalize hW : World.setCell w3' ⟨b, 4, none⟩ _ = w6 at *
            clear hW
            have p3 := blk_cell HF.out.1 3
            have p4 := blk_cell HF.out.1 4
            have p5 := blk_cell HF.out.1 5
            have r0 := blk_cell HF.out.2.1 0
            have r1 := blk_cell HF.out.2.1 1
            have r2 := blk_cell HF.out.2.1 2
            have f0 := blk_free HF.out.2.1 0
            have f1 := blk_free HF.out.2.1 1
            have f2 := blk_free HF.out.2.1 2
            simp at p3 p4 p5 r0 r1 r2
            go_wp2
            generalize hW : World.setCell (World.setCell (World.setCell w6 _ _) _ _) _ _ = w7 at *
            have r0' := blk_cell HF.out.2.2.1 0
            have r1' := blk_cell HF.out.2.2.1 1
            have r2' := blk_cell HF.out.2.2.1 2
            simp at r0' r1' r2'
            exact bodyPost_ret (v := .tuple #[.agg #[.int .i64 0, .int .i64 (ys.length : Nat), .slice A9 ys.length c9], .int .i64 0]) (by simp [results, Tryz.results5, go_sem, r0', r1', r2']) rfl ⟨_, ys, by rw [HEq.out], by rw [HEq.out], HF.out.2.2.2.1, HAp.out, HF.out.2.2.2.2⟩
          · have HPT2 : Hid (PT = ⟨0, (s.2.length : Nat), s.2⟩) := Lib.hid (by rw [HPT.out]; rfl)
            clear HPT
            obtain ⟨nv, ys, hp⟩ := h2
            have hres := pf_stays HWr.out HRes.out (by decide) hsw2
            have hdone := pf_done HSt.out hsw2 HGe.out
            obtain ⟨A9, c9, rfl, -, -⟩ := row_slice hp.nodes.1
            have HF := Lib.hid (fin hp hres hdone HGe.out (ys.length : Nat))
            have hrl := blk_lt hres
            have HEq : Hid (PT = ⟨0, (ys.length : Nat), ys.map (·.1)⟩) := Lib.hid (by rw [hp.len, hp.eq]; exact HPT2.out)
            have HAp := Lib.hid hp.apart
            have p5 := blk_cell hp.blk 5
            have p4 := blk_cell hp.blk 4
            have f4 := blk_free hp.blk 4
            simp at p4 p5
            clear hp hres hdone hsw2 HPT2 HRes HSt HWr hq hlen htot hwf
            go_upto_region 23 with (fail)
            clear p4 p5 f4
            generalize hW : World.setCell w2' ⟨b, 4, none⟩ _ = w6 at *
            clear hW
            have p3 := blk_cell HF.out.1 3
            have p4 := blk_cell HF.out.1 4
            have p5 := blk_cell HF.out.1 5
            have r0 := blk_cell HF.out.2.1 0
            have r1 := blk_cell HF.out.2.1 1
            have r2 := blk_cell HF.out.2.1 2
            have f0 := blk_free HF.out.2.1 0
            have f1 := blk_free HF.out.2.1 1
            have f2 := blk_free HF.out.2.1 2
            simp at p3 p4 p5 r0 r1 r2
            go_wp2
            generalize hW : World.setCell (World.setCell (World.setCell w6 _ _) _ _) _ _ = w7 at *
            have r0' := blk_cell HF.out.2.2.1 0
            have r1' := blk_cell HF.out.2.2.1 1
            have r2' := blk_cell HF.out.2.2.1 2
            simp at r0' r1' r2'
            exact bodyPost_ret (v := .tuple #[.agg #[.int .i64 0, .int .i64 (ys.length : Nat), .slice A9 ys.length c9], .int .i64 0]) (by simp [results, Tryz.results5, go_sem, r0', r1', r2']) rfl ⟨_, ys, by rw [HEq.out], by rw [HEq.out], HF.out.2.2.2.1, HAp.out, HF.out.2.2.2.2⟩
end Go.Proofs.YtkamhpbfebdhjaaGreatDoor.RefPar9
