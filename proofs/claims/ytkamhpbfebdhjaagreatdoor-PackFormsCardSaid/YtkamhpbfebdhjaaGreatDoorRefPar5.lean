/- The document's parser: a pair. -/
import Derived.Test.YtkamhpbfebdhjaaGreatDoorRefPar4
import Derived.IntWalk
namespace Go.Proofs.YtkamhpbfebdhjaaGreatDoor.RefPar5
open Go.RowKit Go.Lib Go.Proofs.YtkamhpbfebdhjaaGreatDoor.Mem Go.Proofs.YtkamhpbfebdhjaaGreatDoor.Read Go.Proofs.YtkamhpbfebdhjaaGreatDoor.Tree Go.Proofs.YtkamhpbfebdhjaaGreatDoor.Data Go.Proofs.YtkamhpbfebdhjaaGreatDoor.OwnR Go.Proofs.YtkamhpbfebdhjaaGreatDoor.Tr Go.Proofs.YtkamhpbfebdhjaaGreatDoor.Tr2 Go.Proofs.YtkamhpbfebdhjaaGreatDoor.ParS Go.Proofs.YtkamhpbfebdhjaaGreatDoor.ParG Go.Proofs.YtkamhpbfebdhjaaGreatDoor.LexS Go.Proofs.YtkamhpbfebdhjaaGreatDoor.RefLex4 Go.Proofs.YtkamhpbfebdhjaaGreatDoor.RefPar1 Go.Proofs.YtkamhpbfebdhjaaGreatDoor.RefPar2 Go.Proofs.YtkamhpbfebdhjaaGreatDoor.RefPar3 Go.Proofs.YtkamhpbfebdhjaaGreatDoor.RefPar4
set_option linter.unusedVariables false
set_option linter.unusedSimpArgs false
theorem ps_ts {w : World} {b base : Nat} {ts : List TokD} {en : Int} {tv : Value} {s : PS} (h : PS' w b base ts en tv s) : TksW base w ts tv := by
  obtain ⟨nv, ys, h⟩ := h
  exact h.tks
theorem ps_lt {w : World} {b base : Nat} {ts : List TokD} {en : Int} {tv : Value} {s : PS} (h : PS' w b base ts en tv s) : tv.ownBlock ≠ some w.heap.size := fun e => absurd ((ps_ts h).1.lt _ e).2 (Nat.lt_irrefl _)
theorem sets_box {w : World} {b base : Nat} {ts : List TokD} {en : Int} {tv : Value} {s : PS} (h : PS' w b base ts en tv s) {r : Nat} {a0 a1 a2 : Value} (hr : w.heap[r]? = some (.cells #[a0, a1, a2] TTk (0, 0))) (hne : tv.ownBlock ≠ some r) (v0 v1 v2 : Value) :
    PS' (((w.setCell ⟨r, 0, none⟩ v0).setCell ⟨r, 1, none⟩ v1).setCell ⟨r, 2, none⟩ v2) b base ts en tv s ∧ (((w.setCell ⟨r, 0, none⟩ v0).setCell ⟨r, 1, none⟩ v1).setCell ⟨r, 2, none⟩ v2).heap[r]? = some (.cells #[v0, v1, v2] TTk (0, 0)) ∧ ((((w.setCell ⟨r, 0, none⟩ v0).setCell ⟨r, 1, none⟩ v1).setCell ⟨r, 2, none⟩ v2).heap.size = w.heap.size) ∧ Step (fun k => k = r) w (((w.setCell ⟨r, 0, none⟩ v0).setCell ⟨r, 1, none⟩ v1).setCell ⟨r, 2, none⟩ v2) := by
  have r1 := blk_set hr 0 v0
  have r2 := blk_set r1 1 v1
  have r3 := blk_set r2 2 v2
  refine ⟨ps_setbox (ps_setbox (ps_setbox h hr hne 0 v0) r1 hne 1 v1) r2 hne 2 v2, by simpa using r3, by simp [World.setCell], ?_⟩
  refine set_at (set_at (set_at (Step.refl _ _) ?_ _) ?_ _) ?_ _ <;> rfl
theorem pair_eq {T : PS → PS} {c : Int × PS} {z : Int} {q q' : PS} {x : Nat} (h1 : c = (z, q)) (h2 : T q = q') : ((T c.2).1, closeS (T c.2).2 x c.1) = (q'.1, closeS q'.2 x z) := by
  subst h1
  subst h2
  rfl
set_option maxHeartbeats 4000000 in
set_option maxRecDepth 100000 in
theorem pair_s {ts : List TokD} {en : Int} {n : Nat} (hT : ts.length ≤ 300) (hV : ValC ts en n) (w : World) (b base : Nat) (tv : Value) (s : PS) (x d : Nat) (h : PS' w b base ts en tv s) (hx : x < s.2.length) (hi : s.1 < ts.length) (hk6 : (tokS ts en s.1).kind = 6) (hn : ts.length ≤ s.1 + n) (hd : d + 1 + ts.length ≤ s.1 + 700) (hG : Fine ts.length (4996 - 10 * n) s) :
    Calls Tryz.prog 90 #[.pointer (some ⟨b, 0, none⟩), .int .i64 (x : Nat), .int .i64 (d : Nat)] w (Out (.tuple #[]) w b base ts en tv (pairS ts en (valueS ts en n) x d s)) := by
  have hf := valC_fits (ts := ts) (en := en) n
  have hleaf := value_leaf (ts := ts) (e := en) n (d + 1) s hi hn hk6
  obtain ⟨f1, hlt1, hc1, hx1⟩ := hf (d + 1) s hi hn hG.wf
  have fl := leaf_fit (T := ts.length) hG.wf hi 4 (tokS ts en s.1).fr (tokS ts en s.1).up
  have f1' : Fit ts.length s (valueS ts en n (d + 1) s).2 (-4) 1 := by rw [hleaf]; exact fl
  have g1 := hG.fit f1'
  have f2 := kid_fit f1' x hc1
  have g2 := hG.fit f2
  obtain ⟨R, hR⟩ : ∃ R, pairS ts en (valueS ts en n) x d s = R := ⟨_, rfl⟩
  rw [hR]
  have HPair : Hid (R = ((tailS ts en (valueS ts en n) x d (colonS ts en x ((valueS ts en n (d + 1) s).2.1, kidS (valueS ts en n (d + 1) s).2.2 x ((valueS ts en n (d + 1) s).1 : Nat))).2).1, closeS (tailS ts en (valueS ts en n) x d (colonS ts en x ((valueS ts en n (d + 1) s).2.1, kidS (valueS ts en n (d + 1) s).2.2 x ((valueS ts en n (d + 1) s).1 : Nat))).2).2 x (colonS ts en x ((valueS ts en n (d + 1) s).2.1, kidS (valueS ts en n (d + 1) s).2.2 x ((valueS ts en n (d + 1) s).1 : Nat))).1)) := Lib.hid (by rw [← hR]; rfl)
  clear hleaf fl hk6 f1 hR
  go_enter Tryz.func90, Tryz.ntmps90
  go_wp2_with fail
  refine (hV w b base tv s (d + 1) h hi hn (by omega) (hG.le (by omega))).mono ?_
  rintro e w1 ⟨rfl, h1, hs1⟩
  generalize valueS ts en n (d + 1) s = q at *
  obtain ⟨c, i1, ns1⟩ := q
  simp only at *
  go_wp2_with fail
  refine (kid_s w1 b base ts en tv _ x _ h1 (by have := f1'.grow; simp only at this ⊢; omega) (g1.tots (by omega))).mono ?_
  rintro e w2 ⟨rfl, h2, hs2⟩
  go_upto_region 1 with (fail)
  try simp only at h2 hs2
  generalize kidS ns1 x (c : Nat) = ns2 at *
  obtain ⟨j, rfl⟩ : ∃ j, i1 = j + 1 := ⟨i1 - 1, by omega⟩
  have hjT : j < ts.length := by have := g2.on; simp only at this; omega
  obtain ⟨nv2, hblk2⟩ := ps_blk h2
  have p0 := blk_cell hblk2 0
  have p1 := blk_cell hblk2 1
  simp at p0 p1
  have htk := ps_ts h2
  obtain ⟨A, ctv, htv, -, -⟩ := row_slice htk.1
  have HTV := Lib.hid htv
  rw [htv] at p0 htk
  obtain ⟨gt, rfl, -, q0, q1, q2⟩ := tks_at htk hjT
  have hj0 : (0 : Int) ≤ (j : Nat) := by omega
  have hj1 : ((j : Nat) : Int) < ts.length := by omega
  have hwj : IntKind.i64.wrap ((j : Nat) : Int) = (j : Nat) := IntWalk.i64_in _ (by omega)
  have hcol := fun z q (h : colonS ts en x (j + 1, ns2) = (z, q)) => h
  have Hc1 : Hid (colonS ts en x (j + 1, ns2) = if j + 1 < ts.length ∧ (tokS ts en (j + 1)).kind = 4 then ((tokS ts en (j + 1)).up, (j + 1 + 1, ns2)) else (ts[j].up, (j + 1, lackS ns2 x (tokS ts en (j + 1)).fr))) := Lib.hid (by unfold colonS; simp only [Nat.add_sub_cancel]; rw [tok_in hjT])
  generalize ts[j].up = to0 at *
  clear hcol htv htk hblk2
  go_quiet (fail)
  have h2 := h2.no (Step.drewN (Step.refl No w2) nq)
  have hs2 := pf_next hs2 (Step.drewN (Step.refl No w2) nq) (fun _ f _ => f.elim)
  generalize hD : World.drewN w2 nq = w2' at *
  clear hD p0 p1 q0 q1 q2 hwj
  generalize j + 1 = i2 at *
  have f3 := colon_fit (ts := ts) (e := en) (x := x) (s := (i2, ns2)) g2.wf g2.on
  have g3 := g2.fit f3
  have hsw : Step (PF b base w) w w2' := pf_trans hs1 hs2
  have hxl : x < ns2.length := by have := f2.grow; simp only at this; omega
  have hl2 := g2.len (by omega)
  have ht2 := g2.tots (by omega)
  have hj2 := g2.on
  simp only at hl2 ht2 hj2
  clear hs1 hs2 h1
  go_wp2_with fail
  refine (next_s w2' b base ts en tv _ h2 (by simp only; omega) (by omega)).mono ?_
  unfold NOut
  simp only
  generalize tokS ts en i2 = t at *
  obtain ⟨tk, tf, tu⟩ := t
  rintro e w3 ⟨rfl, h3, hs3⟩
  simp only at Hc1 ⊢
  go_upto_region 3 with (fail)
  have hb := blk_new w3 (.cells #[.int .i64 tk, .int .i64 tf, .int .i64 tu] TTk)
  have h4 := ps_box h3 #[.int .i64 tk, .int .i64 tf, .int .i64 tu]
  have hs4 : Step No w2' (w3.alloc (.cells #[.int .i64 tk, .int .i64 tf, .int .i64 tu] TTk)) := hs3.alloc _
  have hrs : w.heap.size ≤ w3.heap.size := Nat.le_trans hsw.size hs3.size
  have hne : tv.ownBlock ≠ some w3.heap.size := ps_lt h3
  generalize hW : World.alloc w3 _ = w4 at *
  generalize w3.heap.size = r at *
  have hsw4 := pf_next hsw hs4 (fun _ f _ => f.elim)
  have HNe := Lib.hid hne
  clear hW h2 h3 hs3 hsw hs4 hne
  have t0 := blk_cell hb 0
  have t1 := blk_cell hb 1
  have t2 := blk_cell hb 2
  simp at t0 t1 t2
  by_cases hlt : i2 < ts.length
  · have hdl : decide (i2 < ts.length) = true := decide_eq_true hlt
    rw [hdl]
    by_cases hk4 : tk = 4
    · have e4 : (tk == 4) = true := beq_iff_eq.2 hk4
      have HC := Lib.hid (Hc1.out.trans (if_pos ⟨hlt, hk4⟩))
      clear hk4 hdl
      rw [HC.out] at f3 g3
      simp only at f3 g3
      obtain ⟨nv, hblk⟩ := ps_blk h4
      have c1 := blk_cell hblk 1
      have f1 := blk_free hblk 1
      simp at c1
      have hinc := ps_inc h4
      go_upto_region 7 with (fail)
      generalize hW : World.setCell w4 ⟨b, 1, none⟩ _ = w5 at *
      clear hW c1 f1 hblk
      obtain ⟨h5', hs5⟩ := hinc
      have h5 : PS' w5 b base ts en tv (i2 + 1, ns2) := h5'
      clear h5'
      have hb5 := box_stays h4 hb hs5
      have hsw5 := pf_trans hsw4 hs5
      clear t0 t1 t2 hb h4 hs5 hsw4 e4
      have hl3 : (ns2).length ≤ 5000 := g3.len (by omega)
      have ht3 : tot ns2 ≤ 5000 := g3.tots (by omega)
      have hi3 : (i2 + 1) ≤ ts.length := g3.on
      have hx3 : x < (ns2).length := Nat.lt_of_lt_of_le hxl f3.grow
      have HT : Hid (tailS ts en (valueS ts en n) x d ((i2 + 1), ns2) = if (i2 + 1) < ts.length ∧ startsS (tokS ts en (i2 + 1)) (d + 1) = true then ((valueS ts en n (d + 1) ((i2 + 1), ns2)).2.1, kidS (valueS ts en n (d + 1) ((i2 + 1), ns2)).2.2 x ((valueS ts en n (d + 1) ((i2 + 1), ns2)).1 : Nat)) else ((i2 + 1), lackS ns2 x (tokS ts en (i2 + 1)).fr)) := Lib.hid rfl
      have f4 := tail_fit (ts := ts) (e := en) (x := x) (d := d) hf g3.wf g3.on (by simp only; omega)
      have g4 := g3.fit f4
      have hlen4 := g4.len (by omega)
      have htot4 := g4.tots (by omega)
      have hwf4 := g4.wf
      have hx4 := Nat.lt_of_lt_of_le hx3 f4.grow
      go_wp2_with fail
      refine (next_s w5 b base ts en tv _ h5 (by simp only; omega) (by omega)).mono ?_
      unfold NOut
      simp only
      generalize tokS ts en (i2 + 1) = t2 at *
      obtain ⟨tk2, tf2, tu2⟩ := t2
      rintro e w6 ⟨rfl, h6, hs6⟩
      simp only at HT ⊢
      have hb6 := hs6.blk hb5 (fun f => f)
      have t0 := blk_cell hb6 0
      have t1 := blk_cell hb6 1
      have t2 := blk_cell hb6 2
      simp at t0 t1 t2
      have f0 := blk_free hb6 0
      have f1 := blk_free hb6 1
      have f2' := blk_free hb6 2
      have hbx := sets_box h6 hb6 HNe.out (.int .i64 tk2) (.int .i64 tf2) (.int .i64 tu2)
      go_upto_region 8 with (fail)
      generalize hW : World.setCell (World.setCell (World.setCell w6 ⟨r, 0, none⟩ _) ⟨r, 1, none⟩ _) ⟨r, 2, none⟩ _ = w7 at *
      obtain ⟨h7, hb7, -, hs7⟩ := hbx
      have hsw7 : Step (PF b base w) w w7 := pf_next (pf_next hsw5 hs6 (fun _ f _ => f.elim)) hs7 (fun jj e hlt => absurd hlt (by omega))
      clear hW t0 t1 t2 f0 f1 f2' hb5 hb6 h5 h6 hs6 hs7 hsw5
      have t0 := blk_cell hb7 0
      have t1 := blk_cell hb7 1
      have t2 := blk_cell hb7 2
      simp at t0 t1 t2
      by_cases hl2' : (i2 + 1) < ts.length
      ·
        have hdl2 : decide ((i2 + 1) < ts.length) = true := decide_eq_true hl2'
        rw [hdl2]
        by_cases hst : startsS ⟨tk2, tf2, tu2⟩ (d + 1) = true
        · have HC2 := Lib.hid (HT.out.trans (if_pos ⟨hl2', hst⟩))
          have HSt := Lib.hid hst
          obtain ⟨fv, hv1, hv2, hv3⟩ := hf (d + 1) ((i2 + 1), ns2) hl2' (by simp only; omega) g3.wf
          have gv := g3.fit fv
          have htv := gv.tots (by omega)
          have HE := Lib.hid (HPair.out.trans (pair_eq (T := tailS ts en (valueS ts en n) x d) HC.out HC2.out))
          rw [HC2.out] at hlen4 htot4 hwf4 hx4
          simp only at hlen4 htot4 hwf4 hx4
          clear hst hdl2
          go_wp2_with fail
          refine (starts_any ⟨tk2, tf2, tu2⟩ (d + 1) _ (by omega)).mono ?_
          rintro e w8 ⟨rfl, hs8⟩
          rw [HSt.out]
          have h8 := h7.no hs8
          have hsw8 := pf_next hsw7 hs8 (fun _ f _ => f.elim)
          go_wp2_with fail
          refine (hV w8 b base tv ((i2 + 1), ns2) (d + 1) h8 hl2' (by simp only; omega) (by simp only; omega) (g3.le (by omega))).mono ?_
          rintro e w9 ⟨rfl, h9, hs9⟩
          go_wp2_with fail
          refine (kid_s w9 b base ts en tv _ x _ h9 (Nat.lt_of_lt_of_le hx3 fv.grow) htv).mono ?_
          rintro e w10 ⟨rfl, h10, hs10⟩
          go_wp2_with fail
          refine (close_s w10 b base ts en tv _ x tu h10 hx4 htot4 hlen4 hwf4).mono ?_
          rintro e w11 ⟨rfl, h11, hs11⟩
          go_wp2
          go_end0
          exact ⟨rfl, by rw [HE.out]; exact h11, pf_trans (pf_trans (pf_trans hsw8 hs9) hs10) hs11⟩
        · have hst' : startsS ⟨tk2, tf2, tu2⟩ (d + 1) = false := by simpa using hst
          have HC2 := Lib.hid (HT.out.trans (if_neg (fun hh => hst hh.2)))
          have HSt := Lib.hid hst'
          have HE := Lib.hid (HPair.out.trans (pair_eq (T := tailS ts en (valueS ts en n) x d) HC.out HC2.out))
          rw [HC2.out] at hlen4 htot4 hwf4 hx4
          simp only at hlen4 htot4 hwf4 hx4
          clear hst hst' hdl2
          go_wp2_with fail
          refine (starts_any ⟨tk2, tf2, tu2⟩ (d + 1) _ (by omega)).mono ?_
          rintro e w8 ⟨rfl, hs8⟩
          rw [HSt.out]
          have h8 := h7.no hs8
          have hb8 := hs8.blk hb7 (fun f => f)
          have hsw8 := pf_next hsw7 hs8 (fun _ f _ => f.elim)
          clear t0 t1 t2
          have t0 := blk_cell hb8 0
          have t1 := blk_cell hb8 1
          have t2 := blk_cell hb8 2
          simp at t0 t1 t2
          go_wp2_with fail
          refine (lack_s w8 b base ts en tv _ x tf2 h8 hx3 hl3 ht3).mono ?_
          rintro e w9 ⟨rfl, h9, hs9⟩
          go_wp2_with fail
          refine (close_s w9 b base ts en tv _ x tu h9 hx4 htot4 hlen4 hwf4).mono ?_
          rintro e w11 ⟨rfl, h11, hs11⟩
          go_wp2
          go_end0
          exact ⟨rfl, by rw [HE.out]; exact h11, pf_trans (pf_trans hsw8 hs9) hs11⟩
      ·
        have hdl2 : decide ((i2 + 1) < ts.length) = false := decide_eq_false hl2'
        rw [hdl2]
        have HC2 := Lib.hid (HT.out.trans (if_neg (fun hh => hl2' hh.1)))
        have HE := Lib.hid (HPair.out.trans (pair_eq (T := tailS ts en (valueS ts en n) x d) HC.out HC2.out))
        rw [HC2.out] at hlen4 htot4 hwf4 hx4
        simp only at hlen4 htot4 hwf4 hx4
        clear hdl2
        go_wp2_with fail
        refine (lack_s w7 b base ts en tv _ x tf2 h7 hx3 hl3 ht3).mono ?_
        rintro e w9 ⟨rfl, h9, hs9⟩
        go_wp2_with fail
        refine (close_s w9 b base ts en tv _ x tu h9 hx4 htot4 hlen4 hwf4).mono ?_
        rintro e w11 ⟨rfl, h11, hs11⟩
        go_wp2
        go_end0
        exact ⟨rfl, by rw [HE.out]; exact h11, pf_trans (pf_trans hsw7 hs9) hs11⟩
    · have e4 : (tk == 4) = false := beq_eq_false_iff_ne.2 hk4
      have HC := Lib.hid (Hc1.out.trans (if_neg (fun hh => hk4 hh.2)))
      clear hk4 hdl
      rw [HC.out] at f3 g3
      simp only at f3 g3
      go_wp2_with fail
      refine (lack_s w4 b base ts en tv _ x tf h4 hxl hl2 ht2).mono ?_
      rintro e w5 ⟨rfl, h5, hs5⟩
      go_upto_region 7 with (fail)
      have hb5 := box_stays h4 hb hs5
      have hsw5 := pf_trans hsw4 hs5
      clear t0 t1 t2 hb h4 hs5 hsw4
      have hl3 : ((lackS ns2 x tf)).length ≤ 5000 := g3.len (by omega)
      have ht3 : tot (lackS ns2 x tf) ≤ 5000 := g3.tots (by omega)
      have hi3 : i2 ≤ ts.length := g3.on
      have hx3 : x < ((lackS ns2 x tf)).length := Nat.lt_of_lt_of_le hxl f3.grow
      have HT : Hid (tailS ts en (valueS ts en n) x d (i2, (lackS ns2 x tf)) = if i2 < ts.length ∧ startsS (tokS ts en i2) (d + 1) = true then ((valueS ts en n (d + 1) (i2, (lackS ns2 x tf))).2.1, kidS (valueS ts en n (d + 1) (i2, (lackS ns2 x tf))).2.2 x ((valueS ts en n (d + 1) (i2, (lackS ns2 x tf))).1 : Nat)) else (i2, lackS (lackS ns2 x tf) x (tokS ts en i2).fr)) := Lib.hid rfl
      have f4 := tail_fit (ts := ts) (e := en) (x := x) (d := d) hf g3.wf g3.on (by simp only; omega)
      have g4 := g3.fit f4
      have hlen4 := g4.len (by omega)
      have htot4 := g4.tots (by omega)
      have hwf4 := g4.wf
      have hx4 := Nat.lt_of_lt_of_le hx3 f4.grow
      go_wp2_with fail
      refine (next_s w5 b base ts en tv _ h5 (by simp only; omega) (by omega)).mono ?_
      unfold NOut
      simp only
      generalize tokS ts en i2 = t2 at *
      obtain ⟨tk2, tf2, tu2⟩ := t2
      rintro e w6 ⟨rfl, h6, hs6⟩
      simp only at HT ⊢
      have hb6 := hs6.blk hb5 (fun f => f)
      have t0 := blk_cell hb6 0
      have t1 := blk_cell hb6 1
      have t2 := blk_cell hb6 2
      simp at t0 t1 t2
      have f0 := blk_free hb6 0
      have f1 := blk_free hb6 1
      have f2' := blk_free hb6 2
      have hbx := sets_box h6 hb6 HNe.out (.int .i64 tk2) (.int .i64 tf2) (.int .i64 tu2)
      go_upto_region 8 with (fail)
      generalize hW : World.setCell (World.setCell (World.setCell w6 ⟨r, 0, none⟩ _) ⟨r, 1, none⟩ _) ⟨r, 2, none⟩ _ = w7 at *
      obtain ⟨h7, hb7, -, hs7⟩ := hbx
      have hsw7 : Step (PF b base w) w w7 := pf_next (pf_next hsw5 hs6 (fun _ f _ => f.elim)) hs7 (fun jj e hlt => absurd hlt (by omega))
      clear hW t0 t1 t2 f0 f1 f2' hb5 hb6 h5 h6 hs6 hs7 hsw5
      have t0 := blk_cell hb7 0
      have t1 := blk_cell hb7 1
      have t2 := blk_cell hb7 2
      simp at t0 t1 t2
      have hl2' := hlt
      have hdl2 : decide (i2 < ts.length) = true := decide_eq_true hl2'
      rw [hdl2]
      by_cases hst : startsS ⟨tk2, tf2, tu2⟩ (d + 1) = true
      · have HC2 := Lib.hid (HT.out.trans (if_pos ⟨hl2', hst⟩))
        have HSt := Lib.hid hst
        obtain ⟨fv, hv1, hv2, hv3⟩ := hf (d + 1) (i2, (lackS ns2 x tf)) hl2' (by simp only; omega) g3.wf
        have gv := g3.fit fv
        have htv := gv.tots (by omega)
        have HE := Lib.hid (HPair.out.trans (pair_eq (T := tailS ts en (valueS ts en n) x d) HC.out HC2.out))
        rw [HC2.out] at hlen4 htot4 hwf4 hx4
        simp only at hlen4 htot4 hwf4 hx4
        clear hst hdl2
        go_wp2_with fail
        refine (starts_any ⟨tk2, tf2, tu2⟩ (d + 1) _ (by omega)).mono ?_
        rintro e w8 ⟨rfl, hs8⟩
        rw [HSt.out]
        have h8 := h7.no hs8
        have hsw8 := pf_next hsw7 hs8 (fun _ f _ => f.elim)
        go_wp2_with fail
        refine (hV w8 b base tv (i2, (lackS ns2 x tf)) (d + 1) h8 hl2' (by simp only; omega) (by simp only; omega) (g3.le (by omega))).mono ?_
        rintro e w9 ⟨rfl, h9, hs9⟩
        go_wp2_with fail
        refine (kid_s w9 b base ts en tv _ x _ h9 (Nat.lt_of_lt_of_le hx3 fv.grow) htv).mono ?_
        rintro e w10 ⟨rfl, h10, hs10⟩
        go_wp2_with fail
        refine (close_s w10 b base ts en tv _ x to0 h10 hx4 htot4 hlen4 hwf4).mono ?_
        rintro e w11 ⟨rfl, h11, hs11⟩
        go_wp2
        go_end0
        exact ⟨rfl, by rw [HE.out]; exact h11, pf_trans (pf_trans (pf_trans hsw8 hs9) hs10) hs11⟩
      · have hst' : startsS ⟨tk2, tf2, tu2⟩ (d + 1) = false := by simpa using hst
        have HC2 := Lib.hid (HT.out.trans (if_neg (fun hh => hst hh.2)))
        have HSt := Lib.hid hst'
        have HE := Lib.hid (HPair.out.trans (pair_eq (T := tailS ts en (valueS ts en n) x d) HC.out HC2.out))
        rw [HC2.out] at hlen4 htot4 hwf4 hx4
        simp only at hlen4 htot4 hwf4 hx4
        clear hst hst' hdl2
        go_wp2_with fail
        refine (starts_any ⟨tk2, tf2, tu2⟩ (d + 1) _ (by omega)).mono ?_
        rintro e w8 ⟨rfl, hs8⟩
        rw [HSt.out]
        have h8 := h7.no hs8
        have hb8 := hs8.blk hb7 (fun f => f)
        have hsw8 := pf_next hsw7 hs8 (fun _ f _ => f.elim)
        clear t0 t1 t2
        have t0 := blk_cell hb8 0
        have t1 := blk_cell hb8 1
        have t2 := blk_cell hb8 2
        simp at t0 t1 t2
        go_wp2_with fail
        refine (lack_s w8 b base ts en tv _ x tf2 h8 hx3 hl3 ht3).mono ?_
        rintro e w9 ⟨rfl, h9, hs9⟩
        go_wp2_with fail
        refine (close_s w9 b base ts en tv _ x to0 h9 hx4 htot4 hlen4 hwf4).mono ?_
        rintro e w11 ⟨rfl, h11, hs11⟩
        go_wp2
        go_end0
        exact ⟨rfl, by rw [HE.out]; exact h11, pf_trans (pf_trans hsw8 hs9) hs11⟩
  · have hdl : decide (i2 < ts.length) = false := decide_eq_false hlt
    rw [hdl]
    have HC := Lib.hid (Hc1.out.trans (if_neg (fun hh => hlt hh.1)))
    clear hdl
    rw [HC.out] at f3 g3
    simp only at f3 g3
    go_wp2_with fail
    refine (lack_s w4 b base ts en tv _ x tf h4 hxl hl2 ht2).mono ?_
    rintro e w5 ⟨rfl, h5, hs5⟩
    go_upto_region 7 with (fail)
    have hb5 := box_stays h4 hb hs5
    have hsw5 := pf_trans hsw4 hs5
    clear t0 t1 t2 hb h4 hs5 hsw4
    have hl3 : ((lackS ns2 x tf)).length ≤ 5000 := g3.len (by omega)
    have ht3 : tot (lackS ns2 x tf) ≤ 5000 := g3.tots (by omega)
    have hi3 : i2 ≤ ts.length := g3.on
    have hx3 : x < ((lackS ns2 x tf)).length := Nat.lt_of_lt_of_le hxl f3.grow
    have HT : Hid (tailS ts en (valueS ts en n) x d (i2, (lackS ns2 x tf)) = if i2 < ts.length ∧ startsS (tokS ts en i2) (d + 1) = true then ((valueS ts en n (d + 1) (i2, (lackS ns2 x tf))).2.1, kidS (valueS ts en n (d + 1) (i2, (lackS ns2 x tf))).2.2 x ((valueS ts en n (d + 1) (i2, (lackS ns2 x tf))).1 : Nat)) else (i2, lackS (lackS ns2 x tf) x (tokS ts en i2).fr)) := Lib.hid rfl
    have f4 := tail_fit (ts := ts) (e := en) (x := x) (d := d) hf g3.wf g3.on (by simp only; omega)
    have g4 := g3.fit f4
    have hlen4 := g4.len (by omega)
    have htot4 := g4.tots (by omega)
    have hwf4 := g4.wf
    have hx4 := Nat.lt_of_lt_of_le hx3 f4.grow
    go_wp2_with fail
    refine (next_s w5 b base ts en tv _ h5 (by simp only; omega) (by omega)).mono ?_
    unfold NOut
    simp only
    generalize tokS ts en i2 = t2 at *
    obtain ⟨tk2, tf2, tu2⟩ := t2
    rintro e w6 ⟨rfl, h6, hs6⟩
    simp only at HT ⊢
    have hb6 := hs6.blk hb5 (fun f => f)
    have t0 := blk_cell hb6 0
    have t1 := blk_cell hb6 1
    have t2 := blk_cell hb6 2
    simp at t0 t1 t2
    have f0 := blk_free hb6 0
    have f1 := blk_free hb6 1
    have f2' := blk_free hb6 2
    have hbx := sets_box h6 hb6 HNe.out (.int .i64 tk2) (.int .i64 tf2) (.int .i64 tu2)
    go_upto_region 8 with (fail)
    generalize hW : World.setCell (World.setCell (World.setCell w6 ⟨r, 0, none⟩ _) ⟨r, 1, none⟩ _) ⟨r, 2, none⟩ _ = w7 at *
    obtain ⟨h7, hb7, -, hs7⟩ := hbx
    have hsw7 : Step (PF b base w) w w7 := pf_next (pf_next hsw5 hs6 (fun _ f _ => f.elim)) hs7 (fun jj e hlt => absurd hlt (by omega))
    clear hW t0 t1 t2 f0 f1 f2' hb5 hb6 h5 h6 hs6 hs7 hsw5
    have t0 := blk_cell hb7 0
    have t1 := blk_cell hb7 1
    have t2 := blk_cell hb7 2
    simp at t0 t1 t2
    have hl2' := hlt
    have hdl2 : decide (i2 < ts.length) = false := decide_eq_false hl2'
    rw [hdl2]
    have HC2 := Lib.hid (HT.out.trans (if_neg (fun hh => hl2' hh.1)))
    have HE := Lib.hid (HPair.out.trans (pair_eq (T := tailS ts en (valueS ts en n) x d) HC.out HC2.out))
    rw [HC2.out] at hlen4 htot4 hwf4 hx4
    simp only at hlen4 htot4 hwf4 hx4
    clear hdl2
    go_wp2_with fail
    refine (lack_s w7 b base ts en tv _ x tf2 h7 hx3 hl3 ht3).mono ?_
    rintro e w9 ⟨rfl, h9, hs9⟩
    go_wp2_with fail
    refine (close_s w9 b base ts en tv _ x to0 h9 hx4 htot4 hlen4 hwf4).mono ?_
    rintro e w11 ⟨rfl, h11, hs11⟩
    go_wp2
    go_end0
    exact ⟨rfl, by rw [HE.out]; exact h11, pf_trans (pf_trans hsw7 hs9) hs11⟩
end Go.Proofs.YtkamhpbfebdhjaaGreatDoor.RefPar5
