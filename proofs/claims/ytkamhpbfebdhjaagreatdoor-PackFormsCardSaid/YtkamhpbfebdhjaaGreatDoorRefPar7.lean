/- The document's parser: a list, a value. -/
import Derived.Test.YtkamhpbfebdhjaaGreatDoorRefPar6
namespace Go.Proofs.YtkamhpbfebdhjaaGreatDoor.RefPar7
open Go.RowKit Go.Lib Go.Proofs.YtkamhpbfebdhjaaGreatDoor.Mem Go.Proofs.YtkamhpbfebdhjaaGreatDoor.Read Go.Proofs.YtkamhpbfebdhjaaGreatDoor.Tree Go.Proofs.YtkamhpbfebdhjaaGreatDoor.Data Go.Proofs.YtkamhpbfebdhjaaGreatDoor.OwnR Go.Proofs.YtkamhpbfebdhjaaGreatDoor.Tr Go.Proofs.YtkamhpbfebdhjaaGreatDoor.Tr2 Go.Proofs.YtkamhpbfebdhjaaGreatDoor.ParS Go.Proofs.YtkamhpbfebdhjaaGreatDoor.ParG Go.Proofs.YtkamhpbfebdhjaaGreatDoor.LexS Go.Proofs.YtkamhpbfebdhjaaGreatDoor.RefLex4 Go.Proofs.YtkamhpbfebdhjaaGreatDoor.RefPar1 Go.Proofs.YtkamhpbfebdhjaaGreatDoor.RefPar2 Go.Proofs.YtkamhpbfebdhjaaGreatDoor.RefPar3 Go.Proofs.YtkamhpbfebdhjaaGreatDoor.RefPar4 Go.Proofs.YtkamhpbfebdhjaaGreatDoor.RefPar5 Go.Proofs.YtkamhpbfebdhjaaGreatDoor.RefPar6
set_option linter.unusedVariables false
set_option linter.unusedSimpArgs false
/-- Where the list's loop stands. -/
def LR (ts : List TokD) (en : Int) (n id closer d : Nat) (w : World) (b base : Nat) (tv : Value) (R : PS) (g : Nat) (v : Value) (wr : World) : Prop :=
  ∃ (st f : Nat) (s : PS), v = .int .i64 (st : Nat) ∧ ts.length ≤ s.1 + g ∧ ts.length < s.1 + f ∧ loopS ts en (valueS ts en n) id closer d f st s = R ∧ PS' wr b base ts en tv s ∧ Step (PF b base w) w wr ∧ Fine ts.length (4990 - 10 * n) s ∧ id < s.2.length ∧ ts.length ≤ s.1 + n ∧ d + 1 + ts.length ≤ s.1 + 700
theorem st_yes {st k : Nat} (h : st = k) (m : Int) (hm : m = k) : (((st : Nat) : Int) == m) = true := by subst h; subst hm; exact beq_iff_eq.2 rfl
theorem st_no {st k : Nat} (h : ¬ st = k) (m : Int) (hm : m = k) : (((st : Nat) : Int) == m) = false := by subst hm; exact beq_eq_false_iff_ne.2 (by omega)
theorem no_comma {t : TokD} (h : t.kind = 5) (d : Nat) : startsS t d = false := by
  unfold startsS
  rw [h]
  simp
set_option maxHeartbeats 8000000 in
set_option maxRecDepth 100000 in
theorem list_s {ts : List TokD} {en : Int} {n : Nat} (hT : ts.length ≤ 300) (hV : ValC ts en n) (w : World) (b base : Nat) (tv : Value) (s0 : PS) (id closer d : Nat) (hcl : closer = 1 ∨ closer = 3) (h : PS' w b base ts en tv s0) (hx : id < s0.2.length) (hn : ts.length ≤ s0.1 + n) (hd : d + 1 + ts.length ≤ s0.1 + 700) (hG : Fine ts.length (4990 - 10 * n) s0) :
    Calls Tryz.prog 41 #[.pointer (some ⟨b, 0, none⟩), .int .i64 (id : Nat), .int .i64 (closer : Nat), .int .i64 (d : Nat)] w (Out (.tuple #[]) w b base ts en tv (loopS ts en (valueS ts en n) id closer d (ts.length + 1) 0 s0)) := by
  have hf := valC_fits (ts := ts) (en := en) n
  have hleaf := value_leaf (ts := ts) (e := en) n
  obtain ⟨R, hR⟩ : ∃ R, loopS ts en (valueS ts en n) id closer d (ts.length + 1) 0 s0 = R := ⟨_, rfl⟩
  rw [hR]
  have HLR := Lib.hid (show LR ts en n id closer d w b base tv R ts.length (.int .i64 0) w from ⟨0, ts.length + 1, s0, rfl, by omega, by omega, hR, h, Step.refl _ _, hG, hx, hn, hd⟩)
  clear hR h hG hx hn hd
  go_enter Tryz.func41, Tryz.ntmps41
  go_wp2
  go_loopg [8] ts.length (fun g v wr => LR ts en n id closer d w b base tv R g v wr)
  case atStart => exact HLR.out
  case round =>
    obtain ⟨st, f, s, rfl, hg, hff, hq, h, hsw, hG, hx, hn, hd⟩ := hrel
    have hon := hG.on
    obtain ⟨f', rfl, hf', hq⟩ := loop_go hff hon hq
    have hlen := hG.len (by omega)
    have htot := hG.tots (by omega)
    have hwf := hG.wf
    by_cases hlt : s.1 < ts.length
    · rw [if_pos hlt] at hq
      have hdl : decide (s.1 < ts.length) = true := decide_eq_true hlt
      obtain ⟨g', rfl⟩ : ∃ g', gk = g' + 1 := ⟨gk - 1, by omega⟩
      have hel := fun (s' : PS) (h : WF s'.2) hi hn => elem_fit (e := en) (id := id) (closer := closer) (d := d) hf hleaf (s := s') h hi hn
      have hstr := stray_fit (ts := ts) (e := en) (id := id) (s := s) hG.wf hlt
      obtain ⟨t, ht⟩ : ∃ t, tokS ts en s.1 = t := ⟨_, rfl⟩
      rw [ht] at hq
      have HTk := Lib.hid ht
      have HDl := Lib.hid hdl
      clear hdl ht
      obtain ⟨tk, tf, tu⟩ := t
      simp only at hq
      by_cases hkc : tk = (closer : Int)
      · have ec : (tk == (closer : Int)) = true := beq_iff_eq.2 hkc
        rw [if_pos hkc] at hq
        clear hkc
        by_cases hs2 : st = 2
        · have e2 := st_yes hs2 2 rfl
          rw [if_pos hs2] at hq
          have HQ := Lib.hid hq
          have fl := lack_fit (T := ts.length) hwf hon id tf
          have gl := hG.fit fl
          clear hq hs2
          go_wp2_with fail
          refine (next_s wr b base ts en tv s h (by omega) (by omega)).mono ?_
          unfold NOut
          rw [HTk.out, HDl.out]
          rintro e w1 ⟨rfl, hn1, hns1⟩
          simp only
          go_upto_region 8 with (fail)
          have hb := blk_new w1 (.cells #[.int .i64 tk, .int .i64 tf, .int .i64 tu] TTk)
          have h2 := ps_box hn1 #[.int .i64 tk, .int .i64 tf, .int .i64 tu]
          have hs2 : Step No wr (w1.alloc (.cells #[.int .i64 tk, .int .i64 tf, .int .i64 tu] TTk)) := hns1.alloc _
          generalize hW : World.alloc w1 _ = w2 at *
          generalize w1.heap.size = r at *
          have hsw2 := pf_next hsw hs2 (fun _ f _ => f.elim)
          clear hW hn1 hns1 hsw hs2
          have t0 := blk_cell hb 0
          have t1 := blk_cell hb 1
          have t2 := blk_cell hb 2
          simp at t0 t1 t2
          go_wp2_with fail
          refine (lack_s w2 b base ts en tv s id tf h2 hx hlen htot).mono ?_
          rintro e w3 ⟨rfl, h3, hs3⟩
          have hb3 := box_stays h2 hb hs3
          have hsw3 := pf_trans hsw2 hs3
          clear t0 t1 t2 hb h2 hs3 hsw2
          go_upto_region 9 with (fail)
          obtain ⟨nv, hblk⟩ := ps_blk h3
          have c1 := blk_cell hblk 1
          have f1 := blk_free hblk 1
          simp at c1
          have hinc := ps_inc h3
          go_upto_region 10 with (fail)
          generalize hW : World.setCell w3 ⟨b, 1, none⟩ _ = w5 at *
          clear hW c1 f1 hblk
          obtain ⟨h5, hs5⟩ := hinc
          have hb5 := box_stays h3 hb3 hs5
          try clear t0 t1 t2
          have t0 := blk_cell hb5 0
          have t1 := blk_cell hb5 1
          have t2 := blk_cell hb5 2
          simp at t0 t1 t2
          go_wp2_with fail
          refine (close_s w5 b base ts en tv _ id tu h5 (Nat.lt_of_lt_of_le hx fl.grow) (gl.tots (by omega)) (gl.len (by omega)) gl.wf).mono ?_
          rintro e w6 ⟨rfl, h6, hs6⟩
          go_wp2
          go_end0
          exact ⟨rfl, by rw [HQ.out]; exact h6, pf_trans (pf_trans hsw3 hs5) hs6⟩
        · have e2 := st_no hs2 2 rfl
          rw [if_neg hs2] at hq
          have HQ := Lib.hid hq
          clear hq hs2
          go_wp2_with fail
          refine (next_s wr b base ts en tv s h (by omega) (by omega)).mono ?_
          unfold NOut
          rw [HTk.out, HDl.out]
          rintro e w1 ⟨rfl, hn1, hns1⟩
          simp only
          go_upto_region 9 with (fail)
          have hb := blk_new w1 (.cells #[.int .i64 tk, .int .i64 tf, .int .i64 tu] TTk)
          have h2 := ps_box hn1 #[.int .i64 tk, .int .i64 tf, .int .i64 tu]
          have hs2 : Step No wr (w1.alloc (.cells #[.int .i64 tk, .int .i64 tf, .int .i64 tu] TTk)) := hns1.alloc _
          generalize hW : World.alloc w1 _ = w2 at *
          generalize w1.heap.size = r at *
          have hsw2 := pf_next hsw hs2 (fun _ f _ => f.elim)
          clear hW hn1 hns1 hsw hs2
          have t0 := blk_cell hb 0
          have t1 := blk_cell hb 1
          have t2 := blk_cell hb 2
          simp at t0 t1 t2
          go_upto_region 9 with (fail)
          obtain ⟨nv, hblk⟩ := ps_blk h2
          have c1 := blk_cell hblk 1
          have f1 := blk_free hblk 1
          simp at c1
          have hinc := ps_inc h2
          go_upto_region 10 with (fail)
          generalize hW : World.setCell w2 ⟨b, 1, none⟩ _ = w5 at *
          clear hW c1 f1 hblk
          obtain ⟨h5, hs5⟩ := hinc
          have hb5 := box_stays h2 hb hs5
          try clear t0 t1 t2
          have t0 := blk_cell hb5 0
          have t1 := blk_cell hb5 1
          have t2 := blk_cell hb5 2
          simp at t0 t1 t2
          go_wp2_with fail
          refine (close_s w5 b base ts en tv _ id tu h5 hx (hG.tots (by omega)) (hG.len (by omega)) hG.wf).mono ?_
          rintro e w6 ⟨rfl, h6, hs6⟩
          go_wp2
          go_end0
          exact ⟨rfl, by rw [HQ.out]; exact h6, pf_trans (pf_trans hsw2 hs5) hs6⟩
      · have ec : (tk == (closer : Int)) = false := beq_eq_false_iff_ne.2 hkc
        rw [if_neg hkc] at hq
        clear hkc
        by_cases hk5 : tk = 5
        · have e5 : (tk == 5) = true := beq_iff_eq.2 hk5
          have hns := no_comma (t := ⟨tk, tf, tu⟩) hk5 (d + 1)
          by_cases hs1 : st = 1
          · have e1 := st_yes hs1 1 rfl
            rw [if_pos ⟨hk5, hs1⟩] at hq
            have HQ := Lib.hid hq
            have fo := on_fit (T := ts.length) hwf hlt
            have go_ := hG.fit fo
            clear hq hs1 hk5 hns
            go_wp2_with fail
            refine (next_s wr b base ts en tv s h (by omega) (by omega)).mono ?_
            unfold NOut
            rw [HTk.out, HDl.out]
            rintro e w1 ⟨rfl, hn1, hns1⟩
            simp only
            go_upto_region 12 with (fail)
            have hb := blk_new w1 (.cells #[.int .i64 tk, .int .i64 tf, .int .i64 tu] TTk)
            have h2 := ps_box hn1 #[.int .i64 tk, .int .i64 tf, .int .i64 tu]
            have hs2 : Step No wr (w1.alloc (.cells #[.int .i64 tk, .int .i64 tf, .int .i64 tu] TTk)) := hns1.alloc _
            generalize hW : World.alloc w1 _ = w2 at *
            generalize w1.heap.size = r at *
            have hsw2 := pf_next hsw hs2 (fun _ f _ => f.elim)
            clear hW hn1 hns1 hsw hs2
            have t0 := blk_cell hb 0
            have t1 := blk_cell hb 1
            have t2 := blk_cell hb 2
            simp at t0 t1 t2
            obtain ⟨nv, hblk⟩ := ps_blk h2
            have c1 := blk_cell hblk 1
            have f1 := blk_free hblk 1
            simp at c1
            have hinc := ps_inc h2
            go_upto_region 13 with (fail)
            generalize hW : World.setCell w2 ⟨b, 1, none⟩ _ = w3 at *
            clear hW c1 f1 hblk
            obtain ⟨h3, hs3⟩ := hinc
            go_wp2
            go_roundg g'
            case measure => omega
            case rel => exact ⟨2, f', (s.1 + 1, s.2), rfl, by simp only; omega, by simp only; omega, HQ.out.symm, h3, pf_trans hsw2 hs3, go_.le (by omega), hx, by simp only; omega, by simp only; omega⟩
          · have e1 := st_no hs1 1 rfl
            rw [if_neg (fun hh => hs1 hh.2), if_neg (by rw [hns]; decide)] at hq
            have HQ := Lib.hid hq
            have HNs := Lib.hid hns
            clear hq hs1 hk5 hns
            go_wp2_with fail
            refine (next_s wr b base ts en tv s h (by omega) (by omega)).mono ?_
            unfold NOut
            rw [HTk.out, HDl.out]
            rintro e w1 ⟨rfl, hn1, hns1⟩
            simp only
            go_upto_region 14 with (fail)
            have hb := blk_new w1 (.cells #[.int .i64 tk, .int .i64 tf, .int .i64 tu] TTk)
            have h2 := ps_box hn1 #[.int .i64 tk, .int .i64 tf, .int .i64 tu]
            have hs2 : Step No wr (w1.alloc (.cells #[.int .i64 tk, .int .i64 tf, .int .i64 tu] TTk)) := hns1.alloc _
            generalize hW : World.alloc w1 _ = w2 at *
            generalize w1.heap.size = r at *
            have hsw2 := pf_next hsw hs2 (fun _ f _ => f.elim)
            clear hW hn1 hns1 hsw hs2
            have t0 := blk_cell hb 0
            have t1 := blk_cell hb 1
            have t2 := blk_cell hb 2
            simp at t0 t1 t2
            go_wp2_with fail
            refine (starts_any ⟨tk, tf, tu⟩ (d + 1) _ (by omega)).mono ?_
            rintro e w3 ⟨rfl, hs3⟩
            rw [HNs.out]
            have h3 := h2.no hs3
            have hsw3 := pf_next hsw2 hs3 (fun _ f _ => f.elim)
            have gs := hG.fit hstr
            go_wp2_with fail
            refine (stray_s w3 b base ts en tv s id h3 hx hlen htot (by omega) (by omega)).mono ?_
            rintro e w4 ⟨rfl, h4, hs4⟩
            go_wp2
            go_roundg g'
            case measure => omega
            case rel => exact ⟨st, f', strayS ts en id s, rfl, by simp only [strayS]; omega, by simp only [strayS]; omega, HQ.out.symm, h4, pf_trans hsw3 hs4, gs.le (by omega), Nat.lt_of_lt_of_le hx hstr.grow, by simp only [strayS]; omega, by simp only [strayS]; omega⟩
        · have e5 : (tk == 5) = false := beq_eq_false_iff_ne.2 hk5
          rw [if_neg (fun hh => hk5 hh.1)] at hq
          clear hk5
          by_cases hst : startsS ⟨tk, tf, tu⟩ (d + 1) = true
          · rw [if_pos hst] at hq
            have HNs := Lib.hid hst
            clear hst
            by_cases hs1 : st = 1
            · have e1 := st_yes hs1 1 rfl
              rw [if_pos hs1] at hq
              have HQ := Lib.hid hq
              have fl := lack_fit (T := ts.length) hwf hon id tf
              have gl := hG.fit fl
              obtain ⟨fe, he⟩ := hel (s.1, lackS s.2 id tf) gl.wf hlt hn
              have ge := gl.fit fe
              clear hq hs1
              go_wp2_with fail
              refine (next_s wr b base ts en tv s h (by omega) (by omega)).mono ?_
              unfold NOut
              rw [HTk.out, HDl.out]
              rintro e w1 ⟨rfl, hn1, hns1⟩
              simp only
              go_upto_region 14 with (fail)
              have hb := blk_new w1 (.cells #[.int .i64 tk, .int .i64 tf, .int .i64 tu] TTk)
              have h2 := ps_box hn1 #[.int .i64 tk, .int .i64 tf, .int .i64 tu]
              have hs2 : Step No wr (w1.alloc (.cells #[.int .i64 tk, .int .i64 tf, .int .i64 tu] TTk)) := hns1.alloc _
              generalize hW : World.alloc w1 _ = w2 at *
              generalize w1.heap.size = r at *
              have hsw2 := pf_next hsw hs2 (fun _ f _ => f.elim)
              clear hW hn1 hns1 hsw hs2
              have t0 := blk_cell hb 0
              have t1 := blk_cell hb 1
              have t2 := blk_cell hb 2
              simp at t0 t1 t2
              go_wp2_with fail
              refine (starts_any ⟨tk, tf, tu⟩ (d + 1) _ (by omega)).mono ?_
              rintro e w3 ⟨rfl, hs3⟩
              rw [HNs.out]
              have h3 := h2.no hs3
              have hb3 := hs3.blk hb (fun f => f)
              have hsw3 := pf_next hsw2 hs3 (fun _ f _ => f.elim)
              clear t0 t1 t2 hb h2 hs3 hsw2
              have t0 := blk_cell hb3 0
              have t1 := blk_cell hb3 1
              have t2 := blk_cell hb3 2
              simp at t0 t1 t2
              go_wp2_with fail
              refine (lack_s w3 b base ts en tv s id tf h3 hx hlen htot).mono ?_
              rintro e w4 ⟨rfl, h4, hs4⟩
              have hsw4 := pf_trans hsw3 hs4
              clear t0 t1 t2 hb3 h3 hs4 hsw3
              go_wp2_with fail
              refine (elem_s hT hV w4 b base tv (s.1, lackS s.2 id tf) id closer d hcl h4 (Nat.lt_of_lt_of_le hx fl.grow) hlt hn hd (gl.le (by omega))).mono ?_
              rintro e w6 ⟨rfl, h6, hs6⟩
              go_wp2
              go_roundg g'
              case measure => omega
              case rel => exact ⟨1, f', elemS ts en (valueS ts en n) id closer d (s.1, lackS s.2 id tf), rfl, by have := he; (try simp only at this); omega, by have := he; (try simp only at this); omega, HQ.out.symm, h6, pf_trans hsw4 hs6, ge.le (by omega), Nat.lt_of_lt_of_le (Nat.lt_of_lt_of_le hx fl.grow) fe.grow, by have := he; (try simp only at this); omega, by have := he; (try simp only at this); omega⟩
            · have e1 := st_no hs1 1 rfl
              rw [if_neg hs1] at hq
              have HQ := Lib.hid hq
              obtain ⟨fe, he⟩ := hel s hwf hlt hn
              have ge := hG.fit fe
              clear hq hs1
              go_wp2_with fail
              refine (next_s wr b base ts en tv s h (by omega) (by omega)).mono ?_
              unfold NOut
              rw [HTk.out, HDl.out]
              rintro e w1 ⟨rfl, hn1, hns1⟩
              simp only
              go_upto_region 14 with (fail)
              have hb := blk_new w1 (.cells #[.int .i64 tk, .int .i64 tf, .int .i64 tu] TTk)
              have h2 := ps_box hn1 #[.int .i64 tk, .int .i64 tf, .int .i64 tu]
              have hs2 : Step No wr (w1.alloc (.cells #[.int .i64 tk, .int .i64 tf, .int .i64 tu] TTk)) := hns1.alloc _
              generalize hW : World.alloc w1 _ = w2 at *
              generalize w1.heap.size = r at *
              have hsw2 := pf_next hsw hs2 (fun _ f _ => f.elim)
              clear hW hn1 hns1 hsw hs2
              have t0 := blk_cell hb 0
              have t1 := blk_cell hb 1
              have t2 := blk_cell hb 2
              simp at t0 t1 t2
              go_wp2_with fail
              refine (starts_any ⟨tk, tf, tu⟩ (d + 1) _ (by omega)).mono ?_
              rintro e w3 ⟨rfl, hs3⟩
              rw [HNs.out]
              have h3 := h2.no hs3
              have hb3 := hs3.blk hb (fun f => f)
              have hsw3 := pf_next hsw2 hs3 (fun _ f _ => f.elim)
              clear t0 t1 t2 hb h2 hs3 hsw2
              have t0 := blk_cell hb3 0
              have t1 := blk_cell hb3 1
              have t2 := blk_cell hb3 2
              simp at t0 t1 t2
              clear t0 t1 t2 hb3
              go_wp2_with fail
              refine (elem_s hT hV w3 b base tv s id closer d hcl h3 hx hlt hn hd (hG.le (by omega))).mono ?_
              rintro e w6 ⟨rfl, h6, hs6⟩
              go_wp2
              go_roundg g'
              case measure => omega
              case rel => exact ⟨1, f', elemS ts en (valueS ts en n) id closer d s, rfl, by have := he; (try simp only at this); omega, by have := he; (try simp only at this); omega, HQ.out.symm, h6, pf_trans hsw3 hs6, ge.le (by omega), Nat.lt_of_lt_of_le hx fe.grow, by have := he; (try simp only at this); omega, by have := he; (try simp only at this); omega⟩
          · have hst' : startsS ⟨tk, tf, tu⟩ (d + 1) = false := by simpa using hst
            rw [if_neg hst] at hq
            have HQ := Lib.hid hq
            have HNs := Lib.hid hst'
            clear hq hst hst'
            go_wp2_with fail
            refine (next_s wr b base ts en tv s h (by omega) (by omega)).mono ?_
            unfold NOut
            rw [HTk.out, HDl.out]
            rintro e w1 ⟨rfl, hn1, hns1⟩
            simp only
            go_upto_region 14 with (fail)
            have hb := blk_new w1 (.cells #[.int .i64 tk, .int .i64 tf, .int .i64 tu] TTk)
            have h2 := ps_box hn1 #[.int .i64 tk, .int .i64 tf, .int .i64 tu]
            have hs2 : Step No wr (w1.alloc (.cells #[.int .i64 tk, .int .i64 tf, .int .i64 tu] TTk)) := hns1.alloc _
            generalize hW : World.alloc w1 _ = w2 at *
            generalize w1.heap.size = r at *
            have hsw2 := pf_next hsw hs2 (fun _ f _ => f.elim)
            clear hW hn1 hns1 hsw hs2
            have t0 := blk_cell hb 0
            have t1 := blk_cell hb 1
            have t2 := blk_cell hb 2
            simp at t0 t1 t2
            go_wp2_with fail
            refine (starts_any ⟨tk, tf, tu⟩ (d + 1) _ (by omega)).mono ?_
            rintro e w3 ⟨rfl, hs3⟩
            rw [HNs.out]
            have h3 := h2.no hs3
            have hsw3 := pf_next hsw2 hs3 (fun _ f _ => f.elim)
            have gs := hG.fit hstr
            go_wp2_with fail
            refine (stray_s w3 b base ts en tv s id h3 hx hlen htot (by omega) (by omega)).mono ?_
            rintro e w4 ⟨rfl, h4, hs4⟩
            go_wp2
            go_roundg g'
            case measure => omega
            case rel => exact ⟨st, f', strayS ts en id s, rfl, by simp only [strayS]; omega, by simp only [strayS]; omega, HQ.out.symm, h4, pf_trans hsw3 hs4, gs.le (by omega), Nat.lt_of_lt_of_le hx hstr.grow, by simp only [strayS]; omega, by simp only [strayS]; omega⟩
    · rw [if_neg hlt] at hq
      have hdl : decide (s.1 < ts.length) = false := decide_eq_false hlt
      have HQ := Lib.hid hq
      have HDl := Lib.hid hdl
      have fl := lack_fit (T := ts.length) hwf hon id en
      have gl := hG.fit fl
      clear hq hdl
      go_wp2_with fail
      refine (next_s wr b base ts en tv s h (by omega) (by omega)).mono ?_
      unfold NOut
      rw [HDl.out]
      generalize tokS ts en s.1 = t at *
      obtain ⟨tk, tf, tu⟩ := t
      rintro e w1 ⟨rfl, hn1, hns1⟩
      simp only
      go_upto_region 4 with (fail)
      have h2 := ps_box hn1 #[.int .i64 tk, .int .i64 tf, .int .i64 tu]
      have hs2 : Step No wr (w1.alloc (.cells #[.int .i64 tk, .int .i64 tf, .int .i64 tu] TTk)) := hns1.alloc _
      generalize hW : World.alloc w1 _ = w2 at *
      generalize w1.heap.size = r at *
      have hsw2 := pf_next hsw hs2 (fun _ f _ => f.elim)
      clear hW hn1 hns1 hsw hs2
      obtain ⟨nv2, hblk2⟩ := ps_blk h2
      have p2 := blk_cell hblk2 2
      simp at p2
      go_wp2_with fail
      refine (lack_s w2 b base ts en tv s id en h2 hx hlen htot).mono ?_
      rintro e w3 ⟨rfl, h3, hs3⟩
      obtain ⟨nv3, hblk3⟩ := ps_blk h3
      have p3 := blk_cell hblk3 2
      simp at p3
      go_wp2_with fail
      refine (close_s w3 b base ts en tv _ id en h3 (Nat.lt_of_lt_of_le hx fl.grow) (gl.tots (by omega)) (gl.len (by omega)) gl.wf).mono ?_
      rintro e w4 ⟨rfl, h4, hs4⟩
      go_wp2
      go_end0
      exact ⟨rfl, by rw [HQ.out]; exact h4, pf_trans (pf_trans hsw2 hs3) hs4⟩
end Go.Proofs.YtkamhpbfebdhjaaGreatDoor.RefPar7
