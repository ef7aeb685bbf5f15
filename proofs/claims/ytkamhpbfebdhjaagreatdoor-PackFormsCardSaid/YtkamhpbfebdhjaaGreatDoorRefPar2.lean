/- The document's parser: the end of a node, the next token. -/
import Derived.Test.YtkamhpbfebdhjaaGreatDoorRefPar1
namespace Go.Proofs.YtkamhpbfebdhjaaGreatDoor.RefPar2
open Go.RowKit Go.Lib Go.Proofs.YtkamhpbfebdhjaaGreatDoor.Mem Go.Proofs.YtkamhpbfebdhjaaGreatDoor.Read Go.Proofs.YtkamhpbfebdhjaaGreatDoor.Tree Go.Proofs.YtkamhpbfebdhjaaGreatDoor.Data Go.Proofs.YtkamhpbfebdhjaaGreatDoor.OwnR Go.Proofs.YtkamhpbfebdhjaaGreatDoor.Tr Go.Proofs.YtkamhpbfebdhjaaGreatDoor.Tr2 Go.Proofs.YtkamhpbfebdhjaaGreatDoor.ParS Go.Proofs.YtkamhpbfebdhjaaGreatDoor.LexS Go.Proofs.YtkamhpbfebdhjaaGreatDoor.RefLex4 Go.Proofs.YtkamhpbfebdhjaaGreatDoor.RefPar1
set_option linter.unusedVariables false
set_option linter.unusedSimpArgs false
theorem close_nil {ns : NS} {k : Nat} {z : Int} (hk : k < ns.length) {x : NodeD} (hx : ns[k] = x) (hn : x.kids = []) : closeS ns k z = ns.set k (setUp x z) := by
  unfold closeS
  rw [modify_at hk, hx]
  unfold endOf
  rw [hn]
  rfl
theorem close_last {ns : NS} {k q : Nat} {z : Int} (hk : k < ns.length) {x : NodeD} (hx : ns[k] = x) {ks : List Int} (hn : x.kids = ks ++ [(q : Int)]) (hq : q < ns.length) : closeS ns k z = ns.set k (setUp x (max z ns[q].up)) := by
  unfold closeS
  rw [modify_at hk, hx]
  unfold endOf
  rw [hn, List.getLast?_concat]
  simp only [upAt, Int.toNat_natCast, List.getElem?_eq_getElem hq, Option.map_some, Option.getD_some]
set_option maxHeartbeats 8000000 in
set_option maxRecDepth 100000 in
theorem close_s (w : World) (b base : Nat) (ts : List TokD) (en : Int) (tv : Value) (s : PS) (k : Nat) (z : Int) (h : PS' w b base ts en tv s) (hk : k < s.2.length) (ht : tot s.2 ≤ 5000) (hl : s.2.length ≤ 5000) (hwf : WF s.2) :
    Calls Tryz.prog 40 #[.pointer (some ⟨b, 0, none⟩), .int .i64 (k : Nat), .int .i64 z] w (Out (.tuple #[]) w b base ts en tv (s.1, closeS s.2 k z)) := by
  obtain ⟨i, ns⟩ := s
  obtain ⟨nv, ys, h⟩ := h
  simp only at h ht hk hl hwf ⊢
  obtain ⟨g, c, A, ck, rfl, hky, heq, hv, hI, k0, k1, k2, k3, k4⟩ := h.node hk
  have hkl : ns[k].kids.length ≤ 5000 := Nat.le_trans (kids_le (List.getElem_mem hk)) ht
  have hwk := hwf _ (List.getElem_mem hk)
  have hyl : ys.length ≤ 5000 := by have := h.len; omega
  have HCn := fun (hn : ns[k].kids = []) => close_nil (z := z) hk (x := ns[k]) rfl hn
  have HCl := fun (q : Nat) (ks : List Int) (hn : ns[k].kids = ks ++ [(q : Int)]) (hq : q < ns.length) => close_last (z := z) hk (x := ns[k]) rfl (ks := ks) (q := q) hn hq
  generalize hx : ns[k] = x at *
  obtain ⟨id, kd, fr, up, ks⟩ := x
  simp only at hv hI k0 k1 k2 k3 k4 hkl hwk HCn HCl
  have c5 := blk_cell h.blk 5
  simp at c5
  have hi0 : (0 : Int) ≤ k := by omega
  have hi1 : (k : Int) < ys.length := by omega
  have HK1 := Lib.hid (KM.of h hky (ks := ks) (by rw [heq]) hv #[.int .i64 id, .int .i64 kd, .int .i64 fr, .int .i64 up, .slice A ks.length ck])
  have HEq := Lib.hid h.eq
  have HLn := Lib.hid h.len
  have HCn := Lib.hid HCn
  have HCl := Lib.hid HCl
  have HWk := Lib.hid hwk
  clear hv hI h hx heq hwf hwk
  obtain rfl | ⟨ks0, m, rfl⟩ : ks = [] ∨ ∃ (ks0 : List Int) (m : Int), ks = ks0 ++ [m] := (List.eq_nil_or_concat ks).imp (fun h => h) (fun ⟨a, b, h⟩ => ⟨a, b, by rw [h, List.concat_eq_append]⟩)
  · have HSet := Lib.hid (HCn.out rfl)
    clear HCn HCl HWk
    simp only [List.length_nil] at k4 HK1
    go_enter Tryz.func40, Tryz.ntmps40
    go_upto_region 1 with (fail)
    generalize hW : World.alloc w _ = w1 at *
    generalize w.heap.size = X at *
    clear hW k0 k1 k2 k3 k4 c5
    have x3 := blk_cell HK1.out.box 3
    have f3 := blk_free HK1.out.box 3
    have Hw4 := Lib.hid (HK1.out.set 3 (.int .i64 z))
    have x4' := blk_cell Hw4.out.box 4
    simp at x3 x4' Hw4
    go_upto_region 2 with (fail)
    generalize hW : World.setCell w1 _ _ = w4 at *
    clear hW x3 f3 HK1
    go_upto_region 5 with (fail)
    clear x4'
    have Hw5 := Lib.hid (Hw4.out.no (Step.drew (Step.refl No w4)))
    have c5 := blk_cell Hw4.out.blk 5
    have x0 := blk_cell Hw4.out.box 0
    have x1 := blk_cell Hw4.out.box 1
    have x2 := blk_cell Hw4.out.box 2
    have x3 := blk_cell Hw4.out.box 3
    have x4 := blk_cell Hw4.out.box 4
    simp at c5 x0 x1 x2 x3 x4
    go_still_tail 8, (by kernel_rfl)
    change wpList _ _ _ _ _ w4.drew
    generalize hD : World.drew w4 = w5 at *
    clear hD c5 x0 x1 x2 x3 x4 Hw4
    have hr5 := Hw5.out.mid.row
    have f0 := hr5.frozenAt (k * 5)
    have f1 := hr5.frozenAt (k * 5 + 1)
    have f2 := hr5.frozenAt (k * 5 + 2)
    have f3 := hr5.frozenAt (k * 5 + 3)
    have f4 := hr5.frozenAt (k * 5 + 4)
    have key := fun j hj => mid_at Hw5.out.mid hky j hj
    have k0 := key 0 (by decide)
    have k1 := key 1 (by decide)
    have k2 := key 2 (by decide)
    have k3 := key 3 (by decide)
    have k4 := key 4 (by decide)
    simp [encN, nodeCells] at k0 k1 k2 k3 k4
    have HF := Lib.hid (Hw5.out.out hky HEq.out (setUp ⟨id, kd, fr, up, []⟩ z) rfl)
    rw [HSet.out]
    simp only [sets5, addKid, setUp] at HF
    clear key hr5
    go_wp2
    go_end0
    exact ⟨rfl, HF.out⟩
  · obtain ⟨hm0, hm1⟩ := HWk.out m (by simp)
    obtain ⟨q, rfl⟩ := Int.eq_ofNat_of_zero_le hm0
    have hqn : q < ns.length := by omega
    have HSet := Lib.hid (HCl.out q ks0 (by simp) hqn)
    have hqy : q < ys.length := by have := HLn.out; omega
    have hqe : ys[q].1.up = ns[q].up := by have e := HEq.out; subst e; simp
    generalize ns[q].up = u at *
    have HQe := Lib.hid hqe
    have hm2 : (q : Int) < ys.length := by omega
    obtain ⟨j, hj⟩ : ∃ j, ks0.length = j := ⟨_, rfl⟩
    have hlen : (ks0 ++ [(q : Int)]).length = j + 1 := by simp [hj]
    rw [hlen] at k4 HK1 hkl
    have HJ := Lib.hid hj
    clear hqe HCn HCl HWk hm1 hlen hj
    go_enter Tryz.func40, Tryz.ntmps40
    go_upto_region 1 with (fail)
    generalize hW : World.alloc w _ = w1 at *
    generalize w.heap.size = X at *
    clear hW k0 k1 k2 k3 k4 c5
    have x3 := blk_cell HK1.out.box 3
    have f3 := blk_free HK1.out.box 3
    have Hw4 := Lib.hid (HK1.out.set 3 (.int .i64 z))
    have x4' := blk_cell Hw4.out.box 4
    simp at x3 x4' Hw4
    go_upto_region 2 with (fail)
    generalize hW : World.setCell w1 _ _ = w4 at *
    clear hW x3 f3 HK1
    go_upto_region 4 with (fail)
    have Hw5 := Lib.hid (Hw4.out.no (Step.drew (Step.refl No w4)))
    have c5 := blk_cell Hw4.out.blk 5
    simp at c5
    obtain ⟨gk, rfl, hkc⟩ := ints_cell Hw4.out.ints j (by simp [HJ.out])
    simp [HJ.out] at hkc
    have hu := mid_at Hw4.out.mid hqy 3 (by decide)
    simp [encN, nodeCells, HQe.out] at hu
    have hwj : IntKind.i64.wrap ((j : Nat) : Int) = (j : Nat) := IntWalk.i64_in _ (by omega)
    have hj0 : (0 : Int) ≤ (j : Nat) := by omega
    have hj1 : ((j : Nat) : Int) < (j : Nat) + 1 := by omega
    have hj2 : ((j : Nat) : Int) < ((j + 1 : Nat) : Int) := by omega
    go_still_tail 17, (by kernel_rfl)
    change wpList _ _ _ _ _ w4.drew
    generalize hD : World.drew w4 = w5 at *
    clear hD c5 hkc hu Hw4 hwj x4'
    have x3 := blk_cell Hw5.out.box 3
    have f3 := blk_free Hw5.out.box 3
    simp at x3
    go_upto_region 5 with (fail)
    have Hw6 := Lib.hid (Hw5.out.set 3 (.int .i64 (if z < u then u else z)))
    have hmx : max z u = (if z < u then u else z) := by split <;> omega
    rw [hmx] at HSet
    clear hmx
    simp only [List.setIfInBounds_toArray, List.set_cons_succ, List.set_cons_zero] at Hw6
    generalize (if z < u then u else z) = mx at *
    generalize hW : World.setCell w5 _ _ = w6 at *
    clear hW x3 f3 Hw5
    have Hw7 := Lib.hid (Hw6.out.no (Step.drew (Step.refl No w6)))
    have c5 := blk_cell Hw6.out.blk 5
    have x0 := blk_cell Hw6.out.box 0
    have x1 := blk_cell Hw6.out.box 1
    have x2 := blk_cell Hw6.out.box 2
    have x3 := blk_cell Hw6.out.box 3
    have x4 := blk_cell Hw6.out.box 4
    simp at c5 x0 x1 x2 x3 x4
    go_still_tail 8, (by kernel_rfl)
    change wpList _ _ _ _ _ w6.drew
    generalize hD : World.drew w6 = w7 at *
    clear hD c5 x0 x1 x2 x3 x4 Hw6
    have hr5 := Hw7.out.mid.row
    have f0 := hr5.frozenAt (k * 5)
    have f1 := hr5.frozenAt (k * 5 + 1)
    have f2 := hr5.frozenAt (k * 5 + 2)
    have f3 := hr5.frozenAt (k * 5 + 3)
    have f4 := hr5.frozenAt (k * 5 + 4)
    have key := fun j hj => mid_at Hw7.out.mid hky j hj
    have k0 := key 0 (by decide)
    have k1 := key 1 (by decide)
    have k2 := key 2 (by decide)
    have k3 := key 3 (by decide)
    have k4 := key 4 (by decide)
    simp [encN, nodeCells] at k0 k1 k2 k3 k4
    have HF := Lib.hid (Hw7.out.out hky HEq.out (setUp ⟨id, kd, fr, up, ks0 ++ [(q : Int)]⟩ mx) rfl)
    rw [HSet.out]
    simp only [sets5, addKid, setUp] at HF
    clear key hr5
    go_wp2
    go_end0
    exact ⟨rfl, HF.out⟩
theorem flat_at {α : Type} {enc : α → List Value} {sz : Nat} (hl : ∀ a, (enc a).length = sz) : ∀ (l : List α) (k : Nat) (hk : k < l.length) (i : Nat), i < sz → (l.flatMap enc)[k * sz + i]? = (enc l[k])[i]?
  | [], k, hk, i, hi => absurd hk (Nat.not_lt_zero _)
  | x :: xs, 0, hk, i, hi => by
    rw [List.flatMap_cons, List.getElem?_append_left (by rw [hl]; omega)]
    simp
  | x :: xs, k + 1, hk, i, hi => by
    rw [List.flatMap_cons, List.getElem?_append_right (by rw [hl, Nat.add_mul]; omega), hl, show (k + 1) * sz + i - sz = k * sz + i by rw [Nat.add_mul]; omega]
    exact flat_at hl xs k (by simpa using hk) i hi
theorem tks_at {base : Nat} {w : World} {ts : List TokD} {A : Option Addr} {n c : Nat} (h : TksW base w ts (.slice A n c)) {k : Nat} (hk : k < ts.length) : ∃ g, A = some ⟨g, 0, none⟩ ∧ n = ts.length ∧ w.cell? ⟨g, k * 3, none⟩ = some (.int .i64 ts[k].kind) ∧ w.cell? ⟨g, k * 3 + 1, none⟩ = some (.int .i64 ts[k].fr) ∧ w.cell? ⟨g, k * 3 + 2, none⟩ = some (.int .i64 ts[k].up) := by
  obtain ⟨g, c', he, -, -⟩ := row_form h.1 (by omega)
  injection he with he1 he2 he3
  subst he1 he2
  have key : ∀ j, j < 3 → w.cell? ⟨g, k * 3 + j, none⟩ = (encTk ts[k])[j]? := fun j hj => by
    rw [h.1.cellAt _ (by omega)]
    exact flat_at (enc := encTk) (sz := 3) (fun _ => rfl) ts k hk j hj
  exact ⟨g, rfl, rfl, key 0 (by decide), key 1 (by decide), key 2 (by decide)⟩
def NOut (ts : List TokD) (en : Int) (tv : Value) (w : World) (b base : Nat) (s : PS) (e : Ending) (w' : World) : Prop := e = .returned (.tuple #[.agg #[.int .i64 (tokS ts en s.1).kind, .int .i64 (tokS ts en s.1).fr, .int .i64 (tokS ts en s.1).up], .bool (decide (s.1 < ts.length))]) ∧ PS' w' b base ts en tv s ∧ Step No w w'
theorem tok_in {ts : List TokD} {en : Int} {i : Nat} (h : i < ts.length) : tokS ts en i = ts[i] := by simp [tokS, h]
theorem tok_off {ts : List TokD} {en : Int} {i : Nat} (h : ¬ i < ts.length) : tokS ts en i = ⟨0, en, en⟩ := by simp [tokS, h]
set_option maxHeartbeats 4000000 in
theorem next_s (w : World) (b base : Nat) (ts : List TokD) (en : Int) (tv : Value) (s : PS) (h : PS' w b base ts en tv s) (hi : s.1 ≤ 5000) (hT : ts.length ≤ 5000) :
    Calls Tryz.prog 14 #[.pointer (some ⟨b, 0, none⟩)] w (NOut ts en tv w b base s) := by
  obtain ⟨i, ns⟩ := s
  have HPS := Lib.hid h
  obtain ⟨nv, ys, h⟩ := h
  simp only at h hi
  obtain ⟨A, c, rfl, -, -⟩ := row_slice h.tks.1
  have hs1 : Step No w (w.alloc (.cells #[.int .i64 0, .int .i64 0, .int .i64 0] TTk)) := (Step.refl No w).alloc _
  have hb := blk_new w (.cells #[.int .i64 0, .int .i64 0, .int .i64 0] TTk)
  have h1 := h.no hs1
  have HLt : Hid (b < w.heap.size) := Lib.hid (blk_lt h.blk)
  unfold NOut
  by_cases hlt : i < ts.length
  · obtain ⟨g, rfl, -, q0, q1, q2⟩ := tks_at h1.tks hlt
    have hd : decide (i < ts.length) = true := decide_eq_true hlt
    have HTk : Hid (tokS ts en i = ts[i]) := Lib.hid (tok_in hlt)
    simp only
    rw [HTk.out, hd]
    generalize ts[i] = t at *
    obtain ⟨tk, tf, tu⟩ := t
    simp only at q0 q1 q2 ⊢
    clear hd HTk
    have hi0 : (0 : Int) ≤ i := by omega
    have hi1 : (i : Int) < ts.length := by omega
    go_enter Tryz.func14, Tryz.ntmps14
    go_upto_region 1 with (fail)
    generalize hW : World.alloc w _ = w1 at *
    obtain ⟨r, hr⟩ : ∃ r, w.heap.size = r := ⟨_, rfl⟩
    have HRr : Hid (w.heap.size ≤ r) := Lib.hid (by omega)
    rw [hr] at hb ⊢
    clear hW hr
    have p0 := blk_cell h1.blk 0
    have p1 := blk_cell h1.blk 1
    have p2 := blk_cell h1.blk 2
    have c0 := blk_cell hb 0
    have c1 := blk_cell hb 1
    have c2 := blk_cell hb 2
    have f0 := blk_free hb 0
    have f1 := blk_free hb 1
    have f2 := blk_free hb 2
    simp at p0 p1 p2 c0 c1 c2
    have HB := Lib.hid hb
    have HS := Lib.hid hs1
    clear hb hs1 h h1
    have HD : Hid (∀ W : World, W.heap[r]? = some (.cells #[.int .i64 0, .int .i64 0, .int .i64 0] TTk (0, 0)) → (((W.setCell ⟨r, 0, none⟩ (.int .i64 tk)).setCell ⟨r, 1, none⟩ (.int .i64 tf)).setCell ⟨r, 2, none⟩ (.int .i64 tu)).heap[r]? = some (.cells #[.int .i64 tk, .int .i64 tf, .int .i64 tu] TTk (0, 0))) := Lib.hid fun W h => by simpa using blk_set (blk_set (blk_set h 0 (.int .i64 tk)) 1 (.int .i64 tf)) 2 (.int .i64 tu)
    have HST : Hid (∀ W : World, Step No w W → Step No w (((W.setCell ⟨r, 0, none⟩ (.int .i64 tk)).setCell ⟨r, 1, none⟩ (.int .i64 tf)).setCell ⟨r, 2, none⟩ (.int .i64 tu))) := Lib.hid fun W h => set_new (set_new (set_new h HRr.out _) HRr.out _) HRr.out _
    go_quiet (fail)
    go_upto_region 3 with (fail)
    go_region
    all_goals
      go_wp2
      generalize hW : World.setCell (World.setCell (World.setCell _ ⟨r, 0, none⟩ _) ⟨r, 1, none⟩ _) ⟨r, 2, none⟩ _ = W at *
      have hD : W.heap[r]? = some (.cells #[.int .i64 tk, .int .i64 tf, .int .i64 tu] TTk (0, 0)) := by rw [← hW]; exact HD.out _ HB.out
      have hS : Step No w W := by rw [← hW]; exact HST.out _ (by repeat' (first | exact HS.out | refine Step.drew ?_ | refine Step.drewN ?_ _))
      have r0 := blk_cell hD 0
      have r1 := blk_cell hD 1
      have r2 := blk_cell hD 2
      simp at r0 r1 r2
      exact bodyPost_ret (by simp [results, Tryz.results14, go_sem, r0, r1, r2]) rfl ⟨rfl, HPS.out.no hS, hS⟩
  · have hd : decide (i < ts.length) = false := decide_eq_false hlt
    have HTk : Hid (tokS ts en i = ⟨0, en, en⟩) := Lib.hid (tok_off hlt)
    simp only
    rw [HTk.out, hd]
    simp only
    clear hd HTk
    have hi0 : (0 : Int) ≤ i := by omega
    have hi1 : ¬ (i : Int) < ts.length := by omega
    go_enter Tryz.func14, Tryz.ntmps14
    go_upto_region 1 with (fail)
    generalize hW : World.alloc w _ = w1 at *
    obtain ⟨r, hr⟩ : ∃ r, w.heap.size = r := ⟨_, rfl⟩
    have HRr : Hid (w.heap.size ≤ r) := Lib.hid (by omega)
    rw [hr] at hb ⊢
    clear hW hr
    have p0 := blk_cell h1.blk 0
    have p1 := blk_cell h1.blk 1
    have p2 := blk_cell h1.blk 2
    have c0 := blk_cell hb 0
    have c1 := blk_cell hb 1
    have c2 := blk_cell hb 2
    have f0 := blk_free hb 0
    have f1 := blk_free hb 1
    have f2 := blk_free hb 2
    simp at p0 p1 p2 c0 c1 c2
    have HB := Lib.hid hb
    have HS := Lib.hid hs1
    clear hb hs1 h h1
    have HD : Hid (∀ W : World, W.heap[r]? = some (.cells #[.int .i64 0, .int .i64 0, .int .i64 0] TTk (0, 0)) → (((W.setCell ⟨r, 0, none⟩ (.int .i64 0)).setCell ⟨r, 1, none⟩ (.int .i64 en)).setCell ⟨r, 2, none⟩ (.int .i64 en)).heap[r]? = some (.cells #[.int .i64 0, .int .i64 en, .int .i64 en] TTk (0, 0))) := Lib.hid fun W h => by simpa using blk_set (blk_set (blk_set h 0 (.int .i64 0)) 1 (.int .i64 en)) 2 (.int .i64 en)
    have HST : Hid (∀ W : World, Step No w W → Step No w (((W.setCell ⟨r, 0, none⟩ (.int .i64 0)).setCell ⟨r, 1, none⟩ (.int .i64 en)).setCell ⟨r, 2, none⟩ (.int .i64 en))) := Lib.hid fun W h => set_new (set_new (set_new h HRr.out _) HRr.out _) HRr.out _
    go_quiet (fail)
    go_upto_region 2 with (fail)
    go_region
    all_goals
      go_wp2
      generalize hW : World.setCell (World.setCell (World.setCell _ ⟨r, 0, none⟩ _) ⟨r, 1, none⟩ _) ⟨r, 2, none⟩ _ = W at *
      have hD : W.heap[r]? = some (.cells #[.int .i64 0, .int .i64 en, .int .i64 en] TTk (0, 0)) := by rw [← hW]; exact HD.out _ HB.out
      have hS : Step No w W := by rw [← hW]; exact HST.out _ (by repeat' (first | exact HS.out | refine Step.drew ?_ | refine Step.drewN ?_ _))
      have r0 := blk_cell hD 0
      have r1 := blk_cell hD 1
      have r2 := blk_cell hD 2
      simp at r0 r1 r2
      exact bodyPost_ret (by simp [results, Tryz.results14, go_sem, r0, r1, r2]) rfl ⟨rfl, HPS.out.no hS, hS⟩
end Go.Proofs.YtkamhpbfebdhjaaGreatDoor.RefPar2
