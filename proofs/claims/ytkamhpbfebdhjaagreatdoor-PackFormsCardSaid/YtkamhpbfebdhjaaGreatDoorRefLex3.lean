/- The document's tokens: one token. -/
import Derived.Test.YtkamhpbfebdhjaaGreatDoorRefLex2
namespace Go.Proofs.YtkamhpbfebdhjaaGreatDoor.RefLex3
open Go.RowKit Go.Lib Go.Proofs.YtkamhpbfebdhjaaGreatDoor.Mem Go.Proofs.YtkamhpbfebdhjaaGreatDoor.Read Go.Proofs.YtkamhpbfebdhjaaGreatDoor.Tree Go.Proofs.YtkamhpbfebdhjaaGreatDoor.Data Go.Proofs.YtkamhpbfebdhjaaGreatDoor.OwnR Go.Proofs.YtkamhpbfebdhjaaGreatDoor.Tr Go.Proofs.YtkamhpbfebdhjaaGreatDoor.ParS Go.Proofs.YtkamhpbfebdhjaaGreatDoor.LexS Go.Proofs.YtkamhpbfebdhjaaGreatDoor.RefLex Go.Proofs.YtkamhpbfebdhjaaGreatDoor.RefLex2
set_option linter.unusedVariables false
set_option linter.unusedSimpArgs false
def signs : List UInt8 := [123, 125, 91, 93, 58, 44]
theorem sign_hit {b : UInt8} {k : Nat} (h : ∀ j, j < k → signs[j]? ≠ some b) (hk : signs[k]? = some b) : signOf b = some (k : Int) := by
  have h0 := h 0
  have h1 := h 1
  have h2 := h 2
  have h3 := h 3
  have h4 := h 4
  have hl : k < 6 := by have := (List.getElem?_eq_some_iff.1 hk).1; simpa [signs] using this
  rcases (by omega : k = 0 ∨ k = 1 ∨ k = 2 ∨ k = 3 ∨ k = 4 ∨ k = 5) with rfl | rfl | rfl | rfl | rfl | rfl <;> simp [signs] at hk <;> subst hk <;> rfl
theorem sign_none {b : UInt8} (h : ∀ j, j < 6 → signs[j]? ≠ some b) : signOf b = none := by
  have h0 := h 0 (by decide)
  have h1 := h 1 (by decide)
  have h2 := h 2 (by decide)
  have h3 := h 3 (by decide)
  have h4 := h 4 (by decide)
  have h5 := h 5 (by decide)
  simp only [signs, List.getElem?_cons_zero, List.getElem?_cons_succ, ne_eq, Option.some.injEq] at h0 h1 h2 h3 h4 h5
  unfold signOf
  rw [if_neg (fun e => h0 e.symm), if_neg (fun e => h1 e.symm), if_neg (fun e => h2 e.symm), if_neg (fun e => h3 e.symm), if_neg (fun e => h4 e.symm), if_neg (fun e => h5 e.symm)]
theorem sign_next {b : UInt8} {k : Nat} (h : ∀ j, j < k → signs[j]? ≠ some b) (hk : signs[k]? ≠ some b) : ∀ j, j < k + 1 → signs[j]? ≠ some b := by
  intro j hj
  rcases Nat.lt_succ_iff_lt_or_eq.1 hj with hj | rfl
  · exact h j hj
  · exact hk
theorem byte_lit (b : UInt8) (n : Nat) (m : Int) (hm : m = n) (hn : n < 256) : (m == (b.toNat : Int)) = (b == UInt8.ofNat n) := by
  rw [← byte_eq b n m hm hn, Bool.eq_iff_iff, beq_iff_eq, beq_iff_eq]
  exact eq_comm
theorem lit_yes {S : ByteArray} {q n : Nat} (hq : q < S.size) (h : some (UInt8.ofNat n) = some (bt S q)) (m : Int) (hm : m = n) (hn : n < 256) : (m == ((S[q]'hq).toNat : Int)) = true := by
  rw [byte_lit _ n m hm hn, ← bt_at S q hq]
  simpa using (Option.some.inj h).symm
theorem lit_no {S : ByteArray} {q n : Nat} (hq : q < S.size) (h : some (UInt8.ofNat n) ≠ some (bt S q)) (m : Int) (hm : m = n) (hn : n < 256) : (m == ((S[q]'hq).toNat : Int)) = false := by
  rw [byte_lit _ n m hm hn, ← bt_at S q hq]
  simp only [ne_eq, Option.some.injEq] at h
  simpa using fun e => h e.symm
theorem ext_of (s : ByteArray) (q r : Nat) (h : q ≤ r) : s.extract q r = ⟨((s.data.toList.drop q).take (r - q)).toArray⟩ := by
  apply ByteArray.ext
  apply Array.ext'
  obtain ⟨m, rfl⟩ : ∃ m, r = q + m := ⟨r - q, by omega⟩
  simp
/-- A token under way: the result's cell, its own. -/
structure TB (w : World) (R T : Nat) (k z e : Int) (W : World) : Prop where
  r : W.heap[R]? = some (.cells #[.int .i64 0, .int .i64 0, .int .i64 0] TTk (0, 0))
  t : W.heap[T]? = some (.cells #[.int .i64 k, .int .i64 z, .int .i64 e] TTk (0, 0))
  ge : w.heap.size ≤ R
  lt : R < T
  step : Step No w W
theorem TB.kind {w W : World} {R T : Nat} {k z e : Int} (h : TB w R T k z e W) (k' : Int) : TB w R T k' z e (W.setCell ⟨T, 0, none⟩ (.int .i64 k')) :=
  ⟨blk_set_other h.r (by simp only; have := h.lt; omega) _, by have := blk_set h.t 0 (.int .i64 k'); simpa using this, h.ge, h.lt, set_new h.step (by have := h.ge; have := h.lt; omega) _⟩
theorem TB.end {w W : World} {R T : Nat} {k z e : Int} (h : TB w R T k z e W) (e' : Int) : TB w R T k z e' (W.setCell ⟨T, 2, none⟩ (.int .i64 e')) :=
  ⟨blk_set_other h.r (by simp only; have := h.lt; omega) _, by have := blk_set h.t 2 (.int .i64 e'); simpa using this, h.ge, h.lt, set_new h.step (by have := h.ge; have := h.lt; omega) _⟩
def TokPost (w : World) (r : Int × Nat) (z : Int) (e : Ending) (w' : World) : Prop := e = .returned (.agg #[.int .i64 r.1, .int .i64 z, .int .i64 (r.2 : Nat)]) ∧ Step No w w'
theorem tok_out {w W : World} {R : Nat} (hr : W.heap[R]? = some (.cells #[.int .i64 0, .int .i64 0, .int .i64 0] TTk (0, 0))) (hR : w.heap.size ≤ R) (hs : Step No w W) (k z e : Int) :
    (((W.setCell ⟨R, 0, none⟩ (.int .i64 k)).setCell ⟨R, 1, none⟩ (.int .i64 z)).setCell ⟨R, 2, none⟩ (.int .i64 e)).heap[R]? = some (.cells #[.int .i64 k, .int .i64 z, .int .i64 e] TTk (0, 0)) ∧ Step No w (((W.setCell ⟨R, 0, none⟩ (.int .i64 k)).setCell ⟨R, 1, none⟩ (.int .i64 z)).setCell ⟨R, 2, none⟩ (.int .i64 e)) :=
  ⟨by have := blk_set (blk_set (blk_set hr 0 (.int .i64 k)) 1 (.int .i64 z)) 2 (.int .i64 e); simpa using this, set_new (set_new (set_new hs hR _) hR _) hR _⟩
set_option maxHeartbeats 4000000 in
set_option maxRecDepth 100000 in
theorem token_any (S : ByteArray) (hS : S.size ≤ 140737488355328) (z : Nat) (hz : z < S.size) (w : World) : Calls Tryz.prog 39 #[.string S, .int .i64 (z : Nat)] w (TokPost w (tokenS S z) z) := by
  go_enter Tryz.func39, Tryz.ntmps39
  go_upto_region 1 with (fail)
  have hb := blk_new w (.cells #[.int .i64 0, .int .i64 0, .int .i64 0] TTk)
  have hs : Step No w (w.alloc (.cells #[.int .i64 0, .int .i64 0, .int .i64 0] TTk)) := (Step.refl No w).alloc _
  generalize hW : World.alloc w _ = w1 at *
  obtain ⟨r, hr⟩ : ∃ r, w.heap.size = r := ⟨_, rfl⟩
  have HRr : Hid (w.heap.size ≤ r) := Lib.hid (by omega)
  rw [hr] at hb ⊢
  clear hW hr
  have c0 := blk_cell hb 0
  have c1 := blk_cell hb 1
  have c2 := blk_cell hb 2
  have f0 := blk_free hb 0
  have f1 := blk_free hb 1
  have f2 := blk_free hb 2
  simp at c0 c1 c2
  have HB := Lib.hid hb
  have HS := Lib.hid hs
  clear hb hs
  go_wp2
  go_loopw [7] (fun i wr => ∃ k : Nat, k ≤ 6 ∧ i = .int .i64 k ∧ Hid (∀ j, j < k → signs[j]? ≠ some (bt S z)) ∧ w1 = wr) (fun i _ => 8 - (RowKit.intOf i).toNat)
  case atStart => exact ⟨0, by decide, rfl, Lib.hid (fun j hj => absurd hj (Nat.not_lt_zero _)), rfl⟩
  case round =>
    obtain ⟨k, hk, rfl, hno, rfl⟩ := hrel
    rcases (by omega : k = 0 ∨ k = 1 ∨ k = 2 ∨ k = 3 ∨ k = 4 ∨ k = 5 ∨ k = 6) with rfl | rfl | rfl | rfl | rfl | rfl | rfl
    ·
      by_cases h : signs[0]? = some (bt S z)
      · have e : ((((⟨#[123, 125, 91, 93, 58, 44]⟩ : ByteArray)[0]'(by decide)).toNat : Int) == (S[z].toNat : Int)) = true := lit_yes hz (n := 123) h 123 rfl (by decide)
        have HE : Hid (tokenS S z = (0, z + 1)) := Lib.hid (by unfold tokenS; rw [sign_hit hno.out h]; rfl)
        clear h hno
        have HO := Lib.hid (tok_out HB.out HRr.out HS.out 0 z ((z : Int) + 1))
        go_wp2
        generalize hW : World.setCell (World.setCell (World.setCell _ ⟨r, 0, none⟩ _) ⟨r, 1, none⟩ _) ⟨r, 2, none⟩ _ = W at *
        have r0 := blk_cell HO.out.1 0
        have r1 := blk_cell HO.out.1 1
        have r2 := blk_cell HO.out.1 2
        simp at r0 r1 r2
        exact bodyPost_ret (v := .agg #[.int .i64 0, .int .i64 (z : Nat), .int .i64 ((z : Int) + 1)]) (by simp [results, Tryz.results39, go_sem, r0, r1, r2]) rfl (by rw [HE.out]; exact ⟨rfl, HO.out.2⟩)
      · have e : ((((⟨#[123, 125, 91, 93, 58, 44]⟩ : ByteArray)[0]'(by decide)).toNat : Int) == (S[z].toNat : Int)) = false := lit_no hz (n := 123) h 123 rfl (by decide)
        have HN := Lib.hid (sign_next hno.out h)
        clear h hno
        go_wp2
        go_roundw
        case rel => exact ⟨0 + 1, by decide, by rfl, HN, by first | rfl | trivial⟩
        case measure => simp [RowKit.intOf]
    ·
      by_cases h : signs[1]? = some (bt S z)
      · have e : ((((⟨#[123, 125, 91, 93, 58, 44]⟩ : ByteArray)[1]'(by decide)).toNat : Int) == (S[z].toNat : Int)) = true := lit_yes hz (n := 125) h 125 rfl (by decide)
        have HE : Hid (tokenS S z = (1, z + 1)) := Lib.hid (by unfold tokenS; rw [sign_hit hno.out h]; rfl)
        clear h hno
        have HO := Lib.hid (tok_out HB.out HRr.out HS.out 1 z ((z : Int) + 1))
        go_wp2
        generalize hW : World.setCell (World.setCell (World.setCell _ ⟨r, 0, none⟩ _) ⟨r, 1, none⟩ _) ⟨r, 2, none⟩ _ = W at *
        have r0 := blk_cell HO.out.1 0
        have r1 := blk_cell HO.out.1 1
        have r2 := blk_cell HO.out.1 2
        simp at r0 r1 r2
        exact bodyPost_ret (v := .agg #[.int .i64 1, .int .i64 (z : Nat), .int .i64 ((z : Int) + 1)]) (by simp [results, Tryz.results39, go_sem, r0, r1, r2]) rfl (by rw [HE.out]; exact ⟨rfl, HO.out.2⟩)
      · have e : ((((⟨#[123, 125, 91, 93, 58, 44]⟩ : ByteArray)[1]'(by decide)).toNat : Int) == (S[z].toNat : Int)) = false := lit_no hz (n := 125) h 125 rfl (by decide)
        have HN := Lib.hid (sign_next hno.out h)
        clear h hno
        go_wp2
        go_roundw
        case rel => exact ⟨1 + 1, by decide, by rfl, HN, by first | rfl | trivial⟩
        case measure => simp [RowKit.intOf]
    ·
      by_cases h : signs[2]? = some (bt S z)
      · have e : ((((⟨#[123, 125, 91, 93, 58, 44]⟩ : ByteArray)[2]'(by decide)).toNat : Int) == (S[z].toNat : Int)) = true := lit_yes hz (n := 91) h 91 rfl (by decide)
        have HE : Hid (tokenS S z = (2, z + 1)) := Lib.hid (by unfold tokenS; rw [sign_hit hno.out h]; rfl)
        clear h hno
        have HO := Lib.hid (tok_out HB.out HRr.out HS.out 2 z ((z : Int) + 1))
        go_wp2
        generalize hW : World.setCell (World.setCell (World.setCell _ ⟨r, 0, none⟩ _) ⟨r, 1, none⟩ _) ⟨r, 2, none⟩ _ = W at *
        have r0 := blk_cell HO.out.1 0
        have r1 := blk_cell HO.out.1 1
        have r2 := blk_cell HO.out.1 2
        simp at r0 r1 r2
        exact bodyPost_ret (v := .agg #[.int .i64 2, .int .i64 (z : Nat), .int .i64 ((z : Int) + 1)]) (by simp [results, Tryz.results39, go_sem, r0, r1, r2]) rfl (by rw [HE.out]; exact ⟨rfl, HO.out.2⟩)
      · have e : ((((⟨#[123, 125, 91, 93, 58, 44]⟩ : ByteArray)[2]'(by decide)).toNat : Int) == (S[z].toNat : Int)) = false := lit_no hz (n := 91) h 91 rfl (by decide)
        have HN := Lib.hid (sign_next hno.out h)
        clear h hno
        go_wp2
        go_roundw
        case rel => exact ⟨2 + 1, by decide, by rfl, HN, by first | rfl | trivial⟩
        case measure => simp [RowKit.intOf]
    ·
      by_cases h : signs[3]? = some (bt S z)
      · have e : ((((⟨#[123, 125, 91, 93, 58, 44]⟩ : ByteArray)[3]'(by decide)).toNat : Int) == (S[z].toNat : Int)) = true := lit_yes hz (n := 93) h 93 rfl (by decide)
        have HE : Hid (tokenS S z = (3, z + 1)) := Lib.hid (by unfold tokenS; rw [sign_hit hno.out h]; rfl)
        clear h hno
        have HO := Lib.hid (tok_out HB.out HRr.out HS.out 3 z ((z : Int) + 1))
        go_wp2
        generalize hW : World.setCell (World.setCell (World.setCell _ ⟨r, 0, none⟩ _) ⟨r, 1, none⟩ _) ⟨r, 2, none⟩ _ = W at *
        have r0 := blk_cell HO.out.1 0
        have r1 := blk_cell HO.out.1 1
        have r2 := blk_cell HO.out.1 2
        simp at r0 r1 r2
        exact bodyPost_ret (v := .agg #[.int .i64 3, .int .i64 (z : Nat), .int .i64 ((z : Int) + 1)]) (by simp [results, Tryz.results39, go_sem, r0, r1, r2]) rfl (by rw [HE.out]; exact ⟨rfl, HO.out.2⟩)
      · have e : ((((⟨#[123, 125, 91, 93, 58, 44]⟩ : ByteArray)[3]'(by decide)).toNat : Int) == (S[z].toNat : Int)) = false := lit_no hz (n := 93) h 93 rfl (by decide)
        have HN := Lib.hid (sign_next hno.out h)
        clear h hno
        go_wp2
        go_roundw
        case rel => exact ⟨3 + 1, by decide, by rfl, HN, by first | rfl | trivial⟩
        case measure => simp [RowKit.intOf]
    ·
      by_cases h : signs[4]? = some (bt S z)
      · have e : ((((⟨#[123, 125, 91, 93, 58, 44]⟩ : ByteArray)[4]'(by decide)).toNat : Int) == (S[z].toNat : Int)) = true := lit_yes hz (n := 58) h 58 rfl (by decide)
        have HE : Hid (tokenS S z = (4, z + 1)) := Lib.hid (by unfold tokenS; rw [sign_hit hno.out h]; rfl)
        clear h hno
        have HO := Lib.hid (tok_out HB.out HRr.out HS.out 4 z ((z : Int) + 1))
        go_wp2
        generalize hW : World.setCell (World.setCell (World.setCell _ ⟨r, 0, none⟩ _) ⟨r, 1, none⟩ _) ⟨r, 2, none⟩ _ = W at *
        have r0 := blk_cell HO.out.1 0
        have r1 := blk_cell HO.out.1 1
        have r2 := blk_cell HO.out.1 2
        simp at r0 r1 r2
        exact bodyPost_ret (v := .agg #[.int .i64 4, .int .i64 (z : Nat), .int .i64 ((z : Int) + 1)]) (by simp [results, Tryz.results39, go_sem, r0, r1, r2]) rfl (by rw [HE.out]; exact ⟨rfl, HO.out.2⟩)
      · have e : ((((⟨#[123, 125, 91, 93, 58, 44]⟩ : ByteArray)[4]'(by decide)).toNat : Int) == (S[z].toNat : Int)) = false := lit_no hz (n := 58) h 58 rfl (by decide)
        have HN := Lib.hid (sign_next hno.out h)
        clear h hno
        go_wp2
        go_roundw
        case rel => exact ⟨4 + 1, by decide, by rfl, HN, by first | rfl | trivial⟩
        case measure => simp [RowKit.intOf]
    ·
      by_cases h : signs[5]? = some (bt S z)
      · have e : ((((⟨#[123, 125, 91, 93, 58, 44]⟩ : ByteArray)[5]'(by decide)).toNat : Int) == (S[z].toNat : Int)) = true := lit_yes hz (n := 44) h 44 rfl (by decide)
        have HE : Hid (tokenS S z = (5, z + 1)) := Lib.hid (by unfold tokenS; rw [sign_hit hno.out h]; rfl)
        clear h hno
        have HO := Lib.hid (tok_out HB.out HRr.out HS.out 5 z ((z : Int) + 1))
        go_wp2
        generalize hW : World.setCell (World.setCell (World.setCell _ ⟨r, 0, none⟩ _) ⟨r, 1, none⟩ _) ⟨r, 2, none⟩ _ = W at *
        have r0 := blk_cell HO.out.1 0
        have r1 := blk_cell HO.out.1 1
        have r2 := blk_cell HO.out.1 2
        simp at r0 r1 r2
        exact bodyPost_ret (v := .agg #[.int .i64 5, .int .i64 (z : Nat), .int .i64 ((z : Int) + 1)]) (by simp [results, Tryz.results39, go_sem, r0, r1, r2]) rfl (by rw [HE.out]; exact ⟨rfl, HO.out.2⟩)
      · have e : ((((⟨#[123, 125, 91, 93, 58, 44]⟩ : ByteArray)[5]'(by decide)).toNat : Int) == (S[z].toNat : Int)) = false := lit_no hz (n := 44) h 44 rfl (by decide)
        have HN := Lib.hid (sign_next hno.out h)
        clear h hno
        go_wp2
        go_roundw
        case rel => exact ⟨5 + 1, by decide, by rfl, HN, by first | rfl | trivial⟩
        case measure => simp [RowKit.intOf]
    · have HN := Lib.hid (sign_none hno.out)
      clear hno
      go_upto_region 9 with (fail)
      have HB : Hid (TB w r w1.heap.size 11 z ((z : Int) + 1) (w1.alloc (.cells #[.int .i64 11, .int .i64 (z : Nat), .int .i64 ((z : Int) + 1)] TTk))) := Lib.hid ⟨blk_alloc HB.out _, blk_new _ _, HRr.out, blk_lt HB.out, HS.out.alloc _⟩
      generalize hW : World.alloc w1 _ = w2 at *
      generalize w1.heap.size = T at *
      clear hW c0 c1 c2 f0 f1 f2 HS HRr
      have HTok : Hid (tokenS S z = if isBlank (bt S z) = true then (10, spanTo isBlank S (z + 1)) else if bt S z = 34 then (if (quoteS S z).2 = true then 6 else 11, (quoteS S z).1) else if bt S z = 47 then (if (remarkS S z).2 = true then 9 else 11, (remarkS S z).1) else if isLetter (bt S z) = true then (if wordAt S z (spanTo isLetter S (z + 1)) = true then 8 else 11, spanTo isLetter S (z + 1)) else if z < numberS S z then (7, numberS S z) else (11, z + 1)) := Lib.hid (by unfold tokenS; rw [HN.out])
      clear HN
      have hbz := Lib.hid (bt_at S z hz)
      by_cases hbl : isBlank (bt S z) = true
      · have HTok := Lib.hid (HTok.out.trans (if_pos hbl))
        have HBl : Hid (isBlank S[z] = true) := Lib.hid (by rw [← bt_at S z hz]; exact hbl)
        clear hbl
        go_wp2_with fail
        refine (blank_any _ _).mono ?_
        rintro e w' ⟨rfl, rfl⟩
        rw [HBl.out]
        have f0 := blk_free HB.out.t 0
        have d0 := blk_cell HB.out.t 0
        simp at d0
        have HX := Lib.hid (HB.out.kind 10)
        go_upto_region 11 with (fail)
        generalize hW : World.setCell _ _ _ = wm at *
        clear hW d0 f0 HB
        have HB := HX
        clear HX
        have f2 := blk_free HB.out.t 2
        go_loopg [42] S.size (fun g s wr => ∃ k : Nat, z < k ∧ k ≤ S.size ∧ S.size ≤ k + g ∧ Hid (TB w r T 10 z (k : Nat) wr) ∧ Hid (spanTo isBlank S k = spanTo isBlank S (z + 1)))
        case atStart => exact ⟨z + 1, by omega, by omega, by omega, by simpa using HB, Lib.hid rfl⟩
        case round =>
          clear HB
          obtain ⟨k, hzk, hk, hg, HB, hsp⟩ := hrel
          have d2 := blk_cell HB.out.t 2
          have f2 := blk_free HB.out.t 2
          simp at d2
          by_cases hlt : k < S.size
          · have hbk := Lib.hid (bt_at S k hlt)
            by_cases hp : isBlank (bt S k) = true
            · have HS2 := Lib.hid ((span_step hlt hp).symm.trans hsp.out)
              have HP : Hid (isBlank S[k] = true) := Lib.hid (by rw [← bt_at S k hlt]; exact hp)
              have HX := Lib.hid (HB.out.end ((k : Int) + 1))
              clear hp
              go_wp2_with fail
              refine (blank_any _ _).mono ?_
              rintro e w' ⟨rfl, rfl⟩
              rw [HP.out]
              go_wp2
              obtain ⟨g', rfl⟩ : ∃ g', gk = g' + 1 := ⟨gk - 1, by omega⟩
              go_roundg g'
              case measure => omega
              case rel => exact ⟨k + 1, by omega, by omega, by omega, by simpa using HX, HS2⟩
            · have hp' : isBlank (bt S k) = false := by simpa using hp
              have HS2 : Hid (spanTo isBlank S (z + 1) = k) := Lib.hid (hsp.out.symm.trans (span_stop (.inr hp')))
              have HP : Hid (isBlank S[k] = false) := Lib.hid (by rw [← bt_at S k hlt]; exact hp')
              clear hp hp' hsp
              go_wp2_with fail
              refine (blank_any _ _).mono ?_
              rintro e w' ⟨rfl, rfl⟩
              rw [HP.out]
              have HE : Hid (tokenS S z = (10, k)) := Lib.hid (by rw [HTok.out, HS2.out])
              have HO := Lib.hid (tok_out HB.out.r HB.out.ge HB.out.step 10 z ((k : Nat) : Int))
              have d0 := blk_cell HB.out.t 0
              have d1 := blk_cell HB.out.t 1
              have d2 := blk_cell HB.out.t 2
              have g0 := blk_cell HB.out.r 0
              have g1 := blk_cell HB.out.r 1
              have g2 := blk_cell HB.out.r 2
              have f0 := blk_free HB.out.r 0
              have f1 := blk_free HB.out.r 1
              have f2 := blk_free HB.out.r 2
              simp at d0 d1 d2 g0 g1 g2
              go_wp2
              generalize hW : World.setCell (World.setCell (World.setCell _ ⟨r, 0, none⟩ _) ⟨r, 1, none⟩ _) ⟨r, 2, none⟩ _ = W at *
              have r0 := blk_cell HO.out.1 0
              have r1 := blk_cell HO.out.1 1
              have r2 := blk_cell HO.out.1 2
              simp at r0 r1 r2
              exact bodyPost_ret (v := .agg #[.int .i64 10, .int .i64 (z : Nat), .int .i64 ((k : Nat) : Int)]) (by simp [results, Tryz.results39, go_sem, r0, r1, r2]) rfl (by rw [HE.out]; exact ⟨rfl, HO.out.2⟩)
          · have HS2 : Hid (spanTo isBlank S (z + 1) = k) := Lib.hid (hsp.out.symm.trans (span_stop (.inl (by omega))))
            clear hsp
            have HE : Hid (tokenS S z = (10, k)) := Lib.hid (by rw [HTok.out, HS2.out])
            have HO := Lib.hid (tok_out HB.out.r HB.out.ge HB.out.step 10 z ((k : Nat) : Int))
            have d0 := blk_cell HB.out.t 0
            have d1 := blk_cell HB.out.t 1
            have d2 := blk_cell HB.out.t 2
            have g0 := blk_cell HB.out.r 0
            have g1 := blk_cell HB.out.r 1
            have g2 := blk_cell HB.out.r 2
            have f0 := blk_free HB.out.r 0
            have f1 := blk_free HB.out.r 1
            have f2 := blk_free HB.out.r 2
            simp at d0 d1 d2 g0 g1 g2
            go_wp2
            generalize hW : World.setCell (World.setCell (World.setCell _ ⟨r, 0, none⟩ _) ⟨r, 1, none⟩ _) ⟨r, 2, none⟩ _ = W at *
            have r0 := blk_cell HO.out.1 0
            have r1 := blk_cell HO.out.1 1
            have r2 := blk_cell HO.out.1 2
            simp at r0 r1 r2
            exact bodyPost_ret (v := .agg #[.int .i64 10, .int .i64 (z : Nat), .int .i64 ((k : Nat) : Int)]) (by simp [results, Tryz.results39, go_sem, r0, r1, r2]) rfl (by rw [HE.out]; exact ⟨rfl, HO.out.2⟩)
      · have HTok := Lib.hid (HTok.out.trans (if_neg hbl))
        have HBl : Hid (isBlank S[z] = false) := Lib.hid (by rw [← bt_at S z hz]; simpa using hbl)
        clear hbl
        go_wp2_with fail
        refine (blank_any _ _).mono ?_
        rintro e w' ⟨rfl, rfl⟩
        rw [HBl.out]
        by_cases h34 : bt S z = 34
        · have e := bt_yes hz (n := 34) h34 34 rfl (by decide)
          have HTok := Lib.hid (HTok.out.trans (if_pos h34))
          clear h34
          obtain ⟨q, hq⟩ : ∃ q, quoteS S z = q := ⟨_, rfl⟩
          obtain ⟨qe, qb⟩ := q
          have HQ := Lib.hid hq
          rw [hq] at HTok
          clear hq
          go_wp2_with fail
          refine (quoted_any S hS z hz _).mono ?_
          rintro e w' ⟨rfl, rfl⟩
          rw [HQ.out]
          simp only
          have f0 := blk_free HB.out.t 2
          have d0 := blk_cell HB.out.t 2
          simp at d0
          have HX := Lib.hid (HB.out.end (qe : Nat))
          go_upto_region 16 with (fail)
          generalize hW : World.setCell _ _ _ = wm at *
          clear hW d0 f0 HB
          have HB := HX
          clear HX
          cases qb
          · have HE : Hid (tokenS S z = (11, qe)) := Lib.hid (by have := HTok.out; simpa using this)
            have HO := Lib.hid (tok_out HB.out.r HB.out.ge HB.out.step 11 z ((qe : Nat) : Int))
            have d0 := blk_cell HB.out.t 0
            have d1 := blk_cell HB.out.t 1
            have d2 := blk_cell HB.out.t 2
            have g0 := blk_cell HB.out.r 0
            have g1 := blk_cell HB.out.r 1
            have g2 := blk_cell HB.out.r 2
            have f0 := blk_free HB.out.r 0
            have f1 := blk_free HB.out.r 1
            have f2 := blk_free HB.out.r 2
            simp at d0 d1 d2 g0 g1 g2
            go_wp2
            generalize hW : World.setCell (World.setCell (World.setCell _ ⟨r, 0, none⟩ _) ⟨r, 1, none⟩ _) ⟨r, 2, none⟩ _ = W at *
            have r0 := blk_cell HO.out.1 0
            have r1 := blk_cell HO.out.1 1
            have r2 := blk_cell HO.out.1 2
            simp at r0 r1 r2
            exact bodyPost_ret (v := .agg #[.int .i64 11, .int .i64 (z : Nat), .int .i64 ((qe : Nat) : Int)]) (by simp [results, Tryz.results39, go_sem, r0, r1, r2]) rfl (by rw [HE.out]; exact ⟨rfl, HO.out.2⟩)
          · have HE : Hid (tokenS S z = (6, qe)) := Lib.hid (by have := HTok.out; simpa using this)
            have f0 := blk_free HB.out.t 0
            have d0 := blk_cell HB.out.t 0
            simp at d0
            have HX := Lib.hid (HB.out.kind 6)
            go_upto_region 32 with (fail)
            generalize hW : World.setCell _ _ _ = wm at *
            clear hW d0 f0 HB
            have HB := HX
            clear HX
            have HO := Lib.hid (tok_out HB.out.r HB.out.ge HB.out.step 6 z ((qe : Nat) : Int))
            have d0 := blk_cell HB.out.t 0
            have d1 := blk_cell HB.out.t 1
            have d2 := blk_cell HB.out.t 2
            have g0 := blk_cell HB.out.r 0
            have g1 := blk_cell HB.out.r 1
            have g2 := blk_cell HB.out.r 2
            have f0 := blk_free HB.out.r 0
            have f1 := blk_free HB.out.r 1
            have f2 := blk_free HB.out.r 2
            simp at d0 d1 d2 g0 g1 g2
            go_wp2
            generalize hW : World.setCell (World.setCell (World.setCell _ ⟨r, 0, none⟩ _) ⟨r, 1, none⟩ _) ⟨r, 2, none⟩ _ = W at *
            have r0 := blk_cell HO.out.1 0
            have r1 := blk_cell HO.out.1 1
            have r2 := blk_cell HO.out.1 2
            simp at r0 r1 r2
            exact bodyPost_ret (v := .agg #[.int .i64 6, .int .i64 (z : Nat), .int .i64 ((qe : Nat) : Int)]) (by simp [results, Tryz.results39, go_sem, r0, r1, r2]) rfl (by rw [HE.out]; exact ⟨rfl, HO.out.2⟩)
        · have e := bt_no hz (n := 34) h34 34 rfl (by decide)
          have HTok := Lib.hid (HTok.out.trans (if_neg h34))
          clear h34
          by_cases h47 : bt S z = 47
          · have e := bt_yes hz (n := 47) h47 47 rfl (by decide)
            have HTok := Lib.hid (HTok.out.trans (if_pos h47))
            clear h47
            obtain ⟨q, hq⟩ : ∃ q, remarkS S z = q := ⟨_, rfl⟩
            obtain ⟨qe, qb⟩ := q
            have HQ := Lib.hid hq
            rw [hq] at HTok
            clear hq
            go_wp2_with fail
            refine (remark_any S hS z hz _).mono ?_
            rintro e w' ⟨rfl, rfl⟩
            rw [HQ.out]
            simp only
            have f0 := blk_free HB.out.t 2
            have d0 := blk_cell HB.out.t 2
            simp at d0
            have HX := Lib.hid (HB.out.end (qe : Nat))
            go_upto_region 21 with (fail)
            generalize hW : World.setCell _ _ _ = wm at *
            clear hW d0 f0 HB
            have HB := HX
            clear HX
            cases qb
            · have HE : Hid (tokenS S z = (11, qe)) := Lib.hid (by have := HTok.out; simpa using this)
              have HO := Lib.hid (tok_out HB.out.r HB.out.ge HB.out.step 11 z ((qe : Nat) : Int))
              have d0 := blk_cell HB.out.t 0
              have d1 := blk_cell HB.out.t 1
              have d2 := blk_cell HB.out.t 2
              have g0 := blk_cell HB.out.r 0
              have g1 := blk_cell HB.out.r 1
              have g2 := blk_cell HB.out.r 2
              have f0 := blk_free HB.out.r 0
              have f1 := blk_free HB.out.r 1
              have f2 := blk_free HB.out.r 2
              simp at d0 d1 d2 g0 g1 g2
              go_wp2
              generalize hW : World.setCell (World.setCell (World.setCell _ ⟨r, 0, none⟩ _) ⟨r, 1, none⟩ _) ⟨r, 2, none⟩ _ = W at *
              have r0 := blk_cell HO.out.1 0
              have r1 := blk_cell HO.out.1 1
              have r2 := blk_cell HO.out.1 2
              simp at r0 r1 r2
              exact bodyPost_ret (v := .agg #[.int .i64 11, .int .i64 (z : Nat), .int .i64 ((qe : Nat) : Int)]) (by simp [results, Tryz.results39, go_sem, r0, r1, r2]) rfl (by rw [HE.out]; exact ⟨rfl, HO.out.2⟩)
            · have HE : Hid (tokenS S z = (9, qe)) := Lib.hid (by have := HTok.out; simpa using this)
              have f0 := blk_free HB.out.t 0
              have d0 := blk_cell HB.out.t 0
              simp at d0
              have HX := Lib.hid (HB.out.kind 9)
              go_upto_region 32 with (fail)
              generalize hW : World.setCell _ _ _ = wm at *
              clear hW d0 f0 HB
              have HB := HX
              clear HX
              have HO := Lib.hid (tok_out HB.out.r HB.out.ge HB.out.step 9 z ((qe : Nat) : Int))
              have d0 := blk_cell HB.out.t 0
              have d1 := blk_cell HB.out.t 1
              have d2 := blk_cell HB.out.t 2
              have g0 := blk_cell HB.out.r 0
              have g1 := blk_cell HB.out.r 1
              have g2 := blk_cell HB.out.r 2
              have f0 := blk_free HB.out.r 0
              have f1 := blk_free HB.out.r 1
              have f2 := blk_free HB.out.r 2
              simp at d0 d1 d2 g0 g1 g2
              go_wp2
              generalize hW : World.setCell (World.setCell (World.setCell _ ⟨r, 0, none⟩ _) ⟨r, 1, none⟩ _) ⟨r, 2, none⟩ _ = W at *
              have r0 := blk_cell HO.out.1 0
              have r1 := blk_cell HO.out.1 1
              have r2 := blk_cell HO.out.1 2
              simp at r0 r1 r2
              exact bodyPost_ret (v := .agg #[.int .i64 9, .int .i64 (z : Nat), .int .i64 ((qe : Nat) : Int)]) (by simp [results, Tryz.results39, go_sem, r0, r1, r2]) rfl (by rw [HE.out]; exact ⟨rfl, HO.out.2⟩)
          · have e := bt_no hz (n := 47) h47 47 rfl (by decide)
            have HTok := Lib.hid (HTok.out.trans (if_neg h47))
            clear h47
            by_cases hle : isLetter (bt S z) = true
            · have HTok := Lib.hid (HTok.out.trans (if_pos hle))
              have HLe : Hid (isLetter S[z] = true) := Lib.hid (by rw [← bt_at S z hz]; exact hle)
              clear hle
              go_wp2_with fail
              refine (letter_any _ _).mono ?_
              rintro e w' ⟨rfl, rfl⟩
              rw [HLe.out]
              go_upto_region 24 with (fail)
              have f2 := blk_free HB.out.t 2
              go_loopg [87] S.size (fun g s wr => ∃ k : Nat, z < k ∧ k ≤ S.size ∧ S.size ≤ k + g ∧ Hid (TB w r T 11 z (k : Nat) wr) ∧ Hid (spanTo isLetter S k = spanTo isLetter S (z + 1)))
              case atStart => exact ⟨z + 1, by omega, by omega, by omega, by simpa using HB, Lib.hid rfl⟩
              case round =>
                clear HB
                obtain ⟨k, hzk, hk, hg, HB, hsp⟩ := hrel
                have d2 := blk_cell HB.out.t 2
                have f2 := blk_free HB.out.t 2
                simp at d2
                by_cases hlt : k < S.size
                · have hbk := Lib.hid (bt_at S k hlt)
                  by_cases hp : isLetter (bt S k) = true
                  · have HS2 := Lib.hid ((span_step hlt hp).symm.trans hsp.out)
                    have HP : Hid (isLetter S[k] = true) := Lib.hid (by rw [← bt_at S k hlt]; exact hp)
                    have HX := Lib.hid (HB.out.end ((k : Int) + 1))
                    clear hp
                    go_wp2_with fail
                    refine (letter_any _ _).mono ?_
                    rintro e w' ⟨rfl, rfl⟩
                    rw [HP.out]
                    go_wp2
                    obtain ⟨g', rfl⟩ : ∃ g', gk = g' + 1 := ⟨gk - 1, by omega⟩
                    go_roundg g'
                    case measure => omega
                    case rel => exact ⟨k + 1, by omega, by omega, by omega, by simpa using HX, HS2⟩
                  · have hp' : isLetter (bt S k) = false := by simpa using hp
                    have HS2 : Hid (spanTo isLetter S (z + 1) = k) := Lib.hid (hsp.out.symm.trans (span_stop (.inr hp')))
                    have HP : Hid (isLetter S[k] = false) := Lib.hid (by rw [← bt_at S k hlt]; exact hp')
                    clear hp hp' hsp
                    go_wp2_with fail
                    refine (letter_any _ _).mono ?_
                    rintro e w' ⟨rfl, rfl⟩
                    rw [HP.out]
                    go_upto_region 26 with (fail)
                    obtain ⟨W8, hW8⟩ : ∃ W8 : ByteArray, (⟨((S.data.toList.drop z).take (k - z)).toArray⟩ : ByteArray) = W8 := ⟨_, rfl⟩
                    have HW8 : Hid (S.extract z k = W8) := Lib.hid ((ext_of S z k (Nat.le_of_lt hzk)).trans hW8)
                    have hE : tokenS S z = (if (W8.toList == [116, 114, 117, 101] || W8.toList == [102, 97, 108, 115, 101] || W8.toList == [110, 117, 108, 108]) = true then 8 else 11, k) := by rw [HTok.out, HS2.out, ← hW8, ByteArray.toList_eq]; rfl
                    clear hW8 HTok HS2
                    go_cut [13] (fun s wx => s = .string W8 ∧ wr = wx)
                    case first =>
                      have hlz : z ≤ k := Nat.le_of_lt hzk
                      go_wp2
                      go_meet
                      exact ⟨by rw [HW8.out], rfl⟩
                    case rest =>
                      obtain ⟨rfl, rfl⟩ := hcut
                      clear HW8 d2 f2
                      cases h1 : (W8.toList == [116, 114, 117, 101])
                      · cases h2 : (W8.toList == [102, 97, 108, 115, 101])
                        · cases h3 : (W8.toList == [110, 117, 108, 108])
                          · have HE : Hid (tokenS S z = (11, k)) := Lib.hid (by rw [hE, h1, h2, h3]; rfl)
                            clear hE
                            have HO := Lib.hid (tok_out HB.out.r HB.out.ge HB.out.step 11 z ((k : Nat) : Int))
                            have d0 := blk_cell HB.out.t 0
                            have d1 := blk_cell HB.out.t 1
                            have d2 := blk_cell HB.out.t 2
                            have g0 := blk_cell HB.out.r 0
                            have g1 := blk_cell HB.out.r 1
                            have g2 := blk_cell HB.out.r 2
                            have f0 := blk_free HB.out.r 0
                            have f1 := blk_free HB.out.r 1
                            have f2 := blk_free HB.out.r 2
                            simp at d0 d1 d2 g0 g1 g2
                            go_wp2
                            generalize hW : World.setCell (World.setCell (World.setCell _ ⟨r, 0, none⟩ _) ⟨r, 1, none⟩ _) ⟨r, 2, none⟩ _ = W at *
                            have r0 := blk_cell HO.out.1 0
                            have r1 := blk_cell HO.out.1 1
                            have r2 := blk_cell HO.out.1 2
                            simp at r0 r1 r2
                            exact bodyPost_ret (v := .agg #[.int .i64 11, .int .i64 (z : Nat), .int .i64 ((k : Nat) : Int)]) (by simp [results, Tryz.results39, go_sem, r0, r1, r2]) rfl (by rw [HE.out]; exact ⟨rfl, HO.out.2⟩)
                          · have HE : Hid (tokenS S z = (8, k)) := Lib.hid (by rw [hE, h1, h2, h3]; rfl)
                            clear hE
                            have f0 := blk_free HB.out.t 0
                            have d0 := blk_cell HB.out.t 0
                            simp at d0
                            have HX := Lib.hid (HB.out.kind 8)
                            go_upto_region 32 with (fail)
                            generalize hW : World.setCell _ _ _ = wm at *
                            clear hW d0 f0 HB
                            have HB := HX
                            clear HX
                            have HO := Lib.hid (tok_out HB.out.r HB.out.ge HB.out.step 8 z ((k : Nat) : Int))
                            have d0 := blk_cell HB.out.t 0
                            have d1 := blk_cell HB.out.t 1
                            have d2 := blk_cell HB.out.t 2
                            have g0 := blk_cell HB.out.r 0
                            have g1 := blk_cell HB.out.r 1
                            have g2 := blk_cell HB.out.r 2
                            have f0 := blk_free HB.out.r 0
                            have f1 := blk_free HB.out.r 1
                            have f2 := blk_free HB.out.r 2
                            simp at d0 d1 d2 g0 g1 g2
                            go_wp2
                            generalize hW : World.setCell (World.setCell (World.setCell _ ⟨r, 0, none⟩ _) ⟨r, 1, none⟩ _) ⟨r, 2, none⟩ _ = W at *
                            have r0 := blk_cell HO.out.1 0
                            have r1 := blk_cell HO.out.1 1
                            have r2 := blk_cell HO.out.1 2
                            simp at r0 r1 r2
                            exact bodyPost_ret (v := .agg #[.int .i64 8, .int .i64 (z : Nat), .int .i64 ((k : Nat) : Int)]) (by simp [results, Tryz.results39, go_sem, r0, r1, r2]) rfl (by rw [HE.out]; exact ⟨rfl, HO.out.2⟩)
                        · have HE : Hid (tokenS S z = (8, k)) := Lib.hid (by rw [hE, h1, h2]; rfl)
                          clear hE
                          have f0 := blk_free HB.out.t 0
                          have d0 := blk_cell HB.out.t 0
                          simp at d0
                          have HX := Lib.hid (HB.out.kind 8)
                          go_upto_region 32 with (fail)
                          generalize hW : World.setCell _ _ _ = wm at *
                          clear hW d0 f0 HB
                          have HB := HX
                          clear HX
                          have HO := Lib.hid (tok_out HB.out.r HB.out.ge HB.out.step 8 z ((k : Nat) : Int))
                          have d0 := blk_cell HB.out.t 0
                          have d1 := blk_cell HB.out.t 1
                          have d2 := blk_cell HB.out.t 2
                          have g0 := blk_cell HB.out.r 0
                          have g1 := blk_cell HB.out.r 1
                          have g2 := blk_cell HB.out.r 2
                          have f0 := blk_free HB.out.r 0
                          have f1 := blk_free HB.out.r 1
                          have f2 := blk_free HB.out.r 2
                          simp at d0 d1 d2 g0 g1 g2
                          go_wp2
                          generalize hW : World.setCell (World.setCell (World.setCell _ ⟨r, 0, none⟩ _) ⟨r, 1, none⟩ _) ⟨r, 2, none⟩ _ = W at *
                          have r0 := blk_cell HO.out.1 0
                          have r1 := blk_cell HO.out.1 1
                          have r2 := blk_cell HO.out.1 2
                          simp at r0 r1 r2
                          exact bodyPost_ret (v := .agg #[.int .i64 8, .int .i64 (z : Nat), .int .i64 ((k : Nat) : Int)]) (by simp [results, Tryz.results39, go_sem, r0, r1, r2]) rfl (by rw [HE.out]; exact ⟨rfl, HO.out.2⟩)
                      · have HE : Hid (tokenS S z = (8, k)) := Lib.hid (by rw [hE, h1]; rfl)
                        clear hE
                        have f0 := blk_free HB.out.t 0
                        have d0 := blk_cell HB.out.t 0
                        simp at d0
                        have HX := Lib.hid (HB.out.kind 8)
                        go_upto_region 32 with (fail)
                        generalize hW : World.setCell _ _ _ = wm at *
                        clear hW d0 f0 HB
                        have HB := HX
                        clear HX
                        have HO := Lib.hid (tok_out HB.out.r HB.out.ge HB.out.step 8 z ((k : Nat) : Int))
                        have d0 := blk_cell HB.out.t 0
                        have d1 := blk_cell HB.out.t 1
                        have d2 := blk_cell HB.out.t 2
                        have g0 := blk_cell HB.out.r 0
                        have g1 := blk_cell HB.out.r 1
                        have g2 := blk_cell HB.out.r 2
                        have f0 := blk_free HB.out.r 0
                        have f1 := blk_free HB.out.r 1
                        have f2 := blk_free HB.out.r 2
                        simp at d0 d1 d2 g0 g1 g2
                        go_wp2
                        generalize hW : World.setCell (World.setCell (World.setCell _ ⟨r, 0, none⟩ _) ⟨r, 1, none⟩ _) ⟨r, 2, none⟩ _ = W at *
                        have r0 := blk_cell HO.out.1 0
                        have r1 := blk_cell HO.out.1 1
                        have r2 := blk_cell HO.out.1 2
                        simp at r0 r1 r2
                        exact bodyPost_ret (v := .agg #[.int .i64 8, .int .i64 (z : Nat), .int .i64 ((k : Nat) : Int)]) (by simp [results, Tryz.results39, go_sem, r0, r1, r2]) rfl (by rw [HE.out]; exact ⟨rfl, HO.out.2⟩)
                · have HS2 : Hid (spanTo isLetter S (z + 1) = k) := Lib.hid (hsp.out.symm.trans (span_stop (.inl (by omega))))
                  clear hsp
                  go_upto_region 26 with (fail)
                  obtain ⟨W8, hW8⟩ : ∃ W8 : ByteArray, (⟨((S.data.toList.drop z).take (k - z)).toArray⟩ : ByteArray) = W8 := ⟨_, rfl⟩
                  have HW8 : Hid (S.extract z k = W8) := Lib.hid ((ext_of S z k (Nat.le_of_lt hzk)).trans hW8)
                  have hE : tokenS S z = (if (W8.toList == [116, 114, 117, 101] || W8.toList == [102, 97, 108, 115, 101] || W8.toList == [110, 117, 108, 108]) = true then 8 else 11, k) := by rw [HTok.out, HS2.out, ← hW8, ByteArray.toList_eq]; rfl
                  clear hW8 HTok HS2
                  go_cut [13] (fun s wx => s = .string W8 ∧ wr = wx)
                  case first =>
                    have hlz : z ≤ k := Nat.le_of_lt hzk
                    go_wp2
                    go_meet
                    exact ⟨by rw [HW8.out], rfl⟩
                  case rest =>
                    obtain ⟨rfl, rfl⟩ := hcut
                    clear HW8 d2 f2
                    cases h1 : (W8.toList == [116, 114, 117, 101])
                    · cases h2 : (W8.toList == [102, 97, 108, 115, 101])
                      · cases h3 : (W8.toList == [110, 117, 108, 108])
                        · have HE : Hid (tokenS S z = (11, k)) := Lib.hid (by rw [hE, h1, h2, h3]; rfl)
                          clear hE
                          have HO := Lib.hid (tok_out HB.out.r HB.out.ge HB.out.step 11 z ((k : Nat) : Int))
                          have d0 := blk_cell HB.out.t 0
                          have d1 := blk_cell HB.out.t 1
                          have d2 := blk_cell HB.out.t 2
                          have g0 := blk_cell HB.out.r 0
                          have g1 := blk_cell HB.out.r 1
                          have g2 := blk_cell HB.out.r 2
                          have f0 := blk_free HB.out.r 0
                          have f1 := blk_free HB.out.r 1
                          have f2 := blk_free HB.out.r 2
                          simp at d0 d1 d2 g0 g1 g2
                          go_wp2
                          generalize hW : World.setCell (World.setCell (World.setCell _ ⟨r, 0, none⟩ _) ⟨r, 1, none⟩ _) ⟨r, 2, none⟩ _ = W at *
                          have r0 := blk_cell HO.out.1 0
                          have r1 := blk_cell HO.out.1 1
                          have r2 := blk_cell HO.out.1 2
                          simp at r0 r1 r2
                          exact bodyPost_ret (v := .agg #[.int .i64 11, .int .i64 (z : Nat), .int .i64 ((k : Nat) : Int)]) (by simp [results, Tryz.results39, go_sem, r0, r1, r2]) rfl (by rw [HE.out]; exact ⟨rfl, HO.out.2⟩)
                        · have HE : Hid (tokenS S z = (8, k)) := Lib.hid (by rw [hE, h1, h2, h3]; rfl)
                          clear hE
                          have f0 := blk_free HB.out.t 0
                          have d0 := blk_cell HB.out.t 0
                          simp at d0
                          have HX := Lib.hid (HB.out.kind 8)
                          go_upto_region 32 with (fail)
                          generalize hW : World.setCell _ _ _ = wm at *
                          clear hW d0 f0 HB
                          have HB := HX
                          clear HX
                          have HO := Lib.hid (tok_out HB.out.r HB.out.ge HB.out.step 8 z ((k : Nat) : Int))
                          have d0 := blk_cell HB.out.t 0
                          have d1 := blk_cell HB.out.t 1
                          have d2 := blk_cell HB.out.t 2
                          have g0 := blk_cell HB.out.r 0
                          have g1 := blk_cell HB.out.r 1
                          have g2 := blk_cell HB.out.r 2
                          have f0 := blk_free HB.out.r 0
                          have f1 := blk_free HB.out.r 1
                          have f2 := blk_free HB.out.r 2
                          simp at d0 d1 d2 g0 g1 g2
                          go_wp2
                          generalize hW : World.setCell (World.setCell (World.setCell _ ⟨r, 0, none⟩ _) ⟨r, 1, none⟩ _) ⟨r, 2, none⟩ _ = W at *
                          have r0 := blk_cell HO.out.1 0
                          have r1 := blk_cell HO.out.1 1
                          have r2 := blk_cell HO.out.1 2
                          simp at r0 r1 r2
                          exact bodyPost_ret (v := .agg #[.int .i64 8, .int .i64 (z : Nat), .int .i64 ((k : Nat) : Int)]) (by simp [results, Tryz.results39, go_sem, r0, r1, r2]) rfl (by rw [HE.out]; exact ⟨rfl, HO.out.2⟩)
                      · have HE : Hid (tokenS S z = (8, k)) := Lib.hid (by rw [hE, h1, h2]; rfl)
                        clear hE
                        have f0 := blk_free HB.out.t 0
                        have d0 := blk_cell HB.out.t 0
                        simp at d0
                        have HX := Lib.hid (HB.out.kind 8)
                        go_upto_region 32 with (fail)
                        generalize hW : World.setCell _ _ _ = wm at *
                        clear hW d0 f0 HB
                        have HB := HX
                        clear HX
                        have HO := Lib.hid (tok_out HB.out.r HB.out.ge HB.out.step 8 z ((k : Nat) : Int))
                        have d0 := blk_cell HB.out.t 0
                        have d1 := blk_cell HB.out.t 1
                        have d2 := blk_cell HB.out.t 2
                        have g0 := blk_cell HB.out.r 0
                        have g1 := blk_cell HB.out.r 1
                        have g2 := blk_cell HB.out.r 2
                        have f0 := blk_free HB.out.r 0
                        have f1 := blk_free HB.out.r 1
                        have f2 := blk_free HB.out.r 2
                        simp at d0 d1 d2 g0 g1 g2
                        go_wp2
                        generalize hW : World.setCell (World.setCell (World.setCell _ ⟨r, 0, none⟩ _) ⟨r, 1, none⟩ _) ⟨r, 2, none⟩ _ = W at *
                        have r0 := blk_cell HO.out.1 0
                        have r1 := blk_cell HO.out.1 1
                        have r2 := blk_cell HO.out.1 2
                        simp at r0 r1 r2
                        exact bodyPost_ret (v := .agg #[.int .i64 8, .int .i64 (z : Nat), .int .i64 ((k : Nat) : Int)]) (by simp [results, Tryz.results39, go_sem, r0, r1, r2]) rfl (by rw [HE.out]; exact ⟨rfl, HO.out.2⟩)
                    · have HE : Hid (tokenS S z = (8, k)) := Lib.hid (by rw [hE, h1]; rfl)
                      clear hE
                      have f0 := blk_free HB.out.t 0
                      have d0 := blk_cell HB.out.t 0
                      simp at d0
                      have HX := Lib.hid (HB.out.kind 8)
                      go_upto_region 32 with (fail)
                      generalize hW : World.setCell _ _ _ = wm at *
                      clear hW d0 f0 HB
                      have HB := HX
                      clear HX
                      have HO := Lib.hid (tok_out HB.out.r HB.out.ge HB.out.step 8 z ((k : Nat) : Int))
                      have d0 := blk_cell HB.out.t 0
                      have d1 := blk_cell HB.out.t 1
                      have d2 := blk_cell HB.out.t 2
                      have g0 := blk_cell HB.out.r 0
                      have g1 := blk_cell HB.out.r 1
                      have g2 := blk_cell HB.out.r 2
                      have f0 := blk_free HB.out.r 0
                      have f1 := blk_free HB.out.r 1
                      have f2 := blk_free HB.out.r 2
                      simp at d0 d1 d2 g0 g1 g2
                      go_wp2
                      generalize hW : World.setCell (World.setCell (World.setCell _ ⟨r, 0, none⟩ _) ⟨r, 1, none⟩ _) ⟨r, 2, none⟩ _ = W at *
                      have r0 := blk_cell HO.out.1 0
                      have r1 := blk_cell HO.out.1 1
                      have r2 := blk_cell HO.out.1 2
                      simp at r0 r1 r2
                      exact bodyPost_ret (v := .agg #[.int .i64 8, .int .i64 (z : Nat), .int .i64 ((k : Nat) : Int)]) (by simp [results, Tryz.results39, go_sem, r0, r1, r2]) rfl (by rw [HE.out]; exact ⟨rfl, HO.out.2⟩)
            · have HTok := Lib.hid (HTok.out.trans (if_neg hle))
              have HLe : Hid (isLetter S[z] = false) := Lib.hid (by rw [← bt_at S z hz]; simpa using hle)
              clear hle
              go_wp2_with fail
              refine (letter_any _ _).mono ?_
              rintro e w' ⟨rfl, rfl⟩
              rw [HLe.out]
              go_wp2_with fail
              refine (number_any S hS z hz _).mono ?_
              rintro e w' ⟨rfl, rfl⟩
              by_cases hn : z < numberS S z
              · have HE := Lib.hid (HTok.out.trans (if_pos hn))
                have f0 := blk_free HB.out.t 0
                have d0 := blk_cell HB.out.t 0
                simp at d0
                have HX := Lib.hid (HB.out.kind 7)
                go_wp2_with fail
                generalize hW : World.setCell _ _ _ = wm at *
                clear hW d0 f0 HB
                have HB := HX
                clear HX
                refine (number_any S hS z hz _).mono ?_
                rintro e w' ⟨rfl, rfl⟩
                have f0 := blk_free HB.out.t 2
                have d0 := blk_cell HB.out.t 2
                simp at d0
                have HX := Lib.hid (HB.out.end (numberS S z : Nat))
                go_upto_region 32 with (fail)
                generalize hW : World.setCell _ _ _ = wm at *
                clear hW d0 f0 HB
                have HB := HX
                clear HX
                have HO := Lib.hid (tok_out HB.out.r HB.out.ge HB.out.step 7 z ((numberS S z : Nat) : Int))
                have d0 := blk_cell HB.out.t 0
                have d1 := blk_cell HB.out.t 1
                have d2 := blk_cell HB.out.t 2
                have g0 := blk_cell HB.out.r 0
                have g1 := blk_cell HB.out.r 1
                have g2 := blk_cell HB.out.r 2
                have f0 := blk_free HB.out.r 0
                have f1 := blk_free HB.out.r 1
                have f2 := blk_free HB.out.r 2
                simp at d0 d1 d2 g0 g1 g2
                go_wp2
                generalize hW : World.setCell (World.setCell (World.setCell _ ⟨r, 0, none⟩ _) ⟨r, 1, none⟩ _) ⟨r, 2, none⟩ _ = W at *
                have r0 := blk_cell HO.out.1 0
                have r1 := blk_cell HO.out.1 1
                have r2 := blk_cell HO.out.1 2
                simp at r0 r1 r2
                exact bodyPost_ret (v := .agg #[.int .i64 7, .int .i64 (z : Nat), .int .i64 ((numberS S z : Nat) : Int)]) (by simp [results, Tryz.results39, go_sem, r0, r1, r2]) rfl (by rw [HE.out]; exact ⟨rfl, HO.out.2⟩)
              · have HE := Lib.hid (HTok.out.trans (if_neg hn))
                have HO := Lib.hid (tok_out HB.out.r HB.out.ge HB.out.step 11 z ((z : Int) + 1))
                have d0 := blk_cell HB.out.t 0
                have d1 := blk_cell HB.out.t 1
                have d2 := blk_cell HB.out.t 2
                have g0 := blk_cell HB.out.r 0
                have g1 := blk_cell HB.out.r 1
                have g2 := blk_cell HB.out.r 2
                have f0 := blk_free HB.out.r 0
                have f1 := blk_free HB.out.r 1
                have f2 := blk_free HB.out.r 2
                simp at d0 d1 d2 g0 g1 g2
                go_wp2
                generalize hW : World.setCell (World.setCell (World.setCell _ ⟨r, 0, none⟩ _) ⟨r, 1, none⟩ _) ⟨r, 2, none⟩ _ = W at *
                have r0 := blk_cell HO.out.1 0
                have r1 := blk_cell HO.out.1 1
                have r2 := blk_cell HO.out.1 2
                simp at r0 r1 r2
                exact bodyPost_ret (v := .agg #[.int .i64 11, .int .i64 (z : Nat), .int .i64 ((z : Int) + 1)]) (by simp [results, Tryz.results39, go_sem, r0, r1, r2]) rfl (by rw [HE.out]; exact ⟨rfl, HO.out.2⟩)
end Go.Proofs.YtkamhpbfebdhjaaGreatDoor.RefLex3
