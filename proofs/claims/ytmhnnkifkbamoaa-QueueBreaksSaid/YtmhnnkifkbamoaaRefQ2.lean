/- The document's queue: Take, Break, All. -/
import Derived.Test.YtmhnnkifkbamoaaRefQ
namespace Go.Proofs.Ytmhnnkifkbamoaa.RefQ
open Go.RowKit Go.Proofs.Ytmhnnkifkbamoaa.Mem Go.Proofs.Ytmhnnkifkbamoaa.Bytes Go.Proofs.Ytmhnnkifkbamoaa.NetQ
set_option linter.unusedVariables false
set_option linter.unusedSimpArgs false

/-- A row of one's own is stored into the queue. -/
theorem store_close {T E : TypeId} (hTE : E ≠ T) {ok : Nat → Prop} {w w1 : World} {Q : Nat} {xs : List Fr} {r v0 v1 : Value} (hQ : w.heap[Q]? = some (.cells #[v0] T (0, 0))) (hok : ok Q) (hs : Step No w w1)
    (h1 : w1.ownsRow 0 E 2 v1 xs.length (frs xs)) (hv1 : ∀ k, v1.ownBlock = some k → w.heap.size ≤ k) : QPost T E ok w Q r xs (.returned r) (w1.setCell ⟨Q, 0, none⟩ v1) := by
  have hq1 := hs.blk hQ (fun f => f)
  have hne : v1.ownBlock ≠ some Q := row_ne h1 hq1 hTE
  exact ⟨rfl, ⟨v1, blk_set hq1 0 v1, .inl hok, row_move h1 (fun k hk => Below.heap_setCell _ _ _ _ (fun e => hne (by rw [hk, e]))), fun k hk => .inr (hv1 k hk)⟩, hs.none.setCell (fun _ => hok) _⟩
theorem cells_from {w : World} {E : TypeId} {g n c : Nat} {xs : List Fr} (hrow : w.ownsRow 0 E 2 (.slice (some ⟨g, 0, none⟩) n c) n (frs xs)) (i : Nat) (hn : xs.length = n) :
    ∀ j u, (frs (xs.drop i))[j]? = some u → w.cell? ((⟨g, i * 2, none⟩ : Addr).add j) = some u := by
  intro j u hu
  rw [← frs_drop, List.getElem?_drop] at hu
  have hlt : i * 2 + j < (frs xs).length := (List.getElem?_eq_some_iff.1 hu).1
  rw [frs_length, hn] at hlt
  have : (⟨g, i * 2, none⟩ : Addr).add j = ⟨g, i * 2 + j, none⟩ := by unfold Addr.add; split <;> simp_all
  rw [this, hrow.cellAt _ hlt, hu]
theorem cells_upto {w : World} {E : TypeId} {g n c : Nat} {xs : List Fr} (hrow : w.ownsRow 0 E 2 (.slice (some ⟨g, 0, none⟩) n c) n (frs xs)) (i : Nat) (hn : xs.length = n) :
    ∀ j u, (frs (xs.take i))[j]? = some u → w.cell? ((⟨g, 0, none⟩ : Addr).add j) = some u := by
  intro j u hu
  rw [← frs_take, List.getElem?_take] at hu
  split at hu
  · have hlt : j < (frs xs).length := (List.getElem?_eq_some_iff.1 hu).1
    rw [frs_length, hn] at hlt
    have : (⟨g, 0, none⟩ : Addr).add j = ⟨g, j, none⟩ := by unfold Addr.add; split <;> simp_all
    rw [this, hrow.cellAt _ hlt, hu]
  · cases hu
theorem fresh_grown {w w0 : World} {v v1 : Value} (hs : Step No w w0) (hb : ∀ b, v.ownBlock = some b → w.heap.size ≤ b) (hat : v1.ownBlock = v.ownBlock ∨ v1.ownBlock = some w0.heap.size) : ∀ b, v1.ownBlock = some b → w.heap.size ≤ b := by
  intro b hb'
  rcases hat with hat | hat
  · exact hb b (by rw [← hat, hb'])
  · rw [hb'] at hat; injection hat with hat; rw [hat]; exact hs.size
theorem step_grown {w w0 w1 : World} {v : Value} (hs : Step No w w0) (hb : ∀ b, v.ownBlock = some b → w.heap.size ≤ b) (hg : w0.grownBy w1 v.ownBlock) : Step No w w1 :=
  hs.grown hg (fun b hb' hlt => by have := hb b hb'; omega)
set_option maxHeartbeats 1000000 in
theorem Take_any (ok : Nat → Prop) (w : World) (Q : Nat) (xs : List Fr) (i : Int) (h8 : xs.length ≤ 8) (h : RQ ok w Q xs) :
    Calls Try.prog 22 #[.pointer (some ⟨Q, 0, none⟩), .int .i64 i] w (QPost 35 89 ok w Q (.tuple #[.string (takeS xs i).1, .int .i64 (takeS xs i).2.1]) (takeS xs i).2.2) := by
  have HH := Lib.hid h
  obtain ⟨v, hQ, hok, hrow, hv⟩ := h
  by_cases hr : inR xs i
  · obtain ⟨j, rfl⟩ := Int.eq_ofNat_of_zero_le hr.1
    have hj : j < xs.length := by have := hr.2; omega
    have e : takeS xs (j : Int) = (xs[j].1, 0, xs.eraseIdx j) := by unfold takeS; rw [dif_pos hr]; rfl
    rw [e]
    clear e
    obtain ⟨g, c, rfl, hnc, hcm⟩ := row_form hrow (by omega)
    unfold maxLen at hcm
    have hc0 : w.cell? ⟨Q, 0, none⟩ = some (.slice (some ⟨g, 0, none⟩) xs.length c) := by rw [blk_cell hQ]; rfl
    obtain ⟨c1, c2, -, -⟩ := row_cell hrow j hj rfl
    have hlt := blk_lt hQ
    generalize xs[j].1 = s at *
    have HE : Hid (xs.eraseIdx j = xs.take j ++ xs.drop (j + 1)) := Lib.hid (List.eraseIdx_eq_take_drop_succ _ _)
    have HL : Hid ((xs.take j).length = j) := Lib.hid (by rw [List.length_take]; omega)
    have HL2 : Hid ((xs.drop (j + 1)).length = xs.length - (j + 1)) := Lib.hid (by rw [List.length_drop])
    have HL3 : Hid (j + (xs.length - (j + 1)) = (xs.eraseIdx j).length) := Lib.hid (by rw [HE.out, List.length_append, HL.out, HL2.out])
    generalize xs.eraseIdx j = ys at *
    clear hr
    have HhQ := Lib.hid hQ
    have Hhok := Lib.hid hok
    have Hhrow := Lib.hid hrow
    have Hhv := Lib.hid hv
    clear hQ hok hrow hv
    go_enter Try.func22, Try.ntmps22
    go_upto_region 5 with (at_builtin; (refine list_append_own _ rfl (.tmp 27) (.tmp 33) 33 89 (.agg #[.string ⟨#[]⟩, .bool false]) 2 24 rfl Try.underlying33 infoI rfl (by decide) (.slice (some ⟨w.heap.size, 0, none⟩) 0 0) 0 [] rfl (World.ownsRow_made w #[] 0 (Nat.zero_le _) (by decide) rfl) ⟨g, 0, none⟩ j c (frs (xs.take j)) rfl (by rw [frs_length, HL.out]) (by exact cells_upto (Hhrow.out.alloc _) j rfl) (frs_one _) (by simp only [maxLen]; omega) (by omega) ?_); intro v1 w1 hown hg hat)
    rw [Nat.zero_add, List.nil_append] at hown
    have hs1 : Step No w w1 := step_grown (w0 := w.alloc (.cells #[] 89)) (by repeat' (first | exact Step.refl _ _ | with_reducible assumption | refine Step.drew ?_ | refine Step.drewN ?_ _ | refine Step.alloc ?_ _)) (fun b hb => by injection hb with hb; exact Nat.le_of_eq hb) hg
    have hb1 : ∀ b, v1.ownBlock = some b → w.heap.size ≤ b := fresh_grown (w0 := w.alloc (.cells #[] 89)) (by repeat' (first | exact Step.refl _ _ | with_reducible assumption | refine Step.drew ?_ | refine Step.drewN ?_ _ | refine Step.alloc ?_ _)) (fun b hb => by injection hb with hb; exact Nat.le_of_eq hb) hat
    clear hg hat
    have hq1 : w1.heap[Q]? = _ := hs1.blk HhQ.out (fun f => f)
    have hc3 := blk_cell hq1 0
    have hr1 := row_step Hhrow.out hs1 (fun _ _ f => f)
    have HR1 := Lib.hid hr1
    have Hhown := Lib.hid hown
    have Hhs1 := Lib.hid hs1
    have Hhb1 := Lib.hid hb1
    have Hhq1 := Lib.hid hq1
    clear hown hs1 hb1 hq1
    clear hr1
    obtain ⟨A1, k1, rfl, -, -⟩ := row_slice Hhown.out
    by_cases hcap : c = j + 1
    · have HN : Hid (xs.drop (j + 1) = []) := Lib.hid (List.drop_eq_nil_of_le (by omega))
      have HL4 : Hid (j + 0 = ys.length) := Lib.hid (by rw [← HL3.out]; omega)
      subst hcap
      go_wp2_with (at_builtin; (refine list_append_own _ rfl (.tmp 35) (.tmp 42) 33 89 (.agg #[.string ⟨#[]⟩, .bool false]) 2 24 rfl Try.underlying33 infoI rfl (by decide) (.slice A1 j k1) j _ rfl Hhown.out ⟨g, 0, none⟩ 0 0 (frs (xs.drop (j + 1))) rfl (by rw [HN.out]; rfl) (by rw [HN.out]; intro q u hu; simp [frs] at hu) (frs_one _) (by simp only [maxLen]; omega) (by omega) ?_); intro v2 w2 hown2 hg2 hat2; rw [← frs_append, ← HE.out, HL4.out] at hown2; have hs2 := step_grown Hhs1.out Hhb1.out hg2; have hb2 := fresh_grown Hhs1.out Hhb1.out hat2; have hq2 : w2.heap[Q]? = _ := hs2.blk HhQ.out (fun f => f); have hc5 := blk_cell hq2 0; have hf5 := blk_free hq2 0; obtain ⟨A2, k2, rfl, -, -⟩ := row_slice hown2; have H1 := Lib.hid hown2; have H2 := Lib.hid hs2; have H3 := Lib.hid hb2; clear hown2 hg2 hat2 hs2 hb2 hq2; simp at hc5)
      go_ret2
      exact store_close (by decide) HhQ.out Hhok.out H2.out H1.out H3.out
    · go_wp2_with (at_builtin; (refine list_append_own _ rfl (.tmp 35) (.tmp 42) 33 89 (.agg #[.string ⟨#[]⟩, .bool false]) 2 24 rfl Try.underlying33 infoI rfl (by decide) (.slice A1 j k1) j _ rfl Hhown.out ⟨g, (j + 1) * 2, none⟩ (xs.length - (j + 1)) (c - (j + 1)) (frs (xs.drop (j + 1))) rfl (by rw [frs_length, HL2.out]) (by exact cells_from HR1.out (j + 1) rfl) (frs_one _) (by simp only [maxLen]; omega) (by omega) ?_); intro v2 w2 hown2 hg2 hat2; rw [← frs_append, ← HE.out, HL3.out] at hown2; have hs2 := step_grown Hhs1.out Hhb1.out hg2; have hb2 := fresh_grown Hhs1.out Hhb1.out hat2; have hq2 : w2.heap[Q]? = _ := hs2.blk HhQ.out (fun f => f); have hc5 := blk_cell hq2 0; have hf5 := blk_free hq2 0; obtain ⟨A2, k2, rfl, -, -⟩ := row_slice hown2; have H1 := Lib.hid hown2; have H2 := Lib.hid hs2; have H3 := Lib.hid hb2; clear hown2 hg2 hat2 hs2 hb2 hq2; simp at hc5)
      go_ret2
      exact store_close (by decide) HhQ.out Hhok.out H2.out H1.out H3.out
  · have e : takeS xs i = (⟨#[]⟩, 2201, xs) := by unfold takeS; rw [dif_neg hr]
    rw [e]
    clear e
    obtain ⟨A, c, rfl, hnc, hcm⟩ := row_slice hrow
    unfold maxLen at hcm
    have hc0 : w.cell? ⟨Q, 0, none⟩ = some (.slice A xs.length c) := by rw [blk_cell hQ]; rfl
    clear hQ hok hrow hv
    by_cases h0 : i < 0
    · clear hr
      go_enter Try.func22, Try.ntmps22
      go_wp2
      go_ret2
      exact QPost.same HH.out (by repeat' (first | exact Step.refl _ _ | with_reducible assumption | refine Step.drew ?_ | refine Step.drewN ?_ _ | refine Step.alloc ?_ _))
    · have h1 : (xs.length : Int) ≤ i := by unfold inR at hr; omega
      clear hr
      go_enter Try.func22, Try.ntmps22
      go_wp2
      go_ret2
      exact QPost.same HH.out (by repeat' (first | exact Step.refl _ _ | with_reducible assumption | refine Step.drew ?_ | refine Step.drewN ?_ _ | refine Step.alloc ?_ _))
end Go.Proofs.Ytmhnnkifkbamoaa.RefQ
