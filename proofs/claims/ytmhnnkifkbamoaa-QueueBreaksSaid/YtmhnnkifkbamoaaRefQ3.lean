/- The document's queue: All, Break. -/
import Derived.Test.YtmhnnkifkbamoaaRefQ2
namespace Go.Proofs.Ytmhnnkifkbamoaa.RefQ
open Go.RowKit Go.Proofs.Ytmhnnkifkbamoaa.Mem Go.Proofs.Ytmhnnkifkbamoaa.Bytes Go.Proofs.Ytmhnnkifkbamoaa.NetQ
set_option linter.unusedVariables false
set_option linter.unusedSimpArgs false

set_option maxHeartbeats 1000000 in
theorem All_any (ok : Nat → Prop) (w : World) (Q : Nat) (xs : List Fr) (h8 : xs.length ≤ 8) (h : RQ ok w Q xs) :
    Calls Try.prog 30 #[.pointer (some ⟨Q, 0, none⟩)] w (AllPost 9 w (xs.map (·.1))) := by
  obtain ⟨v, hQ, hok, hrow, hv⟩ := h
  obtain ⟨A, c, rfl, hnc, hcm⟩ := row_slice hrow
  unfold maxLen at hcm
  have HR := Lib.hid hrow
  have HQ := Lib.hid hQ
  clear hQ hok hv hrow
  go_enter Try.func30, Try.ntmps30
  go_wp2
  go_loopw [3, 4] (fun v i wr => AllRel 9 w xs v i wr) (fun _ i _ => xs.length - (intOf i).toNat)
  case atStart => exact ⟨0, Nat.zero_le _, rfl, World.ownsRow_nil _ _ _ _, Step.refl _ _, fun b hb => by simp [Value.ownBlock] at hb⟩
  case round =>
    obtain ⟨k, hk, rfl, hown, hs, hb⟩ := hrel
    have hc0 : wr.cell? ⟨Q, 0, none⟩ = some (.slice A xs.length c) := by rw [blk_cell (hs.blk HQ.out (fun f => f))]; rfl
    by_cases hlt : k < xs.length
    · obtain ⟨g, c', he, -, -⟩ := row_form HR.out (by omega)
      injection he with he1 he2 he3
      subst he1
      have hlt' : (k : Int) < xs.length := by omega
      have hr2 := row_step HR.out hs (fun _ _ f => f)
      obtain ⟨c1, c2, -, -⟩ := row_cell hr2 k hlt rfl
      have HO := Lib.hid hown
      have HS := Lib.hid hs
      have HB := Lib.hid hb
      generalize hx : xs[k] = x at *
      obtain ⟨s, b⟩ := x
      have HX := Lib.hid hx
      clear hown hs hb hr2 hx he2 he3
      obtain ⟨Av, cv, rfl, -, -⟩ := row_slice HO.out
      go_wp2_with (at_builtin; refine list_append_own _ rfl (.tmp 14) (.tmp 23) 51 9 (.string ⟨#[]⟩) 1 16 rfl Try.underlying51 infoS rfl (by decide) (.slice Av k cv) k _ rfl (by exact HO.out.alloc _) ⟨wr.heap.size, 0, none⟩ 1 1 [.string s] rfl rfl (by exact cells_new wr #[.string s] 9) (by simp [Value.oneCell']) (by simp only [maxLen]; omega) (by omega) ?_; intro v1 w1 hown hg hat; have H1 := Lib.hid hown; have H2 := Lib.hid hg; have H3 := Lib.hid hat; clear hown hg hat)
      go_roundw
      case rel => exact all_next hlt HS.out HB.out (by repeat' (first | exact Step.refl _ _ | with_reducible assumption | refine Step.drew ?_ | refine Step.drewN ?_ _ | refine Step.alloc ?_ _)) (by rw [HX.out]; exact H1.out) H2.out H3.out
      case measure => simp [intOf]; omega
    · have hke : k = xs.length := by omega
      subst hke
      have Hhown := Lib.hid hown
      have Hhs := Lib.hid hs
      have Hhb := Lib.hid hb
      clear hown hs hb
      go_wp2
      go_ret
      refine ⟨_, rfl, ?_, Hhs.out, Hhb.out⟩
      have hown := Hhown.out
      rw [List.take_length] at hown
      rw [List.length_map, List.map_map]
      exact hown
theorem QPost.drew {T E : TypeId} {ok : Nat → Prop} {w : World} {Q : Nat} {v : Value} {xs : List Fr} {e : Ending} {w' : World} (h : QPost T E ok w Q v xs e w') : QPost T E ok w Q v xs e w'.drew := ⟨h.1, h.2.1, h.2.2.drew⟩
set_option maxHeartbeats 2000000 in
theorem Break_any (ok : Nat → Prop) (w : World) (Q : Nat) (xs : List Fr) (i k b : Int) (hsz : ∀ x ∈ xs, x.1.size ≤ 1000064) (h : RQ ok w Q xs) :
    Calls Try.prog 27 #[.pointer (some ⟨Q, 0, none⟩), .int .i64 i, .int .i64 k, .int .i64 b] w (QPost 35 89 ok w Q (.int .i64 (breakS xs i k b).1) (breakS xs i k b).2) := by
  have HH := Lib.hid h
  obtain ⟨v, hQ, hok, hrow, hv⟩ := h
  by_cases hr : inR xs i
  · obtain ⟨j, rfl⟩ := Int.eq_ofNat_of_zero_le hr.1
    have hj : j < xs.length := by have := hr.2; omega
    have e : breakS xs (j : Int) k b = (if xs[j].2 = true ∨ k < 0 ∨ xs[j].1.size ≤ k ∨ b < 1 ∨ 255 < b then (2200, xs) else (0, xs.set j (turn xs[j].1 k.toNat b, true))) := by unfold breakS; rw [dif_pos hr]; rfl
    rw [e]
    clear e
    obtain ⟨g, c, rfl, hnc, hcm⟩ := row_form hrow (by omega)
    unfold maxLen at hcm
    have hc0 : w.cell? ⟨Q, 0, none⟩ = some (.slice (some ⟨g, 0, none⟩) xs.length c) := by rw [blk_cell hQ]; rfl
    obtain ⟨c1, c2, f1, f2⟩ := row_cell hrow j hj rfl
    have hs := hsz xs[j] (List.getElem_mem hj)
    have hjj : (j : Int) < xs.length := by omega
    generalize hx : xs[j] = x at *
    obtain ⟨s, t⟩ := x
    simp only at *
    have hlt := blk_lt hQ
    have hglt := (hrow.lt g rfl).2
    clear hsz hx hr
    have HhQ := Lib.hid hQ
    have Hhok := Lib.hid hok
    have Hhrow := Lib.hid hrow
    have Hhv := Lib.hid hv
    clear hQ hok hrow hv
    by_cases hbad : t = true ∨ k < 0 ∨ s.size ≤ k ∨ b < 1 ∨ 255 < b
    · rw [if_pos hbad]
      by_cases ht : t = true
      · subst ht
        clear hbad
        go_enter Try.func27, Try.ntmps27
        go_wp2
        go_ret
        exact QPost.same HH.out (by repeat' (first | exact Step.refl _ _ | with_reducible assumption | refine Step.drew ?_ | refine Step.drewN ?_ _ | refine Step.alloc ?_ _))
      obtain rfl : t = false := by simpa using ht
      clear ht
      by_cases hk0 : k < 0
      · clear hbad
        go_enter Try.func27, Try.ntmps27
        go_wp2
        go_ret
        exact QPost.same HH.out (by repeat' (first | exact Step.refl _ _ | with_reducible assumption | refine Step.drew ?_ | refine Step.drewN ?_ _ | refine Step.alloc ?_ _))
      by_cases hk1 : s.size ≤ k
      · clear hbad
        go_enter Try.func27, Try.ntmps27
        go_wp2
        go_ret
        exact QPost.same HH.out (by repeat' (first | exact Step.refl _ _ | with_reducible assumption | refine Step.drew ?_ | refine Step.drewN ?_ _ | refine Step.alloc ?_ _))
      by_cases hb0 : b < 1
      · clear hbad
        go_enter Try.func27, Try.ntmps27
        go_wp2
        go_ret
        exact QPost.same HH.out (by repeat' (first | exact Step.refl _ _ | with_reducible assumption | refine Step.drew ?_ | refine Step.drewN ?_ _ | refine Step.alloc ?_ _))
      · have hb1 : 255 < b := by simpa [hk0, hk1, hb0] using hbad
        clear hbad
        go_enter Try.func27, Try.ntmps27
        go_wp2
        go_ret
        exact QPost.same HH.out (by repeat' (first | exact Step.refl _ _ | with_reducible assumption | refine Step.drew ?_ | refine Step.drewN ?_ _ | refine Step.alloc ?_ _))
    · rw [if_neg hbad]
      obtain ⟨rfl, n, rfl, hn, hb0, hb1⟩ : t = false ∧ ∃ n : Nat, k = n ∧ n < s.size ∧ 1 ≤ b ∧ b ≤ 255 := by
        simp only [not_or] at hbad
        obtain ⟨h1, h2, h3, h4, h5⟩ := hbad
        exact ⟨by simpa using h1, k.toNat, by omega, by omega, by omega, by omega⟩
      have HT := Lib.hid (turn_eq s n b hn hb0 hb1)
      rw [Int.toNat_natCast]
      have HP := Lib.hid (turn_def s n b)
      generalize turn s n b = T at *
      have kb := fun W : World => Lib.run_convert_string_bytes (P := Try.prog) W 9 25 5 s Try.underlying9 Try.underlying25 Try.underlying5
      clear hbad
      go_enter Try.func27, Try.ntmps27
      go_upto_region 7 with (fail)
      generalize hw0 : w.alloc (.cells #[.string s, .bool false] 89) = w0 at *
      have hst0 : Step No w w0 := by rw [← hw0]; exact (by repeat' (first | exact Step.refl _ _ | with_reducible assumption | refine Step.drew ?_ | refine Step.drewN ?_ _ | refine Step.alloc ?_ _))
      have hz0 : w0.heap.size = w.heap.size + 1 := by rw [← hw0]; simp
      clear hw0
      rw [← hz0]
      generalize grownCap w0 s.size 0 5 = cc
      have hl := (Array.length_toList : s.data.toList.length = s.data.size)
      have hf : BytesNew w0.heap.size w0 (Lib.bytesWorld w0 5 s) s.data.toList s.size := bytesNew w0 0 5 s
      have hst : Step No w (Lib.bytesWorld w0 5 s) := hst0.trans (Step.ofBelow hf.below) (fun _ f _ => f)
      generalize Lib.bytesWorld w0 5 s = w1 at *
      have cx := hf.cell n hn
      have fx := hf.free n hn
      generalize s.data.toList.getD n 0 = p at *
      have HL := Lib.hid hl
      have Hhf := Lib.hid hf
      have Hhst := Lib.hid hst
      have Hhst0 := Lib.hid hst0
      have Hhz0 := Lib.hid hz0
      clear hf hst hst0 hz0
      clear kb hl
      go_upto_region 8 with (fail)
      rw [HT.out]
      have hf2 := Hhf.out.put HL.out n (p ^^^ UInt8.ofNat b.toNat) hn
      have hst2 : Step No w (w1.setCell ⟨w0.heap.size, n, none⟩ (.int .u8 (p ^^^ UInt8.ofNat b.toNat).toNat)) := Hhst.out.setCell (fun h => absurd h (by have := Hhz0.out; show ¬ (w0.heap.size < w.heap.size); omega)) _
      generalize w1.setCell ⟨w0.heap.size, n, none⟩ (.int .u8 (p ^^^ UInt8.ofNat b.toNat).toNat) = w2 at *
      have hk := fun q : Nat => bytes_read (P := Try.prog) (w2.drewN q) w0.heap.size _ s.size cc (by rw [List.length_set]; exact HL.out) hf2.cell 25 5 9 Try.underlying25 Try.underlying5 Try.underlying9
      rw [← HP.out] at hk
      have hk1 := hk 1
      rw [show w2.drewN 1 = w2.drew from rfl] at hk1
      have hc4 : w2.cell? ⟨Q, 0, none⟩ = some (.slice (some ⟨g, 0, none⟩) xs.length c) := by rw [blk_cell (hst2.blk HhQ.out (fun f => f))]; rfl
      obtain ⟨c3, c4, f3, f4⟩ := row_cell (row_step Hhrow.out hst2 (fun _ _ f => f)) j hj rfl
      generalize xs[j] = y at *
      obtain ⟨y1, y2⟩ := y
      simp only at c3 c4
      have Hhst2 := Lib.hid hst2
      clear hst2
      clear hf2 cx fx HT HP HL Hhf Hhst c1 c2 f1 f2 hk
      go_region
      all_goals
        go_wp2
        go_ret
        first
          | exact QPost.drew (break_close (by decide) HhQ.out Hhok.out Hhrow.out (Hhv.out g rfl) Hhst2.out)
          | exact break_close (by decide) HhQ.out Hhok.out Hhrow.out (Hhv.out g rfl) Hhst2.out.drew
  · have e : breakS xs i k b = (2201, xs) := by unfold breakS; rw [dif_neg hr]
    rw [e]
    clear e
    obtain ⟨A, c, rfl, hnc, hcm⟩ := row_slice hrow
    unfold maxLen at hcm
    have hc0 : w.cell? ⟨Q, 0, none⟩ = some (.slice A xs.length c) := by rw [blk_cell hQ]; rfl
    clear hQ hok hrow hv
    by_cases h0 : i < 0
    · clear hr
      go_enter Try.func27, Try.ntmps27
      go_wp2
      go_ret
      exact QPost.same HH.out (by repeat' (first | exact Step.refl _ _ | with_reducible assumption | refine Step.drew ?_ | refine Step.drewN ?_ _ | refine Step.alloc ?_ _))
    · have h1 : (xs.length : Int) ≤ i := by unfold inR at hr; omega
      clear hr
      go_enter Try.func27, Try.ntmps27
      go_wp2
      go_ret
      exact QPost.same HH.out (by repeat' (first | exact Step.refl _ _ | with_reducible assumption | refine Step.drew ?_ | refine Step.drewN ?_ _ | refine Step.alloc ?_ _))
end Go.Proofs.Ytmhnnkifkbamoaa.RefQ
