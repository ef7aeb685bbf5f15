/- The document's queue: each method gives what the row of frames gives. -/
import Derived.Test.YtmhnnkifkbamoaaNetQ3
namespace Go.Proofs.Ytmhnnkifkbamoaa.RefQ
open Go.RowKit Go.Proofs.Ytmhnnkifkbamoaa.Mem Go.Proofs.Ytmhnnkifkbamoaa.Bytes Go.Proofs.Ytmhnnkifkbamoaa.NetQ
set_option linter.unusedVariables false
set_option linter.unusedSimpArgs false

abbrev RQ := QRep 35 89
theorem infoI : (Try.prog.info? 89).map (fun i => (i.zero, i.size, i.bytes)) = some (some (.agg #[.string ⟨#[]⟩, .bool false]), 2, 24) := by kernel_rfl
set_option maxHeartbeats 400000 in
theorem add_any (ok : Nat → Prop) (w : World) (Q : Nat) (xs : List Fr) (s : ByteArray) (b : Bool) (h : RQ ok w Q xs) :
    Calls Try.prog 44 #[.pointer (some ⟨Q, 0, none⟩), .agg #[.string s, .bool b]] w (QPost 35 89 ok w Q (.bool (fits xs s)) (putS xs (s, b))) := by
  have HH := Lib.hid h
  obtain ⟨v, hQ, hok, hrow, hv⟩ := h
  obtain ⟨A, c, rfl, hnc, hcm⟩ := row_slice hrow
  unfold maxLen at hcm
  have hc0 : w.cell? ⟨Q, 0, none⟩ = some (.slice A xs.length c) := by rw [blk_cell hQ]; rfl
  have hlt : Q < w.heap.size := blk_lt hQ
  have HQ := Lib.hid hQ
  have HR := Lib.hid hrow
  have HV := Lib.hid hv
  have HO := Lib.hid hok
  clear hQ hrow hv hok
  by_cases h1 : xs.length < 8
  · have h1' : decide ((xs.length : Int) ≥ 8) = false := decide_eq_false (by omega)
    by_cases h2 : s.size ≤ 1000064
    · have HF : Hid (fits xs s = true) := Lib.hid (by simp [fits, h1, h2])
      have h2' : decide ((s.size : Int) > 1000064) = false := decide_eq_false (by omega)
      have hl7 : xs.length ≤ 7 := by omega
      have hs7 : (s.size : Int) ≤ 1000064 := by omega
      clear h1 h2
      go_enter Try.func44, Try.ntmps44
      go_wp2
      go_region_law (refine step_append_own rfl (.tmp 21) (.tmp 23) 33 89 (.agg #[.string ⟨#[]⟩, .bool false]) 2 24 rfl Try.underlying33 infoI rfl (by decide) (.slice A xs.length c) xs.length (frs xs) (by simp [Act.eval, Act.put]) (by exact (HR.out.alloc _).alloc _) ⟨w.heap.size + 1, 0, none⟩ 1 1 [.string s, .bool b] (by simp [Act.eval, Act.put]) rfl (by simpa using cells_new (w.alloc (.cells #[.string s, .bool b] 89)) #[.string s, .bool b] 89) (by simp [Value.oneCell']) (by simp only [maxLen]; omega) (by omega) ?_; (intro v1 w1 hown hg hat; obtain ⟨A1, c1, rfl, -, -⟩ := row_slice hown; have hq1 : w1.heap[Q]? = some (.cells #[.slice A xs.length c] 35 (0, 0)) := (hg.block Q (by simp; omega) (fun e => row_ne HR.out HQ.out (by decide) e.symm)).trans (blk_alloc (blk_alloc HQ.out _) _); have hc1 := blk_cell hq1 0; have hf1 := blk_free hq1 0; have H1 := Lib.hid hown; have H2 := Lib.hid hg; have H3 := Lib.hid hat; clear hown hg hat hq1; simp at hc1))
      all_goals
        go_wp2
        go_ret
        exact put_yes (by decide) HQ.out HO.out HR.out HV.out HF.out (by repeat' (first | exact Step.refl _ _ | with_reducible assumption | refine Step.drew ?_ | refine Step.drewN ?_ _ | refine Step.alloc ?_ _)) H1.out H2.out H3.out
    · have HF : Hid (fits xs s = false) := Lib.hid (by simp [fits, h2])
      have h2' : decide ((s.size : Int) > 1000064) = true := decide_eq_true (by omega)
      clear h1 h2
      go_enter Try.func44, Try.ntmps44
      go_wp2
      go_ret
      exact put_no HH.out HF.out (by repeat' (first | exact Step.refl _ _ | with_reducible assumption | refine Step.drew ?_ | refine Step.drewN ?_ _ | refine Step.alloc ?_ _))
  · have HF : Hid (fits xs s = false) := Lib.hid (by simp [fits, h1])
    have h1' : decide ((xs.length : Int) ≥ 8) = true := decide_eq_true (by omega)
    clear h1
    go_enter Try.func44, Try.ntmps44
    go_wp2
    go_ret
    exact put_no HH.out HF.out (by repeat' (first | exact Step.refl _ _ | with_reducible assumption | refine Step.drew ?_ | refine Step.drewN ?_ _ | refine Step.alloc ?_ _))
theorem Put_any (ok : Nat → Prop) (w : World) (Q : Nat) (xs : List Fr) (s : ByteArray) (h : RQ ok w Q xs) :
    Calls Try.prog 20 #[.pointer (some ⟨Q, 0, none⟩), .string s] w (QPost 35 89 ok w Q (.bool (fits xs s)) (putS xs (s, false))) := by
  have Hh := Lib.hid h
  clear h
  go_enter Try.func20, Try.ntmps20
  go_wp2_with fail
  refine (add_any ok _ Q xs s false Hh.out).mono ?_
  rintro e w' ⟨rfl, h2⟩
  have Hh2 := Lib.hid h2
  clear h2
  go_wp2
  go_ret
  exact ⟨rfl, Hh2.out⟩
set_option maxHeartbeats 400000 in
theorem Copy_any (ok : Nat → Prop) (w : World) (Q : Nat) (xs : List Fr) (i : Int) (h : RQ ok w Q xs) :
    Calls Try.prog 25 #[.pointer (some ⟨Q, 0, none⟩), .int .i64 i] w (QPost 35 89 ok w Q (.tuple #[.bool (copyS xs i).1, .int .i64 (copyS xs i).2.1]) (copyS xs i).2.2) := by
  have HH := Lib.hid h
  obtain ⟨v, hQ, hok, hrow, hv⟩ := h
  by_cases hr : inR xs i
  · obtain ⟨j, rfl⟩ := Int.eq_ofNat_of_zero_le hr.1
    have hj : j < xs.length := by have := hr.2; omega
    have e : copyS xs (j : Int) = (fits xs xs[j].1, 0, putS xs xs[j]) := by unfold copyS; rw [dif_pos hr]; rfl
    rw [e]
    clear e
    obtain ⟨g, c, rfl, hnc, hcm⟩ := row_form hrow (by omega)
    unfold maxLen at hcm
    have hc0 : w.cell? ⟨Q, 0, none⟩ = some (.slice (some ⟨g, 0, none⟩) xs.length c) := by rw [blk_cell hQ]; rfl
    obtain ⟨c1, c2, -, -⟩ := row_cell hrow j hj rfl
    generalize xs[j] = x at *
    obtain ⟨s, b⟩ := x
    clear hr hQ hok hrow hv
    go_enter Try.func25, Try.ntmps25
    go_wp2_with fail
    refine (add_any ok _ Q xs s b HH.out).mono ?_
    rintro e w1 ⟨rfl, h2⟩
    have Hh2 := Lib.hid h2
    clear h2
    go_wp2
    go_ret2
    exact ⟨rfl, Hh2.out⟩
  · have e : copyS xs i = (false, 2201, xs) := by unfold copyS; rw [dif_neg hr]
    rw [e]
    clear e
    obtain ⟨A, c, rfl, hnc, hcm⟩ := row_slice hrow
    unfold maxLen at hcm
    have hc0 : w.cell? ⟨Q, 0, none⟩ = some (.slice A xs.length c) := by rw [blk_cell hQ]; rfl
    clear hQ hok hrow hv
    by_cases h0 : i < 0
    · clear hr
      go_enter Try.func25, Try.ntmps25
      go_wp2
      go_ret2
      exact QPost.same HH.out (by repeat' (first | exact Step.refl _ _ | with_reducible assumption | refine Step.drew ?_ | refine Step.drewN ?_ _ | refine Step.alloc ?_ _))
    · have h1 : (xs.length : Int) ≤ i := by unfold inR at hr; omega
      clear hr
      go_enter Try.func25, Try.ntmps25
      go_wp2
      go_ret2
      exact QPost.same HH.out (by repeat' (first | exact Step.refl _ _ | with_reducible assumption | refine Step.drew ?_ | refine Step.drewN ?_ _ | refine Step.alloc ?_ _))
end Go.Proofs.Ytmhnnkifkbamoaa.RefQ
