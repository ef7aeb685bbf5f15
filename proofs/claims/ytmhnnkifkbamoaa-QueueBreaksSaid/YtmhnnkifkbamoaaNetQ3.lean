/- The program's queue: Break. -/
import Derived.Test.YtmhnnkifkbamoaaNetQ2
namespace Go.Proofs.Ytmhnnkifkbamoaa.NetQ
open Go.RowKit Go.Proofs.Ytmhnnkifkbamoaa.Mem Go.Proofs.Ytmhnnkifkbamoaa.Bytes
set_option linter.unusedVariables false
set_option linter.unusedSimpArgs false

theorem frs_set (xs : List Fr) (j : Nat) (s : ByteArray) (b : Bool) : frs (xs.set j (s, b)) = ((frs xs).set (j * 2) (.string s)).set (j * 2 + 1) (.bool b) := by
  induction xs generalizing j with
  | nil => simp [frs]
  | cons x xs ih =>
    cases j with
    | zero => simp [frs]
    | succ j =>
      have := ih j
      simp only [frs, List.flatMap_cons, List.set_cons_succ] at this ⊢
      rw [show (j + 1) * 2 = j * 2 + 2 from by omega, show j * 2 + 2 + 1 = j * 2 + 1 + 2 from by omega, this]
      rfl
theorem break_close {T E : TypeId} (hTE : E ≠ T) {ok : Nat → Prop} {w w1 : World} {Q g c j : Nat} {xs : List Fr} {r : Value} {s : ByteArray} (hQ : w.heap[Q]? = some (.cells #[.slice (some ⟨g, 0, none⟩) xs.length c] T (0, 0))) (hok : ok Q)
    (hrow : w.ownsRow 0 E 2 (.slice (some ⟨g, 0, none⟩) xs.length c) xs.length (frs xs)) (hg : ok g) (hs : Step No w w1) :
    QPost T E ok w Q r (xs.set j (s, true)) (.returned r) ((w1.setCell ⟨g, j * 2, none⟩ (.string s)).setCell ⟨g, j * 2 + 1, none⟩ (.bool true)) := by
  have hne : g ≠ Q := fun e => row_ne hrow hQ hTE (by rw [e]; rfl)
  have hq1 := hs.blk hQ (fun f => f)
  have hr1 := row_step hrow hs (fun _ _ f => f)
  obtain ⟨h2, -⟩ := hr1.stored (j * 2) (.string s)
  obtain ⟨h3, -⟩ := h2.stored (j * 2 + 1) (.bool true)
  refine ⟨rfl, ⟨_, blk_set_other (blk_set_other hq1 hne _) hne _, .inl hok, ?_, ?_⟩, (hs.none.setCell (fun _ => hg) _).setCell (fun _ => hg) _⟩
  · rw [List.length_set, frs_set]; exact h3
  · intro k hk
    injection hk with hk
    exact .inl (hk ▸ hg)
theorem Break_nil (w : World) (i k b : Int) : Calls Try.prog 26 #[.pointer none, .int .i64 i, .int .i64 k, .int .i64 b] w fun e w' => e = .returned (.int .i64 1) ∧ w = w' := by
  go_enter Try.func26, Try.ntmps26
  go_wp2
  go_ret
  exact ⟨rfl, rfl⟩
theorem turn_def (s : ByteArray) (n : Nat) (b : Int) : turn s n b = ⟨(s.data.toList.set n ((s.data.toList.getD n 0) ^^^ UInt8.ofNat b.toNat)).toArray⟩ := rfl
theorem turn_eq (s : ByteArray) (k : Nat) (b : Int) (hk : k < s.size) (hb : 1 ≤ b) (hb' : b ≤ 255) :
    bits BinOp.xor IntKind.u8 ((s.data.toList.getD k 0).toNat : Int) b = (((s.data.toList.getD k 0) ^^^ UInt8.ofNat b.toNat).toNat : Int) := by
  have h1 := (s.data.toList.getD k 0).toNat_lt
  rw [u8_xor _ _ (by omega) (by omega) (by omega) (by omega), UInt8.toNat_xor]
  have e1 : ((s.data.toList.getD k 0).toNat : Int).toNat = (s.data.toList.getD k 0).toNat := by omega
  have e2 : (UInt8.ofNat b.toNat).toNat = b.toNat := by rw [UInt8.toNat_ofNat']; omega
  rw [e1, e2]
set_option maxHeartbeats 1000000 in
theorem Break_any (ok : Nat → Prop) (w : World) (Q : Nat) (xs : List Fr) (i k b : Int) (hsz : ∀ x ∈ xs, x.1.size ≤ 1000064) (h : QRep 83 86 ok w Q xs) :
    Calls Try.prog 26 #[.pointer (some ⟨Q, 0, none⟩), .int .i64 i, .int .i64 k, .int .i64 b] w (QPost 83 86 ok w Q (.int .i64 (breakS xs i k b).1) (breakS xs i k b).2) := by
  have HH := Lib.hid h
  by_cases hr : inR xs i
  · obtain ⟨j, rfl⟩ := Int.eq_ofNat_of_zero_le hr.1
    have hj : j < xs.length := by have := hr.2; omega
    have e : breakS xs (j : Int) k b = (if xs[j].2 = true ∨ k < 0 ∨ xs[j].1.size ≤ k ∨ b < 1 ∨ 255 < b then (2200, xs) else (0, xs.set j (turn xs[j].1 k.toNat b, true))) := by unfold breakS; rw [dif_pos hr]; rfl
    rw [e]
    clear e
    obtain ⟨v, hQ, hok, hrow, hv⟩ := h
    obtain ⟨g, c, rfl, hnc, hcm⟩ := row_form hrow (by omega)
    unfold maxLen at hcm
    have hc0 : w.cell? ⟨Q, 0, none⟩ = some (.slice (some ⟨g, 0, none⟩) xs.length c) := by rw [blk_cell hQ]; rfl
    obtain ⟨c1, c2, f1, f2⟩ := row_cell hrow j hj rfl
    have HD : Hid (decide (inR xs (j : Int)) = true) := Lib.hid (decide_eq_true hr)
    have hs := hsz xs[j] (List.getElem_mem hj)
    generalize hx : xs[j] = x at *
    obtain ⟨s, t⟩ := x
    simp only at *
    have hlt := blk_lt hQ
    have hglt := (hrow.lt g rfl).2
    clear hsz hx hr
    have HhQ := Lib.hid hQ
    have Hhok := Lib.hid hok
    have Hhrow := Lib.hid hrow
    have Hhv := Lib.hid hv
    clear hQ hok hrow hv
    by_cases hbad : t = true ∨ k < 0 ∨ s.size ≤ k ∨ b < 1 ∨ 255 < b
    · rw [if_pos hbad]
      by_cases ht : t = true
      · subst ht
        clear hbad
        go_enter Try.func26, Try.ntmps26
        go_wp2_with fail
        refine (there_any _ ok Q xs _ HH.out).mono ?_
        rintro e w' ⟨rfl, rfl⟩
        rw [HD.out]
        go_wp2
        go_ret
        exact QPost.same HH.out (by repeat' (first | exact Step.refl _ _ | with_reducible assumption | refine Step.drew ?_ | refine Step.drewN ?_ _ | refine Step.alloc ?_ _))
      obtain rfl : t = false := by simpa using ht
      clear ht
      by_cases hk0 : k < 0
      · clear hbad
        go_enter Try.func26, Try.ntmps26
        go_wp2_with fail
        refine (there_any _ ok Q xs _ HH.out).mono ?_
        rintro e w' ⟨rfl, rfl⟩
        rw [HD.out]
        go_wp2
        go_ret
        exact QPost.same HH.out (by repeat' (first | exact Step.refl _ _ | with_reducible assumption | refine Step.drew ?_ | refine Step.drewN ?_ _ | refine Step.alloc ?_ _))
      by_cases hk1 : s.size ≤ k
      · clear hbad
        go_enter Try.func26, Try.ntmps26
        go_wp2_with fail
        refine (there_any _ ok Q xs _ HH.out).mono ?_
        rintro e w' ⟨rfl, rfl⟩
        rw [HD.out]
        go_wp2
        go_ret
        exact QPost.same HH.out (by repeat' (first | exact Step.refl _ _ | with_reducible assumption | refine Step.drew ?_ | refine Step.drewN ?_ _ | refine Step.alloc ?_ _))
      by_cases hb0 : b < 1
      · clear hbad
        go_enter Try.func26, Try.ntmps26
        go_wp2_with fail
        refine (there_any _ ok Q xs _ HH.out).mono ?_
        rintro e w' ⟨rfl, rfl⟩
        rw [HD.out]
        go_wp2
        go_ret
        exact QPost.same HH.out (by repeat' (first | exact Step.refl _ _ | with_reducible assumption | refine Step.drew ?_ | refine Step.drewN ?_ _ | refine Step.alloc ?_ _))
      · have hb1 : 255 < b := by simpa [hk0, hk1, hb0] using hbad
        clear hbad
        go_enter Try.func26, Try.ntmps26
        go_wp2_with fail
        refine (there_any _ ok Q xs _ HH.out).mono ?_
        rintro e w' ⟨rfl, rfl⟩
        rw [HD.out]
        go_wp2
        go_ret
        exact QPost.same HH.out (by repeat' (first | exact Step.refl _ _ | with_reducible assumption | refine Step.drew ?_ | refine Step.drewN ?_ _ | refine Step.alloc ?_ _))
    · rw [if_neg hbad]
      obtain ⟨rfl, n, rfl, hn, hb0, hb1⟩ : t = false ∧ ∃ n : Nat, k = n ∧ n < s.size ∧ 1 ≤ b ∧ b ≤ 255 := by
        simp only [not_or] at hbad
        obtain ⟨h1, h2, h3, h4, h5⟩ := hbad
        exact ⟨by simpa using h1, k.toNat, by omega, by omega, by omega, by omega⟩
      have HT := Lib.hid (turn_eq s n b hn hb0 hb1)
      rw [Int.toNat_natCast]
      have HP := Lib.hid (turn_def s n b)
      generalize turn s n b = T at *
      have kb := fun W : World => Lib.run_convert_string_bytes (P := Try.prog) W 9 25 5 s Try.underlying9 Try.underlying25 Try.underlying5
      clear hbad
      go_enter Try.func26, Try.ntmps26
      go_wp2_with fail
      refine (there_any _ ok Q xs _ HH.out).mono ?_
      rintro e w' ⟨rfl, rfl⟩
      rw [HD.out]
      go_upto_region 9 with (fail)
      generalize grownCap w s.size 0 5 = cc
      have hl := (Array.length_toList : s.data.toList.length = s.data.size)
      have hf : BytesNew w.heap.size w (Lib.bytesWorld w 5 s) s.data.toList s.size := bytesNew w 0 5 s
      have hst : Step No w (Lib.bytesWorld w 5 s) := Step.ofBelow hf.below
      generalize Lib.bytesWorld w 5 s = w1 at *
      have cx := hf.cell n hn
      have fx := hf.free n hn
      generalize s.data.toList.getD n 0 = p at *
      have HL := Lib.hid hl
      have Hhf := Lib.hid hf
      have Hhst := Lib.hid hst
      clear hf hst
      clear kb hl
      go_upto_region 10 with (fail)
      rw [HT.out]
      have hf2 := Hhf.out.put HL.out n (p ^^^ UInt8.ofNat b.toNat) hn
      have hst2 : Step No w (w1.setCell ⟨w.heap.size, n, none⟩ (.int .u8 (p ^^^ UInt8.ofNat b.toNat).toNat)) := Hhst.out.setCell (fun h => absurd h (Nat.lt_irrefl _)) _
      generalize w1.setCell ⟨w.heap.size, n, none⟩ (.int .u8 (p ^^^ UInt8.ofNat b.toNat).toNat) = w2 at *
      have hk := bytes_read (P := Try.prog) w2 w.heap.size _ s.size cc (by rw [List.length_set]; exact HL.out) hf2.cell 25 5 9 Try.underlying25 Try.underlying5 Try.underlying9
      rw [← HP.out] at hk
      obtain ⟨c3, c4, f3, f4⟩ := row_cell (row_step Hhrow.out hst2 (fun _ _ f => f)) j hj rfl
      generalize xs[j] = y at *
      obtain ⟨y1, y2⟩ := y
      simp only at c3 c4
      have Hhst2 := Lib.hid hst2
      clear hst2
      clear hf2 cx fx HT HP HL Hhf Hhst c1 c2 f1 f2
      go_wp2
      go_ret
      exact break_close (by decide) HhQ.out Hhok.out Hhrow.out (Hhv.out g rfl) Hhst2.out
  · have e : breakS xs i k b = (2201, xs) := by unfold breakS; rw [dif_neg hr]
    rw [e]
    clear e
    have HD : Hid (decide (inR xs i) = false) := Lib.hid (decide_eq_false hr)
    clear h hr
    go_enter Try.func26, Try.ntmps26
    go_wp2_with fail
    refine (there_any _ ok Q xs _ HH.out).mono ?_
    rintro e w' ⟨rfl, rfl⟩
    rw [HD.out]
    go_wp2
    go_ret
    exact QPost.same HH.out (by repeat' (first | exact Step.refl _ _ | with_reducible assumption | refine Step.drew ?_ | refine Step.drewN ?_ _ | refine Step.alloc ?_ _))
end Go.Proofs.Ytmhnnkifkbamoaa.NetQ
