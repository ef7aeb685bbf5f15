/- The reference's taker: texts. -/
import Derived.Test.YtjeamfoicpgkhaaDoorRefTaker
import Derived.Test.YtjeamfoicpgkhaaDoorCut
namespace Go.Proofs.YtjeamfoicpgkhaaDoor.RefTaker
open Go.RowKit Go.Lib Go.Proofs.YtjeamfoicpgkhaaDoor.Mem Go.Proofs.YtjeamfoicpgkhaaDoor.Dec Go.Proofs.YtjeamfoicpgkhaaDoor.Take
set_option linter.unusedVariables false
set_option linter.unusedSimpArgs false
theorem digs_all : ∀ (n : Nat) (l : List UInt8) (i : Nat), i < digs n l → isDig (l.getD i 0) = true
  | 0, l, i, h => by simp [digs] at h
  | n + 1, [], i, h => by simp [digs] at h
  | n + 1, b :: l, i, h => by
    simp only [digs] at h
    split at h
    · rename_i hb
      cases i with
      | zero => simpa using hb
      | succ i => simpa using digs_all n l i (by omega)
    · omega
theorem digs_n : ∀ (n : Nat) (l : List UInt8), digs n l ≤ n
  | 0, l => Nat.le_refl _
  | n + 1, [] => Nat.zero_le _
  | n + 1, b :: l => by
    simp only [digs]
    split
    · have := digs_n n l; omega
    · omega
theorem digF_num (e : UInt8) (l : List UInt8) (p : SF) : 0 ≤ (digF e l p).1 ∧ (digF e l p).1 ≤ 1000000000 := by
  unfold digF
  simp only
  split
  · exact ⟨Int.le_refl _, show (0 : Int) ≤ 1000000000 by decide⟩
  · rename_i hc
    have h2 : l[p.1 + digs 9 (l.drop p.1)]? = some e := Classical.not_not.1 (fun hn => hc (.inr hn))
    have hlt := (List.getElem?_eq_some_iff.1 h2).1
    obtain ⟨h3, h4⟩ := val_le l p.1 (digs 9 (l.drop p.1)) (by omega) (fun i hi => by
      have := digs_all 9 _ i hi
      rw [List.getD_eq_getElem?_getD, List.getElem?_drop] at this
      rw [List.getD_eq_getElem?_getD]
      exact this)
    refine ⟨h3, ?_⟩
    have h9 := digs_n 9 (l.drop p.1)
    have : (10 : Int) ^ digs 9 (l.drop p.1) ≤ 1000000000 := by
      generalize digs 9 (l.drop p.1) = k at *
      rcases (by omega : k = 0 ∨ k = 1 ∨ k = 2 ∨ k = 3 ∨ k = 4 ∨ k = 5 ∨ k = 6 ∨ k = 7 ∨ k = 8 ∨ k = 9) with rfl | rfl | rfl | rfl | rfl | rfl | rfl | rfl | rfl | rfl <;> decide
    show val l p.1 _ ≤ _
    omega
theorem ext_mid (s : ByteArray) (q m : Nat) : s.extract q (q + m) = ⟨((s.data.toList.drop q).take m).toArray⟩ := by
  apply ByteArray.ext
  apply Array.ext'
  simp
theorem frep_bad {S : ByteArray} {W : World} {b q : Nat} {x : Bool} (hb : W.heap[b]? = some (.cells #[.string S, .int .i64 (q : Int), .bool x] TF (0, 0))) : FRep S (W.setCell ⟨b, 2, none⟩ (.bool true)) b (q, true) := by
  have := blk_set hb 2 (.bool true)
  simpa [FRep] using this
set_option maxHeartbeats 4000000 in
set_option maxRecDepth 100000 in
theorem str_any (S : ByteArray) (hS : S.size ≤ 140737488355328) (w : World) (b : Nat) (p : SF) (h : FRep S w b p) (hp : p.1 ≤ 281474976710656) :
    Calls Tryd.prog 35 #[.pointer (some ⟨b, 0, none⟩)] w (FPost S w b (.string ⟨(strF S.data.toList p).1.toArray⟩) (strF S.data.toList p).2) := by
  have hn := digF_num 58 S.data.toList p
  have hle := digF_le 58 S.data.toList p
  have hl : S.data.toList.length = S.size := Array.length_toList
  have hsd : strF S.data.toList p = (if (digF 58 S.data.toList p).2.2 || decide (((S.data.toList.length : Int) - (digF 58 S.data.toList p).2.1) < (digF 58 S.data.toList p).1) then ([], (digF 58 S.data.toList p).2.1, true) else ((S.data.toList.drop (digF 58 S.data.toList p).2.1).take (digF 58 S.data.toList p).1.toNat, (digF 58 S.data.toList p).2.1 + (digF 58 S.data.toList p).1.toNat, false)) := rfl
  rw [hsd, hl]
  clear hsd
  have HH := Lib.hid h
  have HP := Lib.hid hp
  generalize hg : digF 58 S.data.toList p = d at *
  obtain ⟨v, q, x⟩ := d
  simp only at *
  have HG := Lib.hid hg
  obtain ⟨m, rfl⟩ := Int.eq_ofNat_of_zero_le hn.1
  have hm1 : (m : Int) ≤ 1000000000 := hn.2
  have hq1 : (q : Int) ≤ 281474976710658 := by rw [hl] at hle; omega
  have hq0 : (0 : Int) ≤ q := by omega
  have hm0 : (0 : Int) ≤ m := by omega
  clear hg h hp hn hle
  cases x
  · by_cases hlt : (S.size : Int) - q < m
    · have t1 : decide ((S.size : Int) - q < m) = true := decide_eq_true hlt
      have HR : Hid ((if (false || decide ((S.size : Int) - q < m)) = true then (([] : List UInt8), q, true) else (((S.data.toList.drop q).take ((m : Int)).toNat), q + ((m : Int)).toNat, false)) = ([], q, true)) := Lib.hid (by rw [if_pos (by rw [t1]; rfl)])
      clear hlt
      rw [HR.out]
      go_enter Tryd.func35, Tryd.ntmps35
      go_wp2_with fail
      refine (digits_any S hS _ b p.1 p.2 58 HH.out HP.out).mono ?_
      rintro r w' ⟨rfl, h1, h2⟩
      rw [HG.out] at h1
      rw [HG.out]
      have h1' : w'.heap[b]? = some (.cells #[.string S, .int .i64 (q : Int), .bool false] TF (0, 0)) := h1
      obtain ⟨c0, c1, c2, f1, f2⟩ := f_cells h1'
      have HB := Lib.hid h1'
      have HS := Lib.hid h2
      clear h1 h1' h2
      go_wp2
      go_quiet (fail)
      go_wp2
      go_ret
      exact ⟨rfl, frep_bad (W := w'.drewN _) HB.out, (HS.out.drewN _).setCell (fun _ => rfl) _⟩
    · have t1 : decide ((S.size : Int) - q < m) = false := decide_eq_false hlt
      have HR : Hid ((if (false || decide ((S.size : Int) - q < m)) = true then (([] : List UInt8), q, true) else (((S.data.toList.drop q).take ((m : Int)).toNat), q + ((m : Int)).toNat, false)) = ((S.data.toList.drop q).take m, q + m, false)) := Lib.hid (by rw [if_neg (by rw [t1]; decide)]; rfl)
      obtain ⟨r, hr, hrs, hrN⟩ : ∃ r : Nat, (q : Int) + m = r ∧ (r : Int) ≤ S.size ∧ Hid (r = q + m) := ⟨q + m, by omega, by omega, Lib.hid rfl⟩
      have hr2 : IntKind.i64.wrap ((r : Int) - m) = q := by rw [IntWalk.i64_in _ ⟨by omega, by omega⟩]; omega
      have hr3 : (r : Int) - m = q := by omega
      have hqr : (q : Int) ≤ r := by omega
      have hqr2 : q ≤ r := by omega
      have hrs2 : r ≤ S.size := by omega
      have HX : Hid (S.extract q r = ⟨((S.data.toList.drop q).take m).toArray⟩) := Lib.hid (by rw [hrN.out, ext_mid])
      clear hlt
      rw [HR.out]
      go_enter Tryd.func35, Tryd.ntmps35
      go_wp2_with fail
      refine (digits_any S hS _ b p.1 p.2 58 HH.out HP.out).mono ?_
      rintro r w' ⟨rfl, h1, h2⟩
      rw [HG.out] at h1
      rw [HG.out]
      have h1' : w'.heap[b]? = some (.cells #[.string S, .int .i64 (q : Int), .bool false] TF (0, 0)) := h1
      obtain ⟨c0, c1, c2, f1, f2⟩ := f_cells h1'
      have HB := Lib.hid h1'
      have HS := Lib.hid h2
      clear h1 h1' h2
      go_wp2
      go_quiet (fail)
      go_wp2
      generalize hW : World.setCell _ _ _ = W
      have hb := blk_set (w := w'.drewN nq) HB.out 1 (.int .i64 (r : Int))
      rw [hW] at hb
      have hb2 : W.heap[b]? = some (.cells #[.string S, .int .i64 (r : Int), .bool false] TF (0, 0)) := by simpa using hb
      have hst : Step (fun k => k = b) w W := by rw [← hW]; exact (HS.out.drewN _).setCell (fun _ => rfl) _
      clear c0 c1 c2 f1 f2 hW hb
      obtain ⟨c0, c1, c2, f1, f2⟩ := f_cells hb2
      have HB2 := Lib.hid hb2
      have HST := Lib.hid hst
      clear hb2 hst
      go_quiet (fail)
      go_wp2
      go_ret
      exact ⟨by rw [← HX.out]; rfl, by rw [← hrN.out]; exact HB2.out, HST.out.drewN _⟩
  · have HR : Hid ((if (true || decide ((S.size : Int) - q < m)) = true then (([] : List UInt8), q, true) else (((S.data.toList.drop q).take ((m : Int)).toNat), q + ((m : Int)).toNat, false)) = ([], q, true)) := Lib.hid rfl
    rw [HR.out]
    go_enter Tryd.func35, Tryd.ntmps35
    go_wp2_with fail
    refine (digits_any S hS _ b p.1 p.2 58 HH.out HP.out).mono ?_
    rintro r w' ⟨rfl, h1, h2⟩
    rw [HG.out] at h1
    rw [HG.out]
    have h1' : w'.heap[b]? = some (.cells #[.string S, .int .i64 (q : Int), .bool true] TF (0, 0)) := h1
    obtain ⟨c0, c1, c2, f1, f2⟩ := f_cells h1'
    have HB := Lib.hid h1'
    have HS := Lib.hid h2
    clear h1 h1' h2
    go_wp2
    go_quiet (fail)
    go_wp2
    go_ret
    exact ⟨rfl, frep_bad (W := w'.drewN _) HB.out, (HS.out.drewN _).setCell (fun _ => rfl) _⟩
end Go.Proofs.YtjeamfoicpgkhaaDoor.RefTaker
