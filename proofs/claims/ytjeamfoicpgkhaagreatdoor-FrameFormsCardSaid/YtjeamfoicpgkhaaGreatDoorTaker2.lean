/- A taker of packed texts: numbers, bytes, texts. -/
import Derived.Test.YtjeamfoicpgkhaaGreatDoorTaker
namespace Go.Proofs.YtjeamfoicpgkhaaGreatDoor.Taker
open Go.RowKit Go.Lib Go.Proofs.YtjeamfoicpgkhaaGreatDoor.Mem Go.Proofs.YtjeamfoicpgkhaaGreatDoor.Dec Go.Proofs.YtjeamfoicpgkhaaGreatDoor.Take Go.Proofs.YtjeamfoicpgkhaaGreatDoor.Cut Go.Proofs.YtjeamfoicpgkhaaGreatDoor.Env
set_option linter.unusedVariables false
set_option linter.unusedSimpArgs false
theorem Num_any (w : World) (b : Nat) (st : St) (h : TRep w b st) (hE : Env w) :
    Calls Tryz.prog 90 #[.pointer (some ⟨b, 0, none⟩)] w (TPost w b (.int .i64 (digR 44 st).1) (digR 44 st).2) := by
  go_enter Tryz.func90, Tryz.ntmps90
  go_wp2_with fail
  refine (Digits_any w b 44 st h hE).mono ?_
  rintro r w' ⟨rfl, h1, h2⟩
  have Hh1 := Lib.hid h1
  have Hh2 := Lib.hid h2
  clear h1 h2
  generalize digR 44 st = d at *
  go_wp2
  go_ret
  exact ⟨rfl, Hh1.out, Hh2.out⟩
theorem byte_cut {l : List UInt8} {c : UInt8} {r : List UInt8} (h : l = c :: r) : ∃ Z : ByteArray, (⟨l.toArray⟩ : ByteArray) = Z ∧ (Z.toList == []) = false ∧ (∃ h : 0 < Z.size, Z[0]'h = c) ∧ Z.extract 1 Z.size = ⟨r.toArray⟩ := by
  subst h
  refine ⟨_, rfl, ?_, ⟨by rw [t_size]; simp, rfl⟩, ?_⟩
  · rw [ByteArray.toList_eq]; rfl
  · rw [ext_drop]; rfl
set_option maxHeartbeats 1000000 in
set_option maxRecDepth 100000 in
theorem Byte_any (w : World) (b : Nat) (st : St) (h : TRep w b st) :
    Calls Tryz.prog 89 #[.pointer (some ⟨b, 0, none⟩)] w (TPost w b (.int .u8 (byteR st).1.toNat) (byteR st).2) := by
  obtain ⟨l, x⟩ := st
  obtain ⟨hb, hl⟩ := h
  simp only at hb hl
  obtain ⟨c0, c1, f0, f1⟩ := t_cells hb
  have HB := Lib.hid hb
  clear hb
  by_cases hx : x = true
  · subst hx
    have hd : byteR (l, true) = (0, l, true) := by unfold byteR; cases l <;> simp
    rw [hd]
    clear hd
    go_enter Tryz.func89, Tryz.ntmps89
    go_wp2
    go_ret
    exact t_bad HB.out hl (Step.refl _ _)
  · obtain rfl : x = false := by simpa using hx
    clear hx
    cases hlc : l with
    | nil =>
      subst hlc
      have hd : byteR ([], false) = (0, [], true) := rfl
      rw [hd]
      clear hd
      go_enter Tryz.func89, Tryz.ntmps89
      go_wp2
      go_ret
      exact t_bad HB.out hl (Step.refl _ _)
    | cons c r =>
      have hd : byteR (c :: r, false) = (c, r, false) := rfl
      rw [hd]
      obtain ⟨Z, hZ, h0, ⟨hz0, hzc⟩, hex⟩ := byte_cut hlc
      have hr : r.length ≤ 140737488355328 := by rw [hlc] at hl; simp at hl; omega
      have hz1 : (1 : Int) ≤ Z.size := by omega
      rw [hZ] at c0
      have Hhd := Lib.hid hd
      have Hhlc := Lib.hid hlc
      have HhZ := Lib.hid hZ
      clear hd hlc hZ
      clear hl
      go_enter Tryz.func89, Tryz.ntmps89
      go_wp2
      go_ret
      exact ⟨rfl, ⟨blk_set HB.out 0 _, hr⟩, Step.setCell (F := fun k => k = b) (Step.refl _ _) (p := ⟨b, 0, none⟩) (fun _ => rfl) _⟩
theorem sign_pos {p : List UInt8} {v : Int} (h : atoiAll p = .ok v) (hs : sign p = false) : 0 ≤ v := by
  cases p with
  | nil => cases h
  | cons c r =>
    simp only [sign, Bool.or_eq_false_iff, beq_eq_false_iff_ne] at hs
    rw [atoiAll_plain c r (fun e => hs.2 (UInt8.toNat_inj.1 e)) (fun e => hs.1 (UInt8.toNat_inj.1 e))] at h
    cases hp : parseMag (c :: r) with
    | ok u =>
      rw [hp] at h
      simp only [signless] at h
      split at h
      · cases h
      · injection h with h
        omega
    | «syntax» => rw [hp] at h; cases h
    | range => rw [hp] at h; cases h
theorem dig_pos (e : UInt8) (st : St) (h : (digR e st).2.2 = false) : 0 ≤ (digR e st).1 := by
  unfold digR at h ⊢
  cases hc : cutAt e st.1 with
  | none => exact Int.le_refl _
  | some pq =>
    obtain ⟨p, q⟩ := pq
    rw [hc] at h
    simp only at h ⊢
    cases ha : atoiAll p with
    | ok v =>
      rw [ha] at h
      simp only at h ⊢
      split
      · exact Int.le_refl _
      · rename_i hn
        simp only [Bool.or_eq_true, not_or, Bool.not_eq_true] at hn
        exact sign_pos ha hn.2
    | «syntax» => exact Int.le_refl _
    | range => exact Int.le_refl _
theorem dig_le (e : UInt8) (st : St) (h : st.1.length ≤ 140737488355328) : (digR e st).2.1.length ≤ 140737488355328 := by
  unfold digR
  cases hc : cutAt e st.1 with
  | none => exact h
  | some pq =>
    obtain ⟨p, q⟩ := pq
    have := cut_len hc
    simp only
    cases atoiAll p with
    | ok v =>
      simp only
      split
      · exact h
      · simp only; omega
    | «syntax» => exact h
    | range => exact h
set_option maxHeartbeats 1000000 in
set_option maxRecDepth 100000 in
theorem Str_any (w : World) (b : Nat) (st : St) (h : TRep w b st) (hE : Env w) :
    Calls Tryz.prog 95 #[.pointer (some ⟨b, 0, none⟩)] w (TPost w b (.string ⟨(Take.strR st).1.toArray⟩) (Take.strR st).2) := by
  have hd : Take.strR st = (if (digR 58 st).2.2 || decide (((digR 58 st).2.1.length : Int) < (digR 58 st).1) then ([], (digR 58 st).2.1, true) else ((digR 58 st).2.1.take (digR 58 st).1.toNat, (digR 58 st).2.1.drop (digR 58 st).1.toNat, false)) := rfl
  rw [hd]
  clear hd
  have HH := Lib.hid h
  have HE := Lib.hid hE
  clear h hE
  have HD : Hid ((digR 58 st).2.2 = false → 0 ≤ (digR 58 st).1) := Lib.hid (dig_pos 58 st)
  generalize hg : digR 58 st = d at *
  obtain ⟨v, l, x⟩ := d
  simp only at *
  have Hhg := Lib.hid hg
  clear hg
  by_cases hx : x = true
  · subst hx
    simp only [Bool.true_or, if_true]
    go_enter Tryz.func95, Tryz.ntmps95
    go_wp2_with fail
    refine (Digits_any w b 58 st HH.out HE.out).mono ?_
    rintro r w' h1
    rw [Hhg.out] at h1
    obtain ⟨rfl, ⟨hb, hl⟩, hs⟩ := h1
    obtain ⟨c0, c1, f0, f1⟩ := t_cells hb
    have Hhb := Lib.hid hb
    have Hhs := Lib.hid hs
    clear hb hs
    go_wp2
    go_ret
    obtain ⟨-, h2, h3⟩ := t_bad (v := .string ⟨#[]⟩) Hhb.out hl (Step.refl No _)
    exact ⟨rfl, h2, Hhs.out.trans h3 (fun _ f _ => f)⟩
  · obtain rfl : x = false := by simpa using hx
    obtain ⟨k, rfl⟩ := Int.eq_ofNat_of_zero_le (HD.out rfl)
    clear hx HD
    by_cases hk : l.length < k
    · rw [if_pos (by rw [Bool.false_or]; exact decide_eq_true (by omega))]
      go_enter Tryz.func95, Tryz.ntmps95
      go_wp2_with fail
      refine (Digits_any w b 58 st HH.out HE.out).mono ?_
      rintro r w' h1
      rw [Hhg.out] at h1
      obtain ⟨rfl, ⟨hb, hl⟩, hs⟩ := h1
      obtain ⟨c0, c1, f0, f1⟩ := t_cells hb
      obtain ⟨Z, hZ, hZs⟩ : ∃ Z : ByteArray, (⟨l.toArray⟩ : ByteArray) = Z ∧ Z.size = l.length := ⟨_, rfl, t_size l⟩
      rw [hZ] at c0
      have hz : (Z.size : Int) < k := by omega
      have Hhb := Lib.hid hb
      have Hhs := Lib.hid hs
      have HhZ := Lib.hid hZ
      have HhZs := Lib.hid hZs
      clear hb hs hZ hZs
      go_wp2
      go_ret
      obtain ⟨-, h2, h3⟩ := t_bad (v := .string ⟨#[]⟩) Hhb.out hl (Step.refl No _)
      exact ⟨rfl, h2, Hhs.out.trans h3 (fun _ f _ => f)⟩
    · rw [if_neg (by rw [Bool.false_or, decide_eq_true_eq]; omega), Int.toNat_natCast]
      go_enter Tryz.func95, Tryz.ntmps95
      go_wp2_with fail
      refine (Digits_any w b 58 st HH.out HE.out).mono ?_
      rintro r w' h1
      rw [Hhg.out] at h1
      obtain ⟨rfl, ⟨hb, hl⟩, hs⟩ := h1
      obtain ⟨c0, c1, f0, f1⟩ := t_cells hb
      obtain ⟨Z, hZ, hZs, hZ1, hZ2⟩ : ∃ Z : ByteArray, (⟨l.toArray⟩ : ByteArray) = Z ∧ Z.size = l.length ∧ Z.extract 0 k = ⟨(l.take k).toArray⟩ ∧ Z.extract k Z.size = ⟨(l.drop k).toArray⟩ := ⟨_, rfl, t_size l, by rw [ext_take], by rw [ext_drop]⟩
      rw [hZ] at c0
      have hz : (k : Int) ≤ Z.size := by omega
      have hz2 : k ≤ Z.size := by omega
      have hz0 : (0 : Int) ≤ k := by omega
      have hl : l.length ≤ 140737488355328 := hl
      have hd : (l.drop k).length ≤ 140737488355328 := by rw [List.length_drop]; omega
      have Hhb := Lib.hid hb
      have Hhs := Lib.hid hs
      have HhZ := Lib.hid hZ
      have HhZs := Lib.hid hZs
      have Hhd := Lib.hid hd
      clear hb hs hZ hZs hd
      clear hk hl
      go_wp2
      go_ret
      exact ⟨rfl, ⟨blk_set Hhb.out 0 _, Hhd.out⟩, Step.setCell (F := fun k => k = b) Hhs.out (p := ⟨b, 0, none⟩) (fun _ => rfl) _⟩
end Go.Proofs.YtjeamfoicpgkhaaGreatDoor.Taker
