/- Several of my texts in one file: Taker, Taker2, Each, TakeC, EachC, TakeN, TakeS, EachS, TakeE. -/
import Derived.Test.YtkamhpbfebdhjaaGreatDoorLumpB
import Derived.Test.YtkamhpbfebdhjaaGreatDoorLumpW
import Derived.Test.YtkamhpbfebdhjaaGreatDoorLumpM
import Derived.Test.YtkamhpbfebdhjaaGreatDoorLumpA
/- A taker of packed texts: what its methods take. -/
namespace Go.Proofs.YtkamhpbfebdhjaaGreatDoor.Taker
open Go.RowKit Go.Lib Go.Proofs.YtkamhpbfebdhjaaGreatDoor.Mem Go.Proofs.YtkamhpbfebdhjaaGreatDoor.Dec Go.Proofs.YtkamhpbfebdhjaaGreatDoor.Take Go.Proofs.YtkamhpbfebdhjaaGreatDoor.Cut Go.Proofs.YtkamhpbfebdhjaaGreatDoor.Env
set_option linter.unusedVariables false
set_option linter.unusedSimpArgs false
abbrev TT : TypeId := 91
/-- A taker in block b stands at st. -/
def TRep (w : World) (b : Nat) (st : St) : Prop :=
  w.heap[b]? = some (.cells #[.string ⟨st.1.toArray⟩, .bool st.2] TT (0, 0)) ∧ st.1.length ≤ 140737488355328
def TPost (w : World) (b : Nat) (v : Value) (st : St) (e : Ending) (w' : World) : Prop :=
  e = .returned v ∧ TRep w' b st ∧ Step (fun k => k = b) w w'
theorem TRep.step {F : Nat → Prop} {w w' : World} {b : Nat} {st : St} (h : TRep w b st) (hs : Step F w w') (hF : ¬ F b) : TRep w' b st := ⟨hs.blk h.1 hF, h.2⟩
theorem t_cells {w : World} {b : Nat} {l : List UInt8} {x : Bool} (h : w.heap[b]? = some (.cells #[.string ⟨l.toArray⟩, .bool x] TT (0, 0))) :
    w.cell? ⟨b, 0, none⟩ = some (.string ⟨l.toArray⟩) ∧ w.cell? ⟨b, 1, none⟩ = some (.bool x) ∧ w.frozen? ⟨b, 0, none⟩ = false ∧ w.frozen? ⟨b, 1, none⟩ = false :=
  ⟨by rw [blk_cell h]; rfl, by rw [blk_cell h]; rfl, blk_free h 0, blk_free h 1⟩
theorem t_bad {w w1 : World} {b : Nat} {l : List UInt8} {x : Bool} (h : w.heap[b]? = some (.cells #[.string ⟨l.toArray⟩, .bool x] TT (0, 0))) (hl : l.length ≤ 140737488355328) (hs : Step No w w1) {v : Value} :
    TPost w b v (l, true) (.returned v) (w1.setCell ⟨b, 1, none⟩ (.bool true)) :=
  ⟨rfl, ⟨blk_set (hs.blk h (fun f => f)) 1 _, hl⟩, Step.setCell (F := fun k => k = b) (hs.mono (fun _ _ f => f.elim)) (p := ⟨b, 1, none⟩) (fun _ => rfl) _⟩
theorem cut_len {e : UInt8} : ∀ {l p q : List UInt8}, cutAt e l = some (p, q) → p.length + 1 + q.length = l.length
  | [], p, q, h => by simp [cutAt] at h
  | b :: l, p, q, h => by
    simp only [cutAt] at h
    split at h
    · simp only [Option.some.injEq, Prod.mk.injEq] at h
      obtain ⟨rfl, rfl⟩ := h
      simp
      omega
    · rw [Option.map_eq_some_iff] at h
      obtain ⟨⟨p', q'⟩, h1, h2⟩ := h
      simp only [Prod.mk.injEq] at h2
      obtain ⟨rfl, rfl⟩ := h2
      have := cut_len h1
      simp
      omega
theorem t_size (l : List UInt8) : (⟨l.toArray⟩ : ByteArray).size = l.length := by
  show l.toArray.size = _
  simp
def AtoiPost (s : ByteArray) (w : World) (r : Ending) (w' : World) : Prop :=
  Step No w w' ∧ ((∃ v, atoiAll s.data.toList = .ok v ∧ r = .returned (.tuple #[.int .i64 v, .nilIface])) ∨ ((∀ v, atoiAll s.data.toList ≠ .ok v) ∧ ∃ n t a, r = .returned (.tuple #[.int .i64 n, .iface t a])))
theorem Atoi_any (s : ByteArray) (hs : s.size ≤ 140737488355328) (w : World) (hE : Env w) : Calls Tryz.prog 95 #[.string s] w (AtoiPost s w) := by
  obtain ⟨-, ⟨t1, p1, h1⟩, t2, p2, h2⟩ := hE
  cases ha : atoiAll s.data.toList with
  | ok v =>
    refine (Tryz.strconv_Atoi_ok s (by omega) v ha w).mono ?_
    rintro r w' ⟨rfl, hw⟩
    refine ⟨?_, .inl ⟨v, ha, rfl⟩⟩
    rcases hw with rfl | ⟨t, rfl⟩
    · exact Step.refl _ _
    · exact Step.ofBelow ⟨rfl, rfl, rfl, by rw [Lib.bytesWorld_size]; omega, fun k hk => Lib.bytesWorld_at_old w _ t k hk⟩
  | «syntax» =>
    refine (Tryz.strconv_Atoi_syntax_var s (by omega) ha t1 p1 w h1).mono ?_
    rintro r w' ⟨N, rfl, _, _, hb⟩
    exact ⟨Step.ofBelow hb, .inr ⟨(fun v hv => by rw [ha] at hv; cases hv), _, _, _, rfl⟩⟩
  | range =>
    refine (Tryz.strconv_Atoi_range_var s (by omega) ha t2 p2 w h2).mono ?_
    rintro r w' ⟨N, rfl, _, _, hb⟩
    exact ⟨Step.ofBelow hb, .inr ⟨(fun v hv => by rw [ha] at hv; cases hv), _, _, _, rfl⟩⟩
set_option maxHeartbeats 4000000 in
set_option maxRecDepth 100000 in
theorem Digits_any (w : World) (b : Nat) (e : UInt8) (st : St) (h : TRep w b st) (hE : Env w) :
    Calls Tryz.prog 81 #[.pointer (some ⟨b, 0, none⟩), .string ⟨#[e]⟩] w (TPost w b (.int .i64 (digR e st).1) (digR e st).2) := by
  obtain ⟨l, x⟩ := st
  obtain ⟨hb, hl⟩ := h
  simp only at hb hl
  obtain ⟨c0, c1, f0, f1⟩ := t_cells hb
  obtain ⟨-, ⟨t1, p1, -⟩, t2, p2, -⟩ := id hE
  have HB := Lib.hid hb
  have HE := Lib.hid hE
  clear hb hE
  cases hc : cutAt e l with
  | none =>
    have hd : digR e (l, x) = (0, l, true) := by unfold digR; simp only [hc]
    rw [hd]
    have Hhd := Lib.hid hd
    have Hhc := Lib.hid hc
    clear hd hc
    go_enter Tryz.func81, Tryz.ntmps81
    go_wp2_with fail
    refine (Cut_any _ e _ (by rw [t_size]; simp only [maxLen]; omega)).mono ?_
    rintro r w1 ⟨hs, hr⟩
    have hr : r = .returned (.tuple #[.string ⟨l.toArray⟩, .string ⟨#[]⟩, .bool false]) := by
      rcases hr with ⟨p, q, h1, _⟩ | ⟨_, h2⟩
      · rw [Hhc.out] at h1
        cases h1
      · exact h2
    subst hr
    have Hhs := Lib.hid hs
    clear hs
    go_wp2_with fail
    refine (Atoi_any _ (by rw [t_size]; exact hl) _ (HE.out.step Hhs.out)).mono ?_
    rintro r w2 ⟨hs2, hr⟩
    have hs := Hhs.out.trans hs2 (fun _ f _ => f)
    have d0 := hs.cell c0 (fun f => f)
    have d1 := hs.cell c1 (fun f => f)
    have g1 : w2.frozen? ⟨b, 1, none⟩ = false := blk_free (hs.blk HB.out (fun f => f)) 1
    clear Hhs hs2
    have Hhs := Lib.hid hs
    clear hs
    rcases hr with ⟨v, -, rfl⟩ | ⟨-, n, t, a, rfl⟩
    · cases x
      · go_wp2
        go_ret
        exact t_bad HB.out hl Hhs.out
      · go_wp2
        go_ret
        exact t_bad HB.out hl Hhs.out
    · cases x
      · go_wp2
        go_ret
        exact t_bad HB.out hl Hhs.out
      · go_wp2
        go_ret
        exact t_bad HB.out hl Hhs.out
  | some pq =>
    obtain ⟨p, q⟩ := pq
    have hlen := cut_len hc
    have hp : p.length ≤ 140737488355328 := by omega
    by_cases hx : x = true
    · subst hx
      have hd : digR e (l, true) = (0, l, true) := by
        unfold digR
        simp only [hc]
        cases atoiAll p <;> simp
      rw [hd]
      have Hhd := Lib.hid hd
      have Hhc := Lib.hid hc
      clear hd hc
      go_enter Tryz.func81, Tryz.ntmps81
      go_wp2_with fail
      refine (Cut_any _ e _ (by rw [t_size]; simp only [maxLen]; omega)).mono ?_
      rintro r1 w1 ⟨hs, hr⟩
      have hr : r1 = .returned (.tuple #[.string ⟨p.toArray⟩, .string ⟨q.toArray⟩, .bool true]) := by
        rcases hr with ⟨p1, q1, h1, h2⟩ | ⟨h1, _⟩
        · rw [show (⟨l.toArray⟩ : ByteArray).data.toList = l from rfl, Hhc.out] at h1
          simp only [Option.some.injEq, Prod.mk.injEq] at h1
          obtain ⟨rfl, rfl⟩ := h1
          exact h2
        · rw [show (⟨l.toArray⟩ : ByteArray).data.toList = l from rfl, Hhc.out] at h1
          cases h1
      subst hr
      have Hhs := Lib.hid hs
      clear hs
      go_wp2_with fail
      refine (Atoi_any _ (by rw [t_size]; exact hp) _ (HE.out.step Hhs.out)).mono ?_
      rintro r1 w2 ⟨hs2, hr⟩
      rw [show (⟨p.toArray⟩ : ByteArray).data.toList = p from rfl] at hr
      have hs := Hhs.out.trans hs2 (fun _ f _ => f)
      have d0 := hs.cell c0 (fun f => f)
      have d1 := hs.cell c1 (fun f => f)
      have g1 : w2.frozen? ⟨b, 1, none⟩ = false := blk_free (hs.blk HB.out (fun f => f)) 1
      have g0 : w2.frozen? ⟨b, 0, none⟩ = false := blk_free (hs.blk HB.out (fun f => f)) 0
      clear Hhs hs2
      have Hhs := Lib.hid hs
      clear hs
      rcases hr with ⟨v, -, rfl⟩ | ⟨-, n, t, a, rfl⟩
      · go_wp2
        go_ret
        exact t_bad HB.out hl Hhs.out
      · go_wp2
        go_ret
        exact t_bad HB.out hl Hhs.out
    · obtain rfl : x = false := by simpa using hx
      clear hx
      by_cases hv : ∃ v, atoiAll p = .ok v
      · obtain ⟨v, hv⟩ := hv
        obtain ⟨c, r, rfl⟩ : ∃ c r, p = c :: r := by
          cases p with
          | nil => cases hv
          | cons c r => exact ⟨c, r, rfl⟩
        have HV := Lib.hid hv
        by_cases h9 : 9 < (c :: r).length
        · have hd : digR e (l, false) = (0, l, true) := by
            unfold digR
            simp only [hc, hv, decide_eq_true h9]
            simp
          rw [hd]
          have Hhd := Lib.hid hd
          have Hhc := Lib.hid hc
          have Hhv := Lib.hid hv
          clear hd hc hv
          obtain ⟨Z, hZ, hZd, hzz, hz0, hzc⟩ : ∃ Z : ByteArray, (⟨(c :: r).toArray⟩ : ByteArray) = Z ∧ Z.data.toList = c :: r ∧ Z.size = (c :: r).length ∧ ∃ h : 0 < Z.size, Z[0]'h = c := ⟨_, rfl, rfl, t_size _, by rw [t_size]; simp, rfl⟩
          have HZ := Lib.hid hZ
          have HZd := Lib.hid hZd
          have HZZ := Lib.hid hzz
          clear hZ hZd hzz
          go_enter Tryz.func81, Tryz.ntmps81
          go_wp2_with fail
          refine (Cut_any _ e _ (by rw [t_size]; simp only [maxLen]; omega)).mono ?_
          rintro r1 w1 ⟨hs, hr⟩
          have hr : r1 = .returned (.tuple #[.string ⟨(c :: r).toArray⟩, .string ⟨q.toArray⟩, .bool true]) := by
            rcases hr with ⟨p1, q1, h1, h2⟩ | ⟨h1, _⟩
            · rw [show (⟨l.toArray⟩ : ByteArray).data.toList = l from rfl, Hhc.out] at h1
              simp only [Option.some.injEq, Prod.mk.injEq] at h1
              obtain ⟨rfl, rfl⟩ := h1
              exact h2
            · rw [show (⟨l.toArray⟩ : ByteArray).data.toList = l from rfl, Hhc.out] at h1
              cases h1
          rw [HZ.out] at hr
          subst hr
          have Hhs := Lib.hid hs
          clear hs
          go_wp2_with fail
          refine (Atoi_any Z (by have := HZZ.out; omega) _ (HE.out.step Hhs.out)).mono ?_
          rintro r1 w2 ⟨hs2, hr⟩
          rw [HZd.out] at hr
          have hs := Hhs.out.trans hs2 (fun _ f _ => f)
          have d0 := hs.cell c0 (fun f => f)
          have d1 := hs.cell c1 (fun f => f)
          have g1 : w2.frozen? ⟨b, 1, none⟩ = false := blk_free (hs.blk HB.out (fun f => f)) 1
          have g0 : w2.frozen? ⟨b, 0, none⟩ = false := blk_free (hs.blk HB.out (fun f => f)) 0
          clear Hhs hs2
          have Hhs := Lib.hid hs
          clear hs
          have hz : (9 : Int) < Z.size := by have := HZZ.out; omega
          obtain rfl : r1 = .returned (.tuple #[.int .i64 v, .nilIface]) := by
            rcases hr with ⟨v2, hv2, h⟩ | ⟨hv2, _⟩
            · rw [Hhv.out] at hv2
              injection hv2 with hv2
              rw [hv2]
              exact h
            · exact absurd Hhv.out (hv2 v)
          clear hr
          go_wp2
          go_ret
          exact t_bad HB.out hl Hhs.out
        · have hz9 : ((c :: r).length : Int) ≤ 9 := by omega
          by_cases h45 : c = 45
          · have hd : digR e (l, false) = (0, l, true) := by
              unfold digR
              simp only [hc, hv]
              simp [sign, h45]
            rw [hd]
            have e45 : ((c.toNat : Int) == 45) = true := by rw [h45]; decide
            have Hhd := Lib.hid hd
            have Hhc := Lib.hid hc
            have Hhv := Lib.hid hv
            have Hh45 := Lib.hid h45
            clear hd hc hv h45
            obtain ⟨Z, hZ, hZd, hzz, hz0, hzc⟩ : ∃ Z : ByteArray, (⟨(c :: r).toArray⟩ : ByteArray) = Z ∧ Z.data.toList = c :: r ∧ Z.size = (c :: r).length ∧ ∃ h : 0 < Z.size, Z[0]'h = c := ⟨_, rfl, rfl, t_size _, by rw [t_size]; simp, rfl⟩
            have HZ := Lib.hid hZ
            have HZd := Lib.hid hZd
            have HZZ := Lib.hid hzz
            clear hZ hZd hzz
            go_enter Tryz.func81, Tryz.ntmps81
            go_wp2_with fail
            refine (Cut_any _ e _ (by rw [t_size]; simp only [maxLen]; omega)).mono ?_
            rintro r1 w1 ⟨hs, hr⟩
            have hr : r1 = .returned (.tuple #[.string ⟨(c :: r).toArray⟩, .string ⟨q.toArray⟩, .bool true]) := by
              rcases hr with ⟨p1, q1, h1, h2⟩ | ⟨h1, _⟩
              · rw [show (⟨l.toArray⟩ : ByteArray).data.toList = l from rfl, Hhc.out] at h1
                simp only [Option.some.injEq, Prod.mk.injEq] at h1
                obtain ⟨rfl, rfl⟩ := h1
                exact h2
              · rw [show (⟨l.toArray⟩ : ByteArray).data.toList = l from rfl, Hhc.out] at h1
                cases h1
            rw [HZ.out] at hr
            subst hr
            have Hhs := Lib.hid hs
            clear hs
            go_wp2_with fail
            refine (Atoi_any Z (by have := HZZ.out; omega) _ (HE.out.step Hhs.out)).mono ?_
            rintro r1 w2 ⟨hs2, hr⟩
            rw [HZd.out] at hr
            have hs := Hhs.out.trans hs2 (fun _ f _ => f)
            have d0 := hs.cell c0 (fun f => f)
            have d1 := hs.cell c1 (fun f => f)
            have g1 : w2.frozen? ⟨b, 1, none⟩ = false := blk_free (hs.blk HB.out (fun f => f)) 1
            have g0 : w2.frozen? ⟨b, 0, none⟩ = false := blk_free (hs.blk HB.out (fun f => f)) 0
            clear Hhs hs2
            have Hhs := Lib.hid hs
            clear hs
            have hz : (Z.size : Int) ≤ 9 := by have := HZZ.out; omega
            obtain rfl : r1 = .returned (.tuple #[.int .i64 v, .nilIface]) := by
              rcases hr with ⟨v2, hv2, h⟩ | ⟨hv2, _⟩
              · rw [Hhv.out] at hv2
                injection hv2 with hv2
                rw [hv2]
                exact h
              · exact absurd Hhv.out (hv2 v)
            clear hr
            go_wp2
            go_ret
            exact t_bad HB.out hl Hhs.out
          · by_cases h43 : c = 43
            · have hd : digR e (l, false) = (0, l, true) := by
                unfold digR
                simp only [hc, hv]
                simp [sign, h43]
              rw [hd]
              have e45 : ((c.toNat : Int) == 45) = false := by rw [h43]; decide
              have e43 : ((c.toNat : Int) == 43) = true := by rw [h43]; decide
              have Hhd := Lib.hid hd
              have Hhc := Lib.hid hc
              have Hhv := Lib.hid hv
              have Hh43 := Lib.hid h43
              have Hh45 := Lib.hid h45
              clear hd hc hv h43 h45
              obtain ⟨Z, hZ, hZd, hzz, hz0, hzc⟩ : ∃ Z : ByteArray, (⟨(c :: r).toArray⟩ : ByteArray) = Z ∧ Z.data.toList = c :: r ∧ Z.size = (c :: r).length ∧ ∃ h : 0 < Z.size, Z[0]'h = c := ⟨_, rfl, rfl, t_size _, by rw [t_size]; simp, rfl⟩
              have HZ := Lib.hid hZ
              have HZd := Lib.hid hZd
              have HZZ := Lib.hid hzz
              clear hZ hZd hzz
              go_enter Tryz.func81, Tryz.ntmps81
              go_wp2_with fail
              refine (Cut_any _ e _ (by rw [t_size]; simp only [maxLen]; omega)).mono ?_
              rintro r1 w1 ⟨hs, hr⟩
              have hr : r1 = .returned (.tuple #[.string ⟨(c :: r).toArray⟩, .string ⟨q.toArray⟩, .bool true]) := by
                rcases hr with ⟨p1, q1, h1, h2⟩ | ⟨h1, _⟩
                · rw [show (⟨l.toArray⟩ : ByteArray).data.toList = l from rfl, Hhc.out] at h1
                  simp only [Option.some.injEq, Prod.mk.injEq] at h1
                  obtain ⟨rfl, rfl⟩ := h1
                  exact h2
                · rw [show (⟨l.toArray⟩ : ByteArray).data.toList = l from rfl, Hhc.out] at h1
                  cases h1
              rw [HZ.out] at hr
              subst hr
              have Hhs := Lib.hid hs
              clear hs
              go_wp2_with fail
              refine (Atoi_any Z (by have := HZZ.out; omega) _ (HE.out.step Hhs.out)).mono ?_
              rintro r1 w2 ⟨hs2, hr⟩
              rw [HZd.out] at hr
              have hs := Hhs.out.trans hs2 (fun _ f _ => f)
              have d0 := hs.cell c0 (fun f => f)
              have d1 := hs.cell c1 (fun f => f)
              have g1 : w2.frozen? ⟨b, 1, none⟩ = false := blk_free (hs.blk HB.out (fun f => f)) 1
              have g0 : w2.frozen? ⟨b, 0, none⟩ = false := blk_free (hs.blk HB.out (fun f => f)) 0
              clear Hhs hs2
              have Hhs := Lib.hid hs
              clear hs
              have hz : (Z.size : Int) ≤ 9 := by have := HZZ.out; omega
              obtain rfl : r1 = .returned (.tuple #[.int .i64 v, .nilIface]) := by
                rcases hr with ⟨v2, hv2, h⟩ | ⟨hv2, _⟩
                · rw [Hhv.out] at hv2
                  injection hv2 with hv2
                  rw [hv2]
                  exact h
                · exact absurd Hhv.out (hv2 v)
              clear hr
              go_wp2
              go_ret
              exact t_bad HB.out hl Hhs.out
            · have hd : digR e (l, false) = (v, q, false) := by
                unfold digR
                simp only [hc, hv]
                have e1 : sign (c :: r) = false := by simp [sign, h45, h43]
                rw [e1, decide_eq_false h9]
                simp
              rw [hd]
              have e45 : ((c.toNat : Int) == 45) = false := beq_eq_false_iff_ne.2 (fun h => h45 (UInt8.toNat_inj.1 (by simpa using (by omega : c.toNat = 45))))
              have e43 : ((c.toNat : Int) == 43) = false := beq_eq_false_iff_ne.2 (fun h => h43 (UInt8.toNat_inj.1 (by simpa using (by omega : c.toNat = 43))))
              have hq : q.length ≤ 140737488355328 := by omega
              have Hhd := Lib.hid hd
              have Hhc := Lib.hid hc
              have Hhv := Lib.hid hv
              have Hh45 := Lib.hid h45
              have Hh43 := Lib.hid h43
              clear hd hc hv h45 h43
              obtain ⟨Z, hZ, hZd, hzz, hz0, hzc⟩ : ∃ Z : ByteArray, (⟨(c :: r).toArray⟩ : ByteArray) = Z ∧ Z.data.toList = c :: r ∧ Z.size = (c :: r).length ∧ ∃ h : 0 < Z.size, Z[0]'h = c := ⟨_, rfl, rfl, t_size _, by rw [t_size]; simp, rfl⟩
              have HZ := Lib.hid hZ
              have HZd := Lib.hid hZd
              have HZZ := Lib.hid hzz
              clear hZ hZd hzz
              go_enter Tryz.func81, Tryz.ntmps81
              go_wp2_with fail
              refine (Cut_any _ e _ (by rw [t_size]; simp only [maxLen]; omega)).mono ?_
              rintro r1 w1 ⟨hs, hr⟩
              have hr : r1 = .returned (.tuple #[.string ⟨(c :: r).toArray⟩, .string ⟨q.toArray⟩, .bool true]) := by
                rcases hr with ⟨p1, q1, h1, h2⟩ | ⟨h1, _⟩
                · rw [show (⟨l.toArray⟩ : ByteArray).data.toList = l from rfl, Hhc.out] at h1
                  simp only [Option.some.injEq, Prod.mk.injEq] at h1
                  obtain ⟨rfl, rfl⟩ := h1
                  exact h2
                · rw [show (⟨l.toArray⟩ : ByteArray).data.toList = l from rfl, Hhc.out] at h1
                  cases h1
              rw [HZ.out] at hr
              subst hr
              have Hhs := Lib.hid hs
              clear hs
              go_wp2_with fail
              refine (Atoi_any Z (by have := HZZ.out; omega) _ (HE.out.step Hhs.out)).mono ?_
              rintro r1 w2 ⟨hs2, hr⟩
              rw [HZd.out] at hr
              have hs := Hhs.out.trans hs2 (fun _ f _ => f)
              have d0 := hs.cell c0 (fun f => f)
              have d1 := hs.cell c1 (fun f => f)
              have g1 : w2.frozen? ⟨b, 1, none⟩ = false := blk_free (hs.blk HB.out (fun f => f)) 1
              have g0 : w2.frozen? ⟨b, 0, none⟩ = false := blk_free (hs.blk HB.out (fun f => f)) 0
              clear Hhs hs2
              have Hhs := Lib.hid hs
              clear hs
              have hz : (Z.size : Int) ≤ 9 := by have := HZZ.out; omega
              obtain rfl : r1 = .returned (.tuple #[.int .i64 v, .nilIface]) := by
                rcases hr with ⟨v2, hv2, h⟩ | ⟨hv2, _⟩
                · rw [Hhv.out] at hv2
                  injection hv2 with hv2
                  rw [hv2]
                  exact h
                · exact absurd Hhv.out (hv2 v)
              clear hr
              go_wp2
              go_ret
              exact ⟨rfl, ⟨blk_set (Hhs.out.blk HB.out (fun f => f)) 0 _, hq⟩, Step.setCell (F := fun k => k = b) (Hhs.out.mono (fun _ _ f => f.elim)) (p := ⟨b, 0, none⟩) (fun _ => rfl) _⟩
      · have hd : digR e (l, false) = (0, l, true) := by
          unfold digR
          simp only [hc]
          cases ha : atoiAll p with
          | ok v => exact absurd ⟨v, ha⟩ hv
          | «syntax» => rfl
          | range => rfl
        rw [hd]
        have Hhd := Lib.hid hd
        have Hhc := Lib.hid hc
        clear hd hc
        go_enter Tryz.func81, Tryz.ntmps81
        go_wp2_with fail
        refine (Cut_any _ e _ (by rw [t_size]; simp only [maxLen]; omega)).mono ?_
        rintro r1 w1 ⟨hs, hr⟩
        have hr : r1 = .returned (.tuple #[.string ⟨p.toArray⟩, .string ⟨q.toArray⟩, .bool true]) := by
          rcases hr with ⟨p1, q1, h1, h2⟩ | ⟨h1, _⟩
          · rw [show (⟨l.toArray⟩ : ByteArray).data.toList = l from rfl, Hhc.out] at h1
            simp only [Option.some.injEq, Prod.mk.injEq] at h1
            obtain ⟨rfl, rfl⟩ := h1
            exact h2
          · rw [show (⟨l.toArray⟩ : ByteArray).data.toList = l from rfl, Hhc.out] at h1
            cases h1
        subst hr
        have Hhs := Lib.hid hs
        clear hs
        go_wp2_with fail
        refine (Atoi_any _ (by rw [t_size]; exact hp) _ (HE.out.step Hhs.out)).mono ?_
        rintro r1 w2 ⟨hs2, hr⟩
        rw [show (⟨p.toArray⟩ : ByteArray).data.toList = p from rfl] at hr
        have hs := Hhs.out.trans hs2 (fun _ f _ => f)
        have d0 := hs.cell c0 (fun f => f)
        have d1 := hs.cell c1 (fun f => f)
        have g1 : w2.frozen? ⟨b, 1, none⟩ = false := blk_free (hs.blk HB.out (fun f => f)) 1
        have g0 : w2.frozen? ⟨b, 0, none⟩ = false := blk_free (hs.blk HB.out (fun f => f)) 0
        clear Hhs hs2
        have Hhs := Lib.hid hs
        clear hs
        rcases hr with ⟨v, hv2, rfl⟩ | ⟨-, n, t, a, rfl⟩
        · exact absurd ⟨v, hv2⟩ hv
        · clear hv
          go_wp2
          go_ret
          exact t_bad HB.out hl Hhs.out
end Go.Proofs.YtkamhpbfebdhjaaGreatDoor.Taker

/- A taker of packed texts: numbers, bytes, texts. -/
namespace Go.Proofs.YtkamhpbfebdhjaaGreatDoor.Taker
open Go.RowKit Go.Lib Go.Proofs.YtkamhpbfebdhjaaGreatDoor.Mem Go.Proofs.YtkamhpbfebdhjaaGreatDoor.Dec Go.Proofs.YtkamhpbfebdhjaaGreatDoor.Take Go.Proofs.YtkamhpbfebdhjaaGreatDoor.Cut Go.Proofs.YtkamhpbfebdhjaaGreatDoor.Env
set_option linter.unusedVariables false
set_option linter.unusedSimpArgs false
theorem Num_any (w : World) (b : Nat) (st : St) (h : TRep w b st) (hE : Env w) :
    Calls Tryz.prog 57 #[.pointer (some ⟨b, 0, none⟩)] w (TPost w b (.int .i64 (digR 44 st).1) (digR 44 st).2) := by
  go_enter Tryz.func57, Tryz.ntmps57
  go_wp2_with fail
  refine (Digits_any w b 44 st h hE).mono ?_
  rintro r w' ⟨rfl, h1, h2⟩
  have Hh1 := Lib.hid h1
  have Hh2 := Lib.hid h2
  clear h1 h2
  generalize digR 44 st = d at *
  go_wp2
  go_ret
  exact ⟨rfl, Hh1.out, Hh2.out⟩
theorem byte_cut {l : List UInt8} {c : UInt8} {r : List UInt8} (h : l = c :: r) : ∃ Z : ByteArray, (⟨l.toArray⟩ : ByteArray) = Z ∧ (Z.toList == []) = false ∧ (∃ h : 0 < Z.size, Z[0]'h = c) ∧ Z.extract 1 Z.size = ⟨r.toArray⟩ := by
  subst h
  refine ⟨_, rfl, ?_, ⟨by rw [t_size]; simp, rfl⟩, ?_⟩
  · rw [ByteArray.toList_eq]; rfl
  · rw [ext_drop]; rfl
set_option maxHeartbeats 1000000 in
set_option maxRecDepth 100000 in
theorem Byte_any (w : World) (b : Nat) (st : St) (h : TRep w b st) :
    Calls Tryz.prog 56 #[.pointer (some ⟨b, 0, none⟩)] w (TPost w b (.int .u8 (byteR st).1.toNat) (byteR st).2) := by
  obtain ⟨l, x⟩ := st
  obtain ⟨hb, hl⟩ := h
  simp only at hb hl
  obtain ⟨c0, c1, f0, f1⟩ := t_cells hb
  have HB := Lib.hid hb
  clear hb
  by_cases hx : x = true
  · subst hx
    have hd : byteR (l, true) = (0, l, true) := by unfold byteR; cases l <;> simp
    rw [hd]
    clear hd
    go_enter Tryz.func56, Tryz.ntmps56
    go_wp2
    go_ret
    exact t_bad HB.out hl (Step.refl _ _)
  · obtain rfl : x = false := by simpa using hx
    clear hx
    cases hlc : l with
    | nil =>
      subst hlc
      have hd : byteR ([], false) = (0, [], true) := rfl
      rw [hd]
      clear hd
      go_enter Tryz.func56, Tryz.ntmps56
      go_wp2
      go_ret
      exact t_bad HB.out hl (Step.refl _ _)
    | cons c r =>
      have hd : byteR (c :: r, false) = (c, r, false) := rfl
      rw [hd]
      obtain ⟨Z, hZ, h0, ⟨hz0, hzc⟩, hex⟩ := byte_cut hlc
      have hr : r.length ≤ 140737488355328 := by rw [hlc] at hl; simp at hl; omega
      have hz1 : (1 : Int) ≤ Z.size := by omega
      rw [hZ] at c0
      have Hhd := Lib.hid hd
      have Hhlc := Lib.hid hlc
      have HhZ := Lib.hid hZ
      clear hd hlc hZ
      clear hl
      go_enter Tryz.func56, Tryz.ntmps56
      go_wp2
      go_ret
      exact ⟨rfl, ⟨blk_set HB.out 0 _, hr⟩, Step.setCell (F := fun k => k = b) (Step.refl _ _) (p := ⟨b, 0, none⟩) (fun _ => rfl) _⟩
theorem sign_pos {p : List UInt8} {v : Int} (h : atoiAll p = .ok v) (hs : sign p = false) : 0 ≤ v := by
  cases p with
  | nil => cases h
  | cons c r =>
    simp only [sign, Bool.or_eq_false_iff, beq_eq_false_iff_ne] at hs
    rw [atoiAll_plain c r (fun e => hs.2 (UInt8.toNat_inj.1 e)) (fun e => hs.1 (UInt8.toNat_inj.1 e))] at h
    cases hp : parseMag (c :: r) with
    | ok u =>
      rw [hp] at h
      simp only [signless] at h
      split at h
      · cases h
      · injection h with h
        omega
    | «syntax» => rw [hp] at h; cases h
    | range => rw [hp] at h; cases h
theorem dig_pos (e : UInt8) (st : St) (h : (digR e st).2.2 = false) : 0 ≤ (digR e st).1 := by
  unfold digR at h ⊢
  cases hc : cutAt e st.1 with
  | none => exact Int.le_refl _
  | some pq =>
    obtain ⟨p, q⟩ := pq
    rw [hc] at h
    simp only at h ⊢
    cases ha : atoiAll p with
    | ok v =>
      rw [ha] at h
      simp only at h ⊢
      split
      · exact Int.le_refl _
      · rename_i hn
        simp only [Bool.or_eq_true, not_or, Bool.not_eq_true] at hn
        exact sign_pos ha hn.2
    | «syntax» => exact Int.le_refl _
    | range => exact Int.le_refl _
theorem dig_le (e : UInt8) (st : St) (h : st.1.length ≤ 140737488355328) : (digR e st).2.1.length ≤ 140737488355328 := by
  unfold digR
  cases hc : cutAt e st.1 with
  | none => exact h
  | some pq =>
    obtain ⟨p, q⟩ := pq
    have := cut_len hc
    simp only
    cases atoiAll p with
    | ok v =>
      simp only
      split
      · exact h
      · simp only; omega
    | «syntax» => exact h
    | range => exact h
set_option maxHeartbeats 1000000 in
set_option maxRecDepth 100000 in
theorem Str_any (w : World) (b : Nat) (st : St) (h : TRep w b st) (hE : Env w) :
    Calls Tryz.prog 62 #[.pointer (some ⟨b, 0, none⟩)] w (TPost w b (.string ⟨(Take.strR st).1.toArray⟩) (Take.strR st).2) := by
  have hd : Take.strR st = (if (digR 58 st).2.2 || decide (((digR 58 st).2.1.length : Int) < (digR 58 st).1) then ([], (digR 58 st).2.1, true) else ((digR 58 st).2.1.take (digR 58 st).1.toNat, (digR 58 st).2.1.drop (digR 58 st).1.toNat, false)) := rfl
  rw [hd]
  clear hd
  have HH := Lib.hid h
  have HE := Lib.hid hE
  clear h hE
  have HD : Hid ((digR 58 st).2.2 = false → 0 ≤ (digR 58 st).1) := Lib.hid (dig_pos 58 st)
  generalize hg : digR 58 st = d at *
  obtain ⟨v, l, x⟩ := d
  simp only at *
  have Hhg := Lib.hid hg
  clear hg
  by_cases hx : x = true
  · subst hx
    simp only [Bool.true_or, if_true]
    go_enter Tryz.func62, Tryz.ntmps62
    go_wp2_with fail
    refine (Digits_any w b 58 st HH.out HE.out).mono ?_
    rintro r w' h1
    rw [Hhg.out] at h1
    obtain ⟨rfl, ⟨hb, hl⟩, hs⟩ := h1
    obtain ⟨c0, c1, f0, f1⟩ := t_cells hb
    have Hhb := Lib.hid hb
    have Hhs := Lib.hid hs
    clear hb hs
    go_wp2
    go_ret
    obtain ⟨-, h2, h3⟩ := t_bad (v := .string ⟨#[]⟩) Hhb.out hl (Step.refl No _)
    exact ⟨rfl, h2, Hhs.out.trans h3 (fun _ f _ => f)⟩
  · obtain rfl : x = false := by simpa using hx
    obtain ⟨k, rfl⟩ := Int.eq_ofNat_of_zero_le (HD.out rfl)
    clear hx HD
    by_cases hk : l.length < k
    · rw [if_pos (by rw [Bool.false_or]; exact decide_eq_true (by omega))]
      go_enter Tryz.func62, Tryz.ntmps62
      go_wp2_with fail
      refine (Digits_any w b 58 st HH.out HE.out).mono ?_
      rintro r w' h1
      rw [Hhg.out] at h1
      obtain ⟨rfl, ⟨hb, hl⟩, hs⟩ := h1
      obtain ⟨c0, c1, f0, f1⟩ := t_cells hb
      obtain ⟨Z, hZ, hZs⟩ : ∃ Z : ByteArray, (⟨l.toArray⟩ : ByteArray) = Z ∧ Z.size = l.length := ⟨_, rfl, t_size l⟩
      rw [hZ] at c0
      have hz : (Z.size : Int) < k := by omega
      have Hhb := Lib.hid hb
      have Hhs := Lib.hid hs
      have HhZ := Lib.hid hZ
      have HhZs := Lib.hid hZs
      clear hb hs hZ hZs
      go_wp2
      go_ret
      obtain ⟨-, h2, h3⟩ := t_bad (v := .string ⟨#[]⟩) Hhb.out hl (Step.refl No _)
      exact ⟨rfl, h2, Hhs.out.trans h3 (fun _ f _ => f)⟩
    · rw [if_neg (by rw [Bool.false_or, decide_eq_true_eq]; omega), Int.toNat_natCast]
      go_enter Tryz.func62, Tryz.ntmps62
      go_wp2_with fail
      refine (Digits_any w b 58 st HH.out HE.out).mono ?_
      rintro r w' h1
      rw [Hhg.out] at h1
      obtain ⟨rfl, ⟨hb, hl⟩, hs⟩ := h1
      obtain ⟨c0, c1, f0, f1⟩ := t_cells hb
      obtain ⟨Z, hZ, hZs, hZ1, hZ2⟩ : ∃ Z : ByteArray, (⟨l.toArray⟩ : ByteArray) = Z ∧ Z.size = l.length ∧ Z.extract 0 k = ⟨(l.take k).toArray⟩ ∧ Z.extract k Z.size = ⟨(l.drop k).toArray⟩ := ⟨_, rfl, t_size l, by rw [ext_take], by rw [ext_drop]⟩
      rw [hZ] at c0
      have hz : (k : Int) ≤ Z.size := by omega
      have hz2 : k ≤ Z.size := by omega
      have hz0 : (0 : Int) ≤ k := by omega
      have hl : l.length ≤ 140737488355328 := hl
      have hd : (l.drop k).length ≤ 140737488355328 := by rw [List.length_drop]; omega
      have Hhb := Lib.hid hb
      have Hhs := Lib.hid hs
      have HhZ := Lib.hid hZ
      have HhZs := Lib.hid hZs
      have Hhd := Lib.hid hd
      clear hb hs hZ hZs hd
      clear hk hl
      go_wp2
      go_ret
      exact ⟨rfl, ⟨blk_set Hhb.out 0 _, Hhd.out⟩, Step.setCell (F := fun k => k = b) Hhs.out (p := ⟨b, 0, none⟩) (fun _ => rfl) _⟩
end Go.Proofs.YtkamhpbfebdhjaaGreatDoor.Taker

/- Rows that are taken from a text, element by element. -/
namespace Go.Proofs.YtkamhpbfebdhjaaGreatDoor.Each
open Go.RowKit Go.Lib Go.Proofs.YtkamhpbfebdhjaaGreatDoor.Mem Go.Proofs.YtkamhpbfebdhjaaGreatDoor.Read Go.Proofs.YtkamhpbfebdhjaaGreatDoor.Tree Go.Proofs.YtkamhpbfebdhjaaGreatDoor.Data Go.Proofs.YtkamhpbfebdhjaaGreatDoor.Env Go.Proofs.YtkamhpbfebdhjaaGreatDoor.Take Go.Proofs.YtkamhpbfebdhjaaGreatDoor.Taker Go.Proofs.YtkamhpbfebdhjaaGreatDoor.Pk Go.Proofs.YtkamhpbfebdhjaaGreatDoor.PkR Go.Proofs.YtkamhpbfebdhjaaGreatDoor.OwnR
open Go.Proofs.YtkamhpbfebdhjaaGreatDoor.Writer (EnvS)
set_option linter.unusedVariables false
set_option linter.unusedSimpArgs false
abbrev TI : TypeId := 3
theorem infoI : (Tryz.prog.info? TI).map (fun i => (i.zero, i.size, i.bytes)) = some (some (.int .i64 0), 1, 8) := by kernel_rfl
abbrev At (b k : Nat) : Prop := k = b
/-- A taker that has been used since w. -/
def TK (w : World) (b : Nat) (st : St) (wr : World) : Prop := TRep wr b st ∧ Step (fun k => k = b) w wr
theorem TK.start {w : World} {b : Nat} {st : St} (h : TRep w b st) : TK w b st w := ⟨h, Step.refl _ _⟩
theorem TK.no {w wr w' : World} {b : Nat} {st : St} (h : TK w b st wr) (hs : Step No wr w') : TK w b st w' := ⟨h.1.step hs (fun f => f), h.2.trans hs (fun _ f _ => f.elim)⟩
theorem TK.next {w wr w' : World} {b : Nat} {st st' : St} {v : Value} {e : Ending} (h : TK w b st wr) (hp : TPost wr b v st' e w') : e = .returned v ∧ TK w b st' w' := ⟨hp.1, hp.2.1, h.2.trans hp.2.2 (fun _ f _ => f)⟩
theorem TK.blk {w wr : World} {b : Nat} {st : St} (h : TK w b st wr) : wr.heap[b]? = some (.cells #[.string ⟨st.1.toArray⟩, .bool st.2] TT (0, 0)) := h.1.1
def encI (k : Int) : List Value := [.int .i64 k]
abbrev IntsR (base : Nat) : World → List Int → Value → Prop := RowO TI 1 base encI (fun _ _ => True)
def TsI (t : TypeId) : Prop := t ≠ TI ∧ True
theorem ints_stable (base : Nat) : Stable TsI base (fun (w : World) (p : List Int × Value) => IntsR base w p.1 p.2) := RowO.stable (stable_true (fun _ => True) base)
/-- After i rounds. -/
def ER {β α : Type} (w : World) (b : Nat) (one : St → α × St) (f : β → α) (row : World → List β → Value → Prop) (n : Nat) (st0 : St) (i : Nat) (v : Value) (wr : World) : Prop :=
  ∃ (st : St) (xs : List β), i ≤ n ∧ xs.length = i ∧ eachN one n st0 = (xs.map f ++ (eachN one (n - i) st).1, (eachN one (n - i) st).2) ∧ row wr xs v ∧ TK w b st wr
def EachPost {β α : Type} (w : World) (b : Nat) (one : St → α × St) (f : β → α) (row : World → List β → Value → Prop) (st0 : St) (e : Ending) (w' : World) : Prop :=
  ∃ v xs, e = .returned v ∧ xs.map f = (eachR one st0).1 ∧ row w' xs v ∧ TK w b (eachR one st0).2 w'
theorem each_end {β α : Type} {w wr : World} {b : Nat} {one : St → α × St} {f : β → α} {row : World → List β → Value → Prop} {n k : Nat} {st0 dst st : St} {xs : List β} {v : Value} (hN : eachR one st0 = eachN one n dst)
    (hev : eachN one n dst = (xs.map f ++ (eachN one (n - k) st).1, (eachN one (n - k) st).2)) (hrow : row wr xs v) (ht : TK w b st wr) (he : st.2 = true ∨ n - k = 0) : EachPost w b one f row st0 (.returned v) wr := by
  have e : eachN one (n - k) st = ([], st) := by
    rcases he with he | he
    · exact eachN_bad he
    · rw [he]; rfl
  rw [e] at hev
  refine ⟨v, xs, rfl, ?_, hrow, ?_⟩
  · rw [hN, hev]; simp
  · rw [hN, hev]; exact ht
theorem each_next {β α : Type} {w wr : World} {b : Nat} {one : St → α × St} {f : β → α} {row : World → List β → Value → Prop} {n k : Nat} {dst st : St} {xs : List β} {x : β} {v : Value} (hk : k < n) (hxl : xs.length = k) (hb : st.2 = false)
    (hev : eachN one n dst = (xs.map f ++ (eachN one (n - k) st).1, (eachN one (n - k) st).2)) (hx : f x = (one st).1) (hrow : row wr (xs ++ [x]) v) (ht : TK w b (one st).2 wr) : ER w b one f row n dst (k + 1) v wr := by
  refine ⟨(one st).2, xs ++ [x], hk, by simp [hxl], ?_, hrow, ht⟩
  rw [hev, show n - k = (n - (k + 1)) + 1 by omega, eachN_go hb]
  simp [hx]
theorem TK.grown {w w2 w5 : World} {b : Nat} {st : St} {T : TypeId} {sz n b0 : Nat} {v : Value} {xs : List Value} {o : Obj} (h : TK w b st w2) (hr : w2.ownsRow b0 T sz v n xs) (hT : T ≠ TT) (hb : ∀ k, v.ownBlock = some k → w.heap.size ≤ k) (hg : (w2.alloc o).grownBy w5 v.ownBlock) : TK w b st w5 := by
  have hne := row_ne hr h.blk hT
  refine ⟨⟨(hg.block b (by have := blk_lt h.blk; simp; omega) (fun e => hne e.symm)).trans (blk_alloc h.blk o), h.1.2⟩, (h.2.alloc o).grown hg (fun k hk hlt => absurd (hb k hk) (by omega))⟩
theorem taker_types {w wr : World} {b base : Nat} {st : St} {Ts : TypeId → Prop} (h : TK w b st wr) (hT : Ts TT) : Types Ts base wr (fun k => k = b) := Types.at h.blk hT

set_option maxHeartbeats 8000000 in
theorem eachInt_any (w : World) (b : Nat) (st0 : St) (h : TRep w b st0) (hE : EnvS (fun k => k = b) w) :
    Calls Tryz.prog 87 #[.pointer (some ⟨b, 0, none⟩), .func (.func 57) #[.pointer (some ⟨b, 0, none⟩)] #[]] w (EachPost w b numR id (IntsR w.heap.size) st0) := by
  have HT := Lib.hid (TK.start h)
  have HE := Lib.hid hE
  clear hE h
  go_enter Tryz.func87, Tryz.ntmps87
  go_wp2_with fail
  refine (Num_any _ b st0 HT.out.1 (HE.out _ HT.out.2)).mono ?_
  rintro e w1 hp
  obtain ⟨rfl, ht⟩ := HT.out.next hp
  have hsm := dig_small 44 st0
  obtain ⟨d, hd⟩ : ∃ d, digR 44 st0 = d := ⟨_, rfl⟩
  have HD := Lib.hid hd
  rw [hd] at ht hsm ⊢
  obtain ⟨dn, dst⟩ := d
  simp only at ht hsm ⊢
  obtain ⟨n, hn⟩ : ∃ n : Nat, dn = n := ⟨dn.toNat, by have := hsm.1; omega⟩
  subst hn
  have hn9 : n < 1000000000 := by have := hsm.2; omega
  have HN : Hid (eachR numR st0 = eachN numR n dst) := Lib.hid (by unfold eachR; rw [HD.out]; rfl)
  have H1 : Hid (ER w b numR id (IntsR w.heap.size) n dst 0 (.slice none 0 0) w1) := Lib.hid ⟨dst, [], Nat.zero_le _, rfl, by simp, RowO.nil _, ht⟩
  clear hp hd ht hsm
  go_wp2
  go_loopw [5, 7] (fun v i wr => ∃ k : Nat, i = .int .i64 k ∧ ER w b numR id (IntsR w.heap.size) n dst k v wr) (fun _ i _ => n - (RowKit.intOf i).toNat)
  case atStart => exact ⟨0, rfl, H1.out⟩
  case round =>
    obtain ⟨k, rfl, st, xs, hk, hxl, hev, hrow, ht⟩ := hrel
    have t1 : wr.cell? ⟨b, 1, none⟩ = some (.bool st.2) := blk_cell ht.blk 1
    obtain ⟨A, c, rfl, -, -⟩ := row_slice hrow.1
    by_cases hlt : k < n
    · have hk1 : (k : Int) < n := by omega
      cases hb : st.2 with
      | true =>
        rw [hb] at t1
        have HB := Lib.hid hb
        have Hhev := Lib.hid hev
        have Hhrow := Lib.hid hrow
        have Hht := Lib.hid ht
        have Hhxl := Lib.hid hxl
        have Hhb := Lib.hid hb
        clear hev hrow ht hxl hb
        go_wp2
        go_ret
        exact each_end HN.out Hhev.out Hhrow.out Hht.out (.inl HB.out)
      | false =>
        rw [hb] at t1
        have HB := Lib.hid hb
        have hxn : xs.length < 1000000000 := by omega
        have Hbase : Hid (w.heap.size ≤ wr.heap.size) := Lib.hid ht.2.size
        have Hhev := Lib.hid hev
        have Hhrow := Lib.hid hrow
        have Hht := Lib.hid ht
        have Hhxl := Lib.hid hxl
        have Hhb := Lib.hid hb
        clear hev hrow ht hxl hb
        go_wp2_with fail
        refine (Num_any _ b st Hht.out.1 (HE.out _ Hht.out.2)).mono ?_
        rintro e w2 hp
        obtain ⟨rfl, ht2⟩ := Hht.out.next hp; have hp2 := hp.2.2; have hx2 := trivial; clear hp
        have HR2 := Lib.hid (RowO.step (stable_true (fun _ => True) _) Hhrow.out hp2 (taker_types Hht.out (by decide)))
        have HB2 : Hid (w.heap.size ≤ w2.heap.size) := Lib.hid ht2.2.size
        have Hht2 := Lib.hid ht2
        have Hhx2 := Lib.hid hx2
        clear ht2 hx2
        clear hp2 t1
        go_wp2_with (at_builtin; go_loud (refine list_append_own _ rfl (.tmp 22) (.tmp 25) 34 TI _ 1 8 rfl Tryz.underlying34 infoI rfl (by decide) (.slice A xs.length c) xs.length (xs.flatMap encI) rfl (by exact HR2.out.1.alloc _) ⟨w2.heap.size, 0, none⟩ 1 1 [.int .i64 (digR 44 st).1] rfl rfl (by exact cells_new w2 #[.int .i64 (digR 44 st).1] TI) (by simp [Value.oneCell']) (by unfold maxLen; omega) (by omega) ?_; intro v5 w5 hown hg hat; have HT5 := Lib.hid (Hht2.out.grown HR2.out.1 (by decide) HR2.out.2.1 hg); have HR5 := Lib.hid (RowO.next (stable_true (fun _ => True) _) trivial (HR2.out.no (stable_true (fun _ => True) _) (Step.alloc (Step.refl No w2) _)) (Nat.le_trans HB2.out (by simp)) (x := (numR st).1) trivial hown hg hat); obtain ⟨A5, c5, rfl, -, -⟩ := row_slice hown; clear hown hg hat))
        go_roundw
        case rel => exact ⟨k + 1, rfl, each_next hlt Hhxl.out HB.out Hhev.out rfl HR5.out HT5.out⟩
        case measure => simp [RowKit.intOf]; omega
    · have he : n - k = 0 := by omega
      have HZ := Lib.hid he
      obtain rfl : k = n := by omega
      have Hhev := Lib.hid hev
      have Hhrow := Lib.hid hrow
      have Hht := Lib.hid ht
      have Hhxl := Lib.hid hxl
      clear hev hrow ht hxl
      clear he
      go_wp2
      go_ret
      exact each_end HN.out Hhev.out Hhrow.out Hht.out (.inr HZ.out)
end Go.Proofs.YtkamhpbfebdhjaaGreatDoor.Each

/- Pieces of edits, taken from a text. -/
namespace Go.Proofs.YtkamhpbfebdhjaaGreatDoor.Each
open Go.RowKit Go.Lib Go.Proofs.YtkamhpbfebdhjaaGreatDoor.Mem Go.Proofs.YtkamhpbfebdhjaaGreatDoor.Read Go.Proofs.YtkamhpbfebdhjaaGreatDoor.Tree Go.Proofs.YtkamhpbfebdhjaaGreatDoor.Data Go.Proofs.YtkamhpbfebdhjaaGreatDoor.Env Go.Proofs.YtkamhpbfebdhjaaGreatDoor.Take Go.Proofs.YtkamhpbfebdhjaaGreatDoor.Taker Go.Proofs.YtkamhpbfebdhjaaGreatDoor.Pk Go.Proofs.YtkamhpbfebdhjaaGreatDoor.PkR Go.Proofs.YtkamhpbfebdhjaaGreatDoor.OwnR Go.Proofs.YtkamhpbfebdhjaaGreatDoor.CompR
open Go.Proofs.YtkamhpbfebdhjaaGreatDoor.Writer (EnvS)
set_option linter.unusedVariables false
set_option linter.unusedSimpArgs false
theorem mkPut (s : ByteArray) (w : World) : Calls Tryz.prog 82 #[.string s] w fun e w' => e = .returned (.agg #[.int .i64 1, .int .i64 0, .string s]) ∧ Step No w w' := by
  go_enter Tryz.func82, Tryz.ntmps82
  go_wp2
  exact bodyPost_ret (by simp [results, Tryz.results82, go_sem]) rfl ⟨rfl, (by repeat' (first | exact Step.refl _ _ | with_reducible assumption | refine Step.drew ?_ | refine Step.drewN ?_ _ | refine Step.alloc ?_ _))⟩
theorem mkCut (n : Int) (w : World) : Calls Tryz.prog 83 #[.int .i64 n] w fun e w' => e = .returned (.agg #[.int .i64 2, .int .i64 n, .string ⟨#[]⟩]) ∧ Step No w w' := by
  go_enter Tryz.func83, Tryz.ntmps83
  go_wp2
  exact bodyPost_ret (by simp [results, Tryz.results83, go_sem]) rfl ⟨rfl, (by repeat' (first | exact Step.refl _ _ | with_reducible assumption | refine Step.drew ?_ | refine Step.drewN ?_ _ | refine Step.alloc ?_ _))⟩
theorem mkKeep (n : Int) (w : World) : Calls Tryz.prog 84 #[.int .i64 n] w fun e w' => e = .returned (.agg #[.int .i64 0, .int .i64 n, .string ⟨#[]⟩]) ∧ Step No w w' := by
  go_enter Tryz.func84, Tryz.ntmps84
  go_wp2
  exact bodyPost_ret (by simp [results, Tryz.results84, go_sem]) rfl ⟨rfl, (by repeat' (first | exact Step.refl _ _ | with_reducible assumption | refine Step.drew ?_ | refine Step.drewN ?_ _ | refine Step.alloc ?_ _))⟩
theorem comp_p {st : St} (h : (byteR st).1 = 112) : takeC st = (⟨1, 0, ⟨(Take.strR (byteR st).2).1.toArray⟩⟩, (Take.strR (byteR st).2).2) := by unfold takeC; simp only; rw [if_pos h]; rfl
theorem comp_c {st : St} (h : (byteR st).1 = 99) : takeC st = (⟨2, (digR 44 (byteR st).2).1, ⟨#[]⟩⟩, (digR 44 (byteR st).2).2) := by unfold takeC; simp only; rw [if_neg (by rw [h]; decide), if_pos h]; rfl
theorem comp_k {st : St} (h : (byteR st).1 = 107) : takeC st = (⟨0, (digR 44 (byteR st).2).1, ⟨#[]⟩⟩, (digR 44 (byteR st).2).2) := by unfold takeC; simp only; rw [if_neg (by rw [h]; decide), if_neg (by rw [h]; decide), if_pos h]; rfl
theorem comp_x {st : St} (h1 : (byteR st).1 ≠ 112) (h2 : (byteR st).1 ≠ 99) (h3 : (byteR st).1 ≠ 107) : takeC st = (⟨0, 0, ⟨#[]⟩⟩, ((byteR st).2.1, true)) := by unfold takeC; simp only; rw [if_neg h1, if_neg h2, if_neg h3]; rfl
theorem byte_eq {x : UInt8} {c : Nat} (hc : c < 256) (h : x = UInt8.ofNat c) : ((x.toNat : Int) == (c : Int)) = true := by
  subst h
  rw [UInt8.toNat_ofNat', beq_iff_eq]
  omega
theorem byte_ne {x : UInt8} {c : Nat} (hc : c < 256) (h : x ≠ UInt8.ofNat c) : ((x.toNat : Int) == (c : Int)) = false := by
  rw [beq_eq_false_iff_ne]
  intro e
  refine h (UInt8.toNat_inj.1 ?_)
  rw [UInt8.toNat_ofNat']
  omega
def comp0 : Array Value := #[.int .i64 0, .int .i64 0, .string ⟨#[]⟩]
/-- The result's place. -/
theorem res_at {w1 wx : World} {b r : Nat} {cs cs' : Array Value} {t : TypeId} (hr : w1.heap[r]? = some (.cells cs t (0, 0))) (hb : w1.heap[b]? = some (.cells cs' TT (0, 0))) (ht : t ≠ TT) (hs : Step (fun k => k = b) w1 wx) : wx.heap[r]? = some (.cells cs t (0, 0)) :=
  hs.blk hr (blk_ne hr hb ht)
theorem tk_store {w wr : World} {b r : Nat} {st : St} {cs : Array Value} {t : TypeId} (h : TK w b st wr) (hr : wr.heap[r]? = some (.cells cs t (0, 0))) (ht : t ≠ TT) (hle : w.heap.size ≤ r) (i : Nat) (v : Value) : TK w b st (wr.setCell ⟨r, i, none⟩ v) :=
  ⟨h.1.step (F := fun k => k = r) (by refine set_at (Step.refl _ _) ?_ _ <;> rfl) (blk_ne h.blk hr (fun e => ht e.symm)), h.2.setCell (p := ⟨r, i, none⟩) (fun e => absurd e (by simp only; omega)) _⟩
theorem comp_store {w wr : World} {b r : Nat} {st : St} (h : TK w b st wr) (hr : wr.heap[r]? = some (.cells comp0 TC (0, 0))) (hle : w.heap.size ≤ r) (x y z : Value) :
    (((wr.setCell ⟨r, 0, none⟩ x).setCell ⟨r, 1, none⟩ y).setCell ⟨r, 2, none⟩ z).heap[r]? = some (.cells #[x, y, z] TC (0, 0)) ∧ TK w b st (((wr.setCell ⟨r, 0, none⟩ x).setCell ⟨r, 1, none⟩ y).setCell ⟨r, 2, none⟩ z) :=
  ⟨by simpa [comp0] using blk_set (blk_set (blk_set hr 0 x) 1 y) 2 z, tk_store (tk_store (tk_store h hr (by decide) hle 0 x) (blk_set hr 0 x) (by decide) hle 1 y) (blk_set (blk_set hr 0 x) 1 y) (by decide) hle 2 z⟩
/-- A piece, as it is handed back. -/
def CompPost (w : World) (b : Nat) (st : St) (e : Ending) (w' : World) : Prop := e = .returned (.agg #[.int .i64 (takeC st).1.kind, .int .i64 (takeC st).1.n, .string (takeC st).1.text]) ∧ TK w b (takeC st).2 w'
theorem comp_post {w w' : World} {b : Nat} {st st' : St} {k n : Int} {t : ByteArray} (h : takeC st = (⟨k, n, t⟩, st')) (ht : TK w b st' w') : CompPost w b st (.returned (.agg #[.int .i64 k, .int .i64 n, .string t])) w' := by
  unfold CompPost; rw [h]; exact ⟨rfl, ht⟩
set_option maxHeartbeats 4000000 in
theorem comp_any (w : World) (b : Nat) (st : St) (h : TRep w b st) (hE : EnvS (fun k => k = b) w) : Calls Tryz.prog 59 #[.pointer (some ⟨b, 0, none⟩)] w (CompPost w b st) := by
  have hs1 : Step No w (w.alloc (.cells comp0 TC)) := Step.alloc (Step.refl _ _) _
  have HT := Lib.hid ((TK.start h).no hs1)
  have HR1 : Hid ((w.alloc (.cells comp0 TC)).heap[w.heap.size]? = some (.cells comp0 TC (0, 0))) := Lib.hid (blk_new _ _)
  have HE := Lib.hid hE
  clear hE h
  rw [show (w.alloc (.cells comp0 TC)) = w.alloc (.cells #[.int .i64 0, .int .i64 0, .string ⟨#[]⟩] TC) from rfl] at HT HR1 hs1
  go_enter Tryz.func59, Tryz.ntmps59
  go_wp2_with fail
  generalize hW : World.alloc w _ = w1 at *
  clear hW
  refine (Byte_any _ b st HT.out.1).mono ?_
  rintro e w2 hp
  obtain ⟨rfl, ht2⟩ := HT.out.next hp
  have HR2 := Lib.hid (res_at HR1.out HT.out.blk (by decide) hp.2.2)
  have Hht2 := Lib.hid ht2
  clear ht2
  clear hp
  by_cases k1 : (byteR st).1 = 112
  · have b1 : (((byteR st).1.toNat : Int) == 112) = true := byte_eq (c := 112) (by decide) k1
    have HC := Lib.hid (comp_p k1)
    clear k1
    generalize byteR st = bs at *
    obtain ⟨x, st2⟩ := bs
    simp only at b1 HC Hht2
    go_wp2_with fail
    refine (Str_any _ b st2 Hht2.out.1 (HE.out _ Hht2.out.2)).mono ?_
    rintro e w3 hp
    obtain ⟨rfl, ht3⟩ := Hht2.out.next hp
    have HR3 := Lib.hid (res_at HR2.out Hht2.out.blk (by decide) hp.2.2)
    have Hht3 := Lib.hid ht3
    clear ht3
    clear hp
    go_wp2_with fail
    refine (mkPut _ _).mono ?_
    rintro e w4 ⟨rfl, hs4⟩
    have HR4 := hs4.blk HR3.out (fun f => f)
    have HT4 := Lib.hid (Hht3.out.no hs4)
    have c0 := blk_cell HR4 0
    have c1 := blk_cell HR4 1
    have c2 := blk_cell HR4 2
    have f0 := blk_free HR4 0
    have f1 := blk_free HR4 1
    have f2 := blk_free HR4 2
    simp [comp0] at c0 c1 c2
    have HO := Lib.hid (comp_store HT4.out HR4 (Nat.le_refl _) (.int .i64 1) (.int .i64 0) (.string ⟨(Take.strR st2).1.toArray⟩))
    clear HR4 hs4
    go_wp2
    generalize hW : World.setCell (World.setCell (World.setCell _ _ _) _ _) _ _ = W at *
    clear hW
    have r0 := blk_cell HO.out.1 0
    have r1 := blk_cell HO.out.1 1
    have r2 := blk_cell HO.out.1 2
    simp at r0 r1 r2
    exact bodyPost_ret (by simp [results, Tryz.results59, go_sem, r0, r1, r2]) rfl (comp_post HC.out HO.out.2)
  · have b1 : (((byteR st).1.toNat : Int) == 112) = false := byte_ne (c := 112) (by decide) k1
    by_cases k2 : (byteR st).1 = 99
    · have b2 : (((byteR st).1.toNat : Int) == 99) = true := byte_eq (c := 99) (by decide) k2
      have HC := Lib.hid (comp_c k2)
      clear k1 k2
      generalize byteR st = bs at *
      obtain ⟨x, st2⟩ := bs
      simp only at b1 b2 HC Hht2
      go_wp2_with fail
      refine (Num_any _ b st2 Hht2.out.1 (HE.out _ Hht2.out.2)).mono ?_
      rintro e w3 hp
      obtain ⟨rfl, ht3⟩ := Hht2.out.next hp
      have HR3 := Lib.hid (res_at HR2.out Hht2.out.blk (by decide) hp.2.2)
      have Hht3 := Lib.hid ht3
      clear ht3
      clear hp
      go_wp2_with fail
      refine (mkCut _ _).mono ?_
      rintro e w4 ⟨rfl, hs4⟩
      have HR4 := hs4.blk HR3.out (fun f => f)
      have HT4 := Lib.hid (Hht3.out.no hs4)
      have c0 := blk_cell HR4 0
      have c1 := blk_cell HR4 1
      have c2 := blk_cell HR4 2
      have f0 := blk_free HR4 0
      have f1 := blk_free HR4 1
      have f2 := blk_free HR4 2
      simp [comp0] at c0 c1 c2
      have HO := Lib.hid (comp_store HT4.out HR4 (Nat.le_refl _) (.int .i64 2) (.int .i64 (digR 44 st2).1) (.string ⟨#[]⟩))
      clear HR4 hs4
      go_wp2
      generalize hW : World.setCell (World.setCell (World.setCell _ _ _) _ _) _ _ = W at *
      clear hW
      have r0 := blk_cell HO.out.1 0
      have r1 := blk_cell HO.out.1 1
      have r2 := blk_cell HO.out.1 2
      simp at r0 r1 r2
      exact bodyPost_ret (by simp [results, Tryz.results59, go_sem, r0, r1, r2]) rfl (comp_post HC.out HO.out.2)
    · have b2 : (((byteR st).1.toNat : Int) == 99) = false := byte_ne (c := 99) (by decide) k2
      by_cases k3 : (byteR st).1 = 107
      · have b3 : (((byteR st).1.toNat : Int) == 107) = true := byte_eq (c := 107) (by decide) k3
        have HC := Lib.hid (comp_k k3)
        clear k1 k2 k3
        generalize byteR st = bs at *
        obtain ⟨x, st2⟩ := bs
        simp only at b1 b2 b3 HC Hht2
        go_wp2_with fail
        refine (Num_any _ b st2 Hht2.out.1 (HE.out _ Hht2.out.2)).mono ?_
        rintro e w3 hp
        obtain ⟨rfl, ht3⟩ := Hht2.out.next hp
        have HR3 := Lib.hid (res_at HR2.out Hht2.out.blk (by decide) hp.2.2)
        have Hht3 := Lib.hid ht3
        clear ht3
        clear hp
        go_wp2_with fail
        refine (mkKeep _ _).mono ?_
        rintro e w4 ⟨rfl, hs4⟩
        have HR4 := hs4.blk HR3.out (fun f => f)
        have HT4 := Lib.hid (Hht3.out.no hs4)
        have c0 := blk_cell HR4 0
        have c1 := blk_cell HR4 1
        have c2 := blk_cell HR4 2
        have f0 := blk_free HR4 0
        have f1 := blk_free HR4 1
        have f2 := blk_free HR4 2
        simp [comp0] at c0 c1 c2
        have HO := Lib.hid (comp_store HT4.out HR4 (Nat.le_refl _) (.int .i64 0) (.int .i64 (digR 44 st2).1) (.string ⟨#[]⟩))
        clear HR4 hs4
        go_wp2
        generalize hW : World.setCell (World.setCell (World.setCell _ _ _) _ _) _ _ = W at *
        clear hW
        have r0 := blk_cell HO.out.1 0
        have r1 := blk_cell HO.out.1 1
        have r2 := blk_cell HO.out.1 2
        simp at r0 r1 r2
        exact bodyPost_ret (by simp [results, Tryz.results59, go_sem, r0, r1, r2]) rfl (comp_post HC.out HO.out.2)
      · have b3 : (((byteR st).1.toNat : Int) == 107) = false := byte_ne (c := 107) (by decide) k3
        have HC := Lib.hid (comp_x k1 k2 k3)
        clear k1 k2 k3
        generalize byteR st = bs at *
        obtain ⟨x, l, bad⟩ := bs
        simp only at b1 b2 b3 HC Hht2
        have d1 : w2.cell? ⟨b, 1, none⟩ = some (.bool bad) := blk_cell Hht2.out.blk 1
        have g1 := blk_free Hht2.out.blk 1
        have hbr := blk_ne HR2.out Hht2.out.blk (by decide)
        have hb3 : Step (fun k => k = b) w2 (w2.setCell ⟨b, 1, none⟩ (.bool true)) := by refine set_at (Step.refl _ _) ?_ _ <;> rfl
        have HT3 : Hid (TK w b (l, true) (w2.setCell ⟨b, 1, none⟩ (.bool true))) := Lib.hid ⟨⟨blk_set Hht2.out.blk 1 _, Hht2.out.1.2⟩, Hht2.out.2.trans hb3 (fun _ f _ => f)⟩
        have HR3 := res_at HR2.out Hht2.out.blk (by decide) hb3
        have c0 := blk_cell HR3 0
        have c1 := blk_cell HR3 1
        have c2 := blk_cell HR3 2
        have f0 := blk_free HR3 0
        have f1 := blk_free HR3 1
        have f2 := blk_free HR3 2
        simp [comp0] at c0 c1 c2
        have HO := Lib.hid (comp_store HT3.out HR3 (Nat.le_refl _) (.int .i64 0) (.int .i64 0) (.string ⟨#[]⟩))
        clear HR3 hb3 hbr
        go_wp2
        generalize hW : World.setCell (World.setCell (World.setCell _ _ _) _ _) _ _ = W at *
        clear hW
        have r0 := blk_cell HO.out.1 0
        have r1 := blk_cell HO.out.1 1
        have r2 := blk_cell HO.out.1 2
        simp at r0 r1 r2
        exact bodyPost_ret (by simp [results, Tryz.results59, go_sem, r0, r1, r2]) rfl (comp_post HC.out HO.out.2)
end Go.Proofs.YtkamhpbfebdhjaaGreatDoor.Each

/- Edits, taken from a text. -/
namespace Go.Proofs.YtkamhpbfebdhjaaGreatDoor.Each
open Go.RowKit Go.Lib Go.Proofs.YtkamhpbfebdhjaaGreatDoor.Mem Go.Proofs.YtkamhpbfebdhjaaGreatDoor.Read Go.Proofs.YtkamhpbfebdhjaaGreatDoor.Tree Go.Proofs.YtkamhpbfebdhjaaGreatDoor.Data Go.Proofs.YtkamhpbfebdhjaaGreatDoor.Env Go.Proofs.YtkamhpbfebdhjaaGreatDoor.Take Go.Proofs.YtkamhpbfebdhjaaGreatDoor.Taker Go.Proofs.YtkamhpbfebdhjaaGreatDoor.Pk Go.Proofs.YtkamhpbfebdhjaaGreatDoor.PkR Go.Proofs.YtkamhpbfebdhjaaGreatDoor.OwnR Go.Proofs.YtkamhpbfebdhjaaGreatDoor.CompR
open Go.Proofs.YtkamhpbfebdhjaaGreatDoor.Writer (EnvS)
set_option linter.unusedVariables false
set_option linter.unusedSimpArgs false
abbrev subC : World → CompD → Prop := fun _ c => c.text.size ≤ maxLen
abbrev CompsW (base : Nat) : World → List CompD → Value → Prop := RowO TC 3 base compCells subC
theorem stabC (base : Nat) : Stable (fun _ => True) base subC := stable_pure _ _ _
theorem take_text {b : Nat} {st : St} {w : World} (h : TRep w b st) : (takeC st).1.text.size ≤ maxLen := by
  have hl := h.2
  have h1 : (byteR st).2.1.length ≤ st.1.length := by
    unfold byteR
    split
    · exact Nat.zero_le _
    · rename_i c r e
      split
      · exact Nat.le_refl _
      · rw [e]; simp
  have h2 : ∀ s : St, (Take.strR s).1.length ≤ s.1.length := fun s => by
    unfold Take.strR
    simp only
    split
    · simp
    · rw [List.length_take]
      have : (digR 58 s).2.1.length ≤ s.1.length := by
        unfold digR
        cases hc : Dec.cutAt 58 s.1 with
        | none => exact Nat.le_refl _
        | some p =>
          have := cut_len hc
          simp only
          split
          · split
            · exact Nat.le_refl _
            · simp only; omega
          · exact Nat.le_refl _
      omega
  have h3 : (takeC st).1.text.size ≤ st.1.length := by
    unfold takeC
    simp only
    split
    · show ((Take.strR (byteR st).2).1.toArray).size ≤ _
      simp only [List.size_toArray]
      exact Nat.le_trans (h2 _) h1
    · split
      · exact Nat.zero_le _
      · split <;> exact Nat.zero_le _
  unfold maxLen
  omega

set_option maxHeartbeats 8000000 in
theorem eachComp_any (w : World) (b : Nat) (st0 : St) (h : TRep w b st0) (hE : EnvS (fun k => k = b) w) :
    Calls Tryz.prog 58 #[.pointer (some ⟨b, 0, none⟩), .func (.func 59) #[.pointer (some ⟨b, 0, none⟩)] #[]] w (EachPost w b takeC id (CompsW w.heap.size) st0) := by
  have HT := Lib.hid (TK.start h)
  have HE := Lib.hid hE
  clear hE h
  go_enter Tryz.func58, Tryz.ntmps58
  go_wp2_with fail
  refine (Num_any _ b st0 HT.out.1 (HE.out _ HT.out.2)).mono ?_
  rintro e w1 hp
  obtain ⟨rfl, ht⟩ := HT.out.next hp
  have hsm := dig_small 44 st0
  obtain ⟨d, hd⟩ : ∃ d, digR 44 st0 = d := ⟨_, rfl⟩
  have HD := Lib.hid hd
  rw [hd] at ht hsm ⊢
  obtain ⟨dn, dst⟩ := d
  simp only at ht hsm ⊢
  obtain ⟨n, hn⟩ : ∃ n : Nat, dn = n := ⟨dn.toNat, by have := hsm.1; omega⟩
  subst hn
  have hn9 : n < 1000000000 := by have := hsm.2; omega
  have HN : Hid (eachR takeC st0 = eachN takeC n dst) := Lib.hid (by unfold eachR; rw [HD.out]; rfl)
  have H1 : Hid (ER w b takeC id (CompsW w.heap.size) n dst 0 (.slice none 0 0) w1) := Lib.hid ⟨dst, [], Nat.zero_le _, rfl, by simp, RowO.nil _, ht⟩
  clear hp hd ht hsm
  go_wp2
  go_loopw [5, 7] (fun v i wr => ∃ k : Nat, i = .int .i64 k ∧ ER w b takeC id (CompsW w.heap.size) n dst k v wr) (fun _ i _ => n - (RowKit.intOf i).toNat)
  case atStart => exact ⟨0, rfl, H1.out⟩
  case round =>
    obtain ⟨k, rfl, st, xs, hk, hxl, hev, hrow, ht⟩ := hrel
    have t1 : wr.cell? ⟨b, 1, none⟩ = some (.bool st.2) := blk_cell ht.blk 1
    obtain ⟨A, c, rfl, -, -⟩ := row_slice hrow.1
    by_cases hlt : k < n
    · have hk1 : (k : Int) < n := by omega
      cases hb : st.2 with
      | true =>
        rw [hb] at t1
        have HB := Lib.hid hb
        have Hhev := Lib.hid hev
        have Hhrow := Lib.hid hrow
        have Hht := Lib.hid ht
        have Hhxl := Lib.hid hxl
        have Hhb := Lib.hid hb
        clear hev hrow ht hxl hb
        go_wp2
        go_ret
        exact each_end HN.out Hhev.out Hhrow.out Hht.out (.inl HB.out)
      | false =>
        rw [hb] at t1
        have HB := Lib.hid hb
        have hxn : xs.length < 1000000000 := by omega
        have Hbase : Hid (w.heap.size ≤ wr.heap.size) := Lib.hid ht.2.size
        have Hhev := Lib.hid hev
        have Hhrow := Lib.hid hrow
        have Hht := Lib.hid ht
        have Hhxl := Lib.hid hxl
        have Hhb := Lib.hid hb
        clear hev hrow ht hxl hb
        go_wp2_with fail
        refine (comp_any _ b st Hht.out.1 (fun w' hs => HE.out w' (Hht.out.2.trans hs (fun _ f _ => f)))).mono ?_
        rintro e w2 hp
        obtain ⟨rfl, ht2, hp2⟩ := hp; have ht2 : TK w b (takeC st).2 w2 := ⟨ht2, Hht.out.2.trans hp2 (fun _ f _ => f)⟩; have hx2 := take_text Hht.out.1
        have HR2 := Lib.hid (RowO.step (stabC _) Hhrow.out hp2 (taker_types Hht.out (by decide)))
        have HB2 : Hid (w.heap.size ≤ w2.heap.size) := Lib.hid ht2.2.size
        have Hht2 := Lib.hid ht2
        have Hhx2 := Lib.hid hx2
        clear ht2 hx2
        clear hp2 t1
        go_wp2_with (at_builtin; go_loud (refine list_append_own _ rfl (.tmp 22) (.tmp 25) 30 TC _ 3 32 rfl Tryz.underlying30 infoC rfl (by decide) (.slice A xs.length c) xs.length (xs.flatMap compCells) rfl (by exact HR2.out.1.alloc _) ⟨w2.heap.size, 0, none⟩ 1 1 [.int .i64 (takeC st).1.kind, .int .i64 (takeC st).1.n, .string (takeC st).1.text] rfl rfl (by exact cells_new w2 #[.int .i64 (takeC st).1.kind, .int .i64 (takeC st).1.n, .string (takeC st).1.text] TC) (by simp [Value.oneCell']) (by unfold maxLen; omega) (by omega) ?_; intro v5 w5 hown hg hat; have HT5 := Lib.hid (Hht2.out.grown HR2.out.1 (by decide) HR2.out.2.1 hg); have HR5 := Lib.hid (RowO.next (stabC _) trivial (HR2.out.no (stabC _) (Step.alloc (Step.refl No w2) _)) (Nat.le_trans HB2.out (by simp)) (x := (takeC st).1) Hhx2.out hown hg hat); obtain ⟨A5, c5, rfl, -, -⟩ := row_slice hown; clear hown hg hat))
        go_roundw
        case rel => exact ⟨k + 1, rfl, each_next hlt Hhxl.out HB.out Hhev.out rfl HR5.out HT5.out⟩
        case measure => simp [RowKit.intOf]; omega
    · have he : n - k = 0 := by omega
      have HZ := Lib.hid he
      obtain rfl : k = n := by omega
      have Hhev := Lib.hid hev
      have Hhrow := Lib.hid hrow
      have Hht := Lib.hid ht
      have Hhxl := Lib.hid hxl
      clear hev hrow ht hxl
      clear he
      go_wp2
      go_ret
      exact each_end HN.out Hhev.out Hhrow.out Hht.out (.inr HZ.out)
end Go.Proofs.YtkamhpbfebdhjaaGreatDoor.Each

/- A node, taken from a text. -/
namespace Go.Proofs.YtkamhpbfebdhjaaGreatDoor.TakeN
open Go.RowKit Go.Lib Go.Proofs.YtkamhpbfebdhjaaGreatDoor.Mem Go.Proofs.YtkamhpbfebdhjaaGreatDoor.Read Go.Proofs.YtkamhpbfebdhjaaGreatDoor.Tree Go.Proofs.YtkamhpbfebdhjaaGreatDoor.Data Go.Proofs.YtkamhpbfebdhjaaGreatDoor.Env Go.Proofs.YtkamhpbfebdhjaaGreatDoor.Take Go.Proofs.YtkamhpbfebdhjaaGreatDoor.Taker Go.Proofs.YtkamhpbfebdhjaaGreatDoor.Pk Go.Proofs.YtkamhpbfebdhjaaGreatDoor.PkR Go.Proofs.YtkamhpbfebdhjaaGreatDoor.OwnR Go.Proofs.YtkamhpbfebdhjaaGreatDoor.Each
open Go.Proofs.YtkamhpbfebdhjaaGreatDoor.Writer (EnvS)
set_option linter.unusedVariables false
set_option linter.unusedSimpArgs false
abbrev TS : TypeId := 98
def run (st : St) : Nat → St
  | 0 => st
  | k + 1 => (digR 44 (run st k)).2
def val (st : St) (k : Nat) : Int := (digR 44 (run st k)).1
def arr (st : St) : Nat → Array Value
  | 0 => #[.int .i64 0, .int .i64 0, .int .i64 0, .int .i64 0, .slice none 0 0]
  | 1 => #[.int .i64 (val st 0), .int .i64 0, .int .i64 0, .int .i64 0, .slice none 0 0]
  | 2 => #[.int .i64 (val st 0), .int .i64 (val st 1), .int .i64 0, .int .i64 0, .slice none 0 0]
  | 3 => #[.int .i64 (val st 0), .int .i64 (val st 1), .int .i64 (val st 2), .int .i64 0, .slice none 0 0]
  | _ => #[.int .i64 (val st 0), .int .i64 (val st 1), .int .i64 (val st 2), .int .i64 (val st 3), .slice none 0 0]
def zero : Array Value := #[.int .i64 0, .int .i64 0, .int .i64 0, .int .i64 0, .slice none 0 0]
def ptrs (s : Nat) : Array Value := #[.pointer (some ⟨s, 0, none⟩), .pointer (some ⟨s, 1, none⟩), .pointer (some ⟨s, 2, none⟩), .pointer (some ⟨s, 3, none⟩)]
/-- Under way: k numbers are taken. -/
structure LR (w : World) (b : Nat) (st : St) (r s p : Nat) (k : Nat) (wr : World) : Prop where
  res : wr.heap[r]? = some (.cells zero TS (0, 0))
  own : wr.heap[s]? = some (.cells (arr st k) TS (0, 0))
  ptr : wr.heap[p]? = some (.cells (ptrs s) 141 (0, 0))
  tk : TK w b (run st k) wr
  rs : w.heap.size ≤ r ∧ w.heap.size ≤ s ∧ r ≠ s
theorem LR.taken {w wr w2 : World} {b r s p k : Nat} {st : St} {v : Value} {e : Ending} (h : LR w b st r s p k wr) (hp : TPost wr b v (run st (k + 1)) e w2) : e = .returned v ∧ w2.heap[r]? = some (.cells zero TS (0, 0)) ∧ w2.heap[s]? = some (.cells (arr st k) TS (0, 0)) ∧ w2.heap[p]? = some (.cells (ptrs s) 141 (0, 0)) ∧ TK w b (run st (k + 1)) w2 :=
  ⟨hp.1, res_at h.res h.tk.blk (by decide) hp.2.2, res_at h.own h.tk.blk (by decide) hp.2.2, res_at h.ptr h.tk.blk (by decide) hp.2.2, (h.tk.next hp).2⟩
theorem LR.laid {w w2 : World} {b r s p k k' : Nat} {st : St} {v : Value} {i : Nat} (hr : w2.heap[r]? = some (.cells zero TS (0, 0))) (hs : w2.heap[s]? = some (.cells (arr st k) TS (0, 0))) (hp : w2.heap[p]? = some (.cells (ptrs s) 141 (0, 0))) (ht : TK w b (run st k') w2) (hrs : w.heap.size ≤ r ∧ w.heap.size ≤ s ∧ r ≠ s) (he : (arr st k).setIfInBounds i v = arr st k') : LR w b st r s p k' (w2.setCell ⟨s, i, none⟩ v) :=
  ⟨blk_set_other hr (fun e => hrs.2.2 e.symm) _, by rw [← he]; exact blk_set hs i v, blk_set_other hp (blk_ne hs hp (by decide)) _, tk_store ht hs (by decide) hrs.2.1 i v, hrs⟩
theorem take_is (st : St) : takeN st = (⟨val st 0, val st 1, val st 2, val st 3, (eachR numR (run st 4)).1⟩, (eachR numR (run st 4)).2) := rfl
def Post (w : World) (b : Nat) (st : St) (e : Ending) (w' : World) : Prop := ∃ kv, e = .returned (.agg #[.int .i64 (val st 0), .int .i64 (val st 1), .int .i64 (val st 2), .int .i64 (val st 3), kv]) ∧ IntsR w.heap.size w' (takeN st).1.kids kv ∧ TK w b (takeN st).2 w'
theorem ints_mono {base base' : Nat} {w : World} {xs : List Int} {v : Value} (h : IntsR base w xs v) (hb : base' ≤ base) : IntsR base' w xs v := ⟨h.1, fun k hk => Nat.le_trans hb (h.2.1 k hk), h.2.2⟩
theorem laid {w w5 : World} {b r s : Nat} {st : St} {kv : Value} {ks : List Int} (hr : w5.heap[r]? = some (.cells zero TS (0, 0))) (hs : w5.heap[s]? = some (.cells (arr st 4) TS (0, 0))) (ht : TK w b (eachR numR (run st 4)).2 w5) (hrs : w.heap.size ≤ r ∧ w.heap.size ≤ s ∧ r ≠ s) (hk : IntsR w.heap.size w5 ks kv) :
    ((((((w5.setCell ⟨s, 4, none⟩ kv).setCell ⟨r, 0, none⟩ (.int .i64 (val st 0))).setCell ⟨r, 1, none⟩ (.int .i64 (val st 1))).setCell ⟨r, 2, none⟩ (.int .i64 (val st 2))).setCell ⟨r, 3, none⟩ (.int .i64 (val st 3))).setCell ⟨r, 4, none⟩ kv).heap[r]? = some (.cells #[.int .i64 (val st 0), .int .i64 (val st 1), .int .i64 (val st 2), .int .i64 (val st 3), kv] TS (0, 0)) ∧ TK w b (eachR numR (run st 4)).2 ((((((w5.setCell ⟨s, 4, none⟩ kv).setCell ⟨r, 0, none⟩ (.int .i64 (val st 0))).setCell ⟨r, 1, none⟩ (.int .i64 (val st 1))).setCell ⟨r, 2, none⟩ (.int .i64 (val st 2))).setCell ⟨r, 3, none⟩ (.int .i64 (val st 3))).setCell ⟨r, 4, none⟩ kv) ∧ IntsR w.heap.size ((((((w5.setCell ⟨s, 4, none⟩ kv).setCell ⟨r, 0, none⟩ (.int .i64 (val st 0))).setCell ⟨r, 1, none⟩ (.int .i64 (val st 1))).setCell ⟨r, 2, none⟩ (.int .i64 (val st 2))).setCell ⟨r, 3, none⟩ (.int .i64 (val st 3))).setCell ⟨r, 4, none⟩ kv) ks kv := by
  have h1 := blk_set_other hr (a := ⟨s, 4, none⟩) (fun e => hrs.2.2 e.symm) kv
  have t1 := tk_store ht hs (by decide) hrs.2.1 4 kv
  have k1 : IntsR w.heap.size (w5.setCell ⟨s, 4, none⟩ kv) ks kv := hk.step (stable_true (fun _ => True) _) (F := fun i => i = s) (by refine set_at (Step.refl _ _) ?_ _ <;> rfl) (Types.at hs (by decide))
  have t2 := tk_store t1 h1 (by decide) hrs.1 0 (.int .i64 (val st 0))
  have k2 := RowO.step (stable_true (fun _ => True) _) k1 (F := fun i => i = r) (w' := (w5.setCell ⟨s, 4, none⟩ kv).setCell ⟨r, 0, none⟩ (.int .i64 (val st 0))) (by refine set_at (Step.refl _ _) ?_ _ <;> rfl) (Types.at h1 (by decide))
  have h2 := blk_set h1 0 (.int .i64 (val st 0))
  have t3 := tk_store t2 h2 (by decide) hrs.1 1 (.int .i64 (val st 1))
  have k3 := RowO.step (stable_true (fun _ => True) _) k2 (F := fun i => i = r) (w' := ((w5.setCell ⟨s, 4, none⟩ kv).setCell ⟨r, 0, none⟩ (.int .i64 (val st 0))).setCell ⟨r, 1, none⟩ (.int .i64 (val st 1))) (by refine set_at (Step.refl _ _) ?_ _ <;> rfl) (Types.at h2 (by decide))
  have h3 := blk_set h2 1 (.int .i64 (val st 1))
  have t4 := tk_store t3 h3 (by decide) hrs.1 2 (.int .i64 (val st 2))
  have k4 := RowO.step (stable_true (fun _ => True) _) k3 (F := fun i => i = r) (w' := (((w5.setCell ⟨s, 4, none⟩ kv).setCell ⟨r, 0, none⟩ (.int .i64 (val st 0))).setCell ⟨r, 1, none⟩ (.int .i64 (val st 1))).setCell ⟨r, 2, none⟩ (.int .i64 (val st 2))) (by refine set_at (Step.refl _ _) ?_ _ <;> rfl) (Types.at h3 (by decide))
  have h4 := blk_set h3 2 (.int .i64 (val st 2))
  have t5 := tk_store t4 h4 (by decide) hrs.1 3 (.int .i64 (val st 3))
  have k5 := RowO.step (stable_true (fun _ => True) _) k4 (F := fun i => i = r) (w' := ((((w5.setCell ⟨s, 4, none⟩ kv).setCell ⟨r, 0, none⟩ (.int .i64 (val st 0))).setCell ⟨r, 1, none⟩ (.int .i64 (val st 1))).setCell ⟨r, 2, none⟩ (.int .i64 (val st 2))).setCell ⟨r, 3, none⟩ (.int .i64 (val st 3))) (by refine set_at (Step.refl _ _) ?_ _ <;> rfl) (Types.at h4 (by decide))
  have h5 := blk_set h4 3 (.int .i64 (val st 3))
  have t6 := tk_store t5 h5 (by decide) hrs.1 4 kv
  have k6 := RowO.step (stable_true (fun _ => True) _) k5 (F := fun i => i = r) (w' := (((((w5.setCell ⟨s, 4, none⟩ kv).setCell ⟨r, 0, none⟩ (.int .i64 (val st 0))).setCell ⟨r, 1, none⟩ (.int .i64 (val st 1))).setCell ⟨r, 2, none⟩ (.int .i64 (val st 2))).setCell ⟨r, 3, none⟩ (.int .i64 (val st 3))).setCell ⟨r, 4, none⟩ kv) (by refine set_at (Step.refl _ _) ?_ _ <;> rfl) (Types.at h5 (by decide))
  have h6 := blk_set h5 4 kv
  exact ⟨by simpa [zero] using h6, t6, k6⟩
set_option maxHeartbeats 8000000 in
set_option maxRecDepth 100000 in
theorem take_any (w : World) (b : Nat) (st : St) (h : TRep w b st) (hE : EnvS (fun k => k = b) w) : Calls Tryz.prog 64 #[.pointer (some ⟨b, 0, none⟩)] w (Post w b st) := by
  have hs3 : Step No w (((w.alloc (.cells zero TS)).alloc (.cells zero TS)).alloc (.cells (ptrs (w.heap.size + 1)) 141)) := (((Step.refl No w).alloc _).alloc _).alloc _
  have H0 : Hid (LR w b st w.heap.size (w.heap.size + 1) (w.heap.size + 1 + 1) 0 (((w.alloc (.cells zero TS)).alloc (.cells zero TS)).alloc (.cells (ptrs (w.heap.size + 1)) 141))) := Lib.hid
    ⟨blk_alloc (blk_alloc (blk_new _ _) _) _, blk_alloc (by simpa [arr, zero] using blk_new (w.alloc (.cells zero TS)) (.cells zero TS)) _, by simpa using blk_new ((w.alloc (.cells zero TS)).alloc (.cells zero TS)) (.cells (ptrs (w.heap.size + 1)) 141), (TK.start h).no hs3, by omega, by omega, by omega⟩
  have HE := Lib.hid hE
  clear hE h
  go_enter Tryz.func64, Tryz.ntmps64
  go_wp2
  clear hs3
  simp only [zero, ptrs] at H0
  generalize w.heap.size + 1 + 1 = p at *
  generalize w.heap.size + 1 = s at *
  generalize hrz : w.heap.size = r at *
  have HRZ := Lib.hid hrz
  clear hrz
  go_loopw [12] (fun i wr => ∃ k : Nat, k ≤ 4 ∧ i = .int .i64 k ∧ LR w b st r s p k wr) (fun i _ => 4 - (RowKit.intOf i).toNat)
  case atStart => exact ⟨0, Nat.zero_le _, rfl, H0.out⟩
  case round =>
    obtain ⟨k, hk, rfl, hL⟩ := hrel
    by_cases hlt : k < 4
    · have hkk : k = 0 ∨ k = 1 ∨ k = 2 ∨ k = 3 := by omega
      rcases hkk with rfl | rfl | rfl | rfl
      ·
        have c1 : wr.cell? ⟨p, 0, none⟩ = some (.pointer (some ⟨s, 0, none⟩)) := blk_cell hL.ptr 0
        have HhL := Lib.hid hL
        clear hL
        go_wp2_with fail
        refine (Num_any _ b _ HhL.out.tk.1 (HE.out _ HhL.out.tk.2)).mono ?_
        rintro e w2 hp
        obtain ⟨rfl, q1, q2, q3, q4⟩ := HhL.out.taken hp
        have f0 := blk_free q2 0
        have c2 : w2.cell? ⟨s, 0, none⟩ = some (.int .i64 0) := blk_cell q2 0
        have HL2 := Lib.hid (LR.laid (i := 0) (v := .int .i64 (digR 44 (run st 0)).1) q1 q2 q3 q4 HhL.out.rs (k' := 0 + 1) (by simp [arr, val]))
        clear hp q1 q2 q3 q4 c1
        go_wp2
        go_roundw
        case rel => exact ⟨0 + 1, by decide, by rfl, HL2.out⟩
        case measure => simp [RowKit.intOf]
      ·
        have c1 : wr.cell? ⟨p, 1, none⟩ = some (.pointer (some ⟨s, 1, none⟩)) := blk_cell hL.ptr 1
        have HhL := Lib.hid hL
        clear hL
        go_wp2_with fail
        refine (Num_any _ b _ HhL.out.tk.1 (HE.out _ HhL.out.tk.2)).mono ?_
        rintro e w2 hp
        obtain ⟨rfl, q1, q2, q3, q4⟩ := HhL.out.taken hp
        have f0 := blk_free q2 1
        have c2 : w2.cell? ⟨s, 1, none⟩ = some (.int .i64 0) := blk_cell q2 1
        have HL2 := Lib.hid (LR.laid (i := 1) (v := .int .i64 (digR 44 (run st 1)).1) q1 q2 q3 q4 HhL.out.rs (k' := 1 + 1) (by simp [arr, val]))
        clear hp q1 q2 q3 q4 c1
        go_wp2
        go_roundw
        case rel => exact ⟨1 + 1, by decide, by rfl, HL2.out⟩
        case measure => simp [RowKit.intOf]
      ·
        have c1 : wr.cell? ⟨p, 2, none⟩ = some (.pointer (some ⟨s, 2, none⟩)) := blk_cell hL.ptr 2
        have HhL := Lib.hid hL
        clear hL
        go_wp2_with fail
        refine (Num_any _ b _ HhL.out.tk.1 (HE.out _ HhL.out.tk.2)).mono ?_
        rintro e w2 hp
        obtain ⟨rfl, q1, q2, q3, q4⟩ := HhL.out.taken hp
        have f0 := blk_free q2 2
        have c2 : w2.cell? ⟨s, 2, none⟩ = some (.int .i64 0) := blk_cell q2 2
        have HL2 := Lib.hid (LR.laid (i := 2) (v := .int .i64 (digR 44 (run st 2)).1) q1 q2 q3 q4 HhL.out.rs (k' := 2 + 1) (by simp [arr, val]))
        clear hp q1 q2 q3 q4 c1
        go_wp2
        go_roundw
        case rel => exact ⟨2 + 1, by decide, by rfl, HL2.out⟩
        case measure => simp [RowKit.intOf]
      ·
        have c1 : wr.cell? ⟨p, 3, none⟩ = some (.pointer (some ⟨s, 3, none⟩)) := blk_cell hL.ptr 3
        have HhL := Lib.hid hL
        clear hL
        go_wp2_with fail
        refine (Num_any _ b _ HhL.out.tk.1 (HE.out _ HhL.out.tk.2)).mono ?_
        rintro e w2 hp
        obtain ⟨rfl, q1, q2, q3, q4⟩ := HhL.out.taken hp
        have f0 := blk_free q2 3
        have c2 : w2.cell? ⟨s, 3, none⟩ = some (.int .i64 0) := blk_cell q2 3
        have HL2 := Lib.hid (LR.laid (i := 3) (v := .int .i64 (digR 44 (run st 3)).1) q1 q2 q3 q4 HhL.out.rs (k' := 3 + 1) (by simp [arr, val]))
        clear hp q1 q2 q3 q4 c1
        go_wp2
        go_roundw
        case rel => exact ⟨3 + 1, by decide, by rfl, HL2.out⟩
        case measure => simp [RowKit.intOf]
    · obtain rfl : k = 4 := by omega
      have HhL := Lib.hid hL
      clear hL
      go_wp2_with fail
      refine (eachInt_any _ b _ HhL.out.tk.1 (fun w' hs => HE.out w' (HhL.out.tk.2.trans hs (fun _ f _ => f)))).mono ?_
      rintro e w5 ⟨kv, xs, rfl, hxs, hrow, htk⟩
      rw [List.map_id] at hxs
      subst hxs
      have hr5 := res_at HhL.out.res HhL.out.tk.blk (by decide) htk.2
      have hs5 := res_at HhL.out.own HhL.out.tk.blk (by decide) htk.2
      have HT5 : Hid (TK w b (eachR numR (run st 4)).2 w5) := Lib.hid ⟨htk.1, HhL.out.tk.2.trans htk.2 (fun _ f _ => f)⟩
      have HI5 : Hid (IntsR w.heap.size w5 (eachR numR (run st 4)).1 kv) := Lib.hid (ints_mono hrow HhL.out.tk.2.size)
      obtain ⟨A5, n5, c5, hkv⟩ : ∃ A n c, kv = .slice A n c := by obtain ⟨A, c, e, _⟩ := row_slice hrow.1; exact ⟨A, _, c, e⟩
      clear hrow htk
      subst hkv
      have z0 := blk_cell hr5 0
      have g0 := blk_free hr5 0
      have s0 := blk_cell hs5 0
      have z1 := blk_cell hr5 1
      have g1 := blk_free hr5 1
      have s1 := blk_cell hs5 1
      have z2 := blk_cell hr5 2
      have g2 := blk_free hr5 2
      have s2 := blk_cell hs5 2
      have z3 := blk_cell hr5 3
      have g3 := blk_free hr5 3
      have s3 := blk_cell hs5 3
      have z4 := blk_cell hr5 4
      have g4 := blk_free hr5 4
      have s4 := blk_cell hs5 4
      have gs := blk_free hs5 4
      simp [zero] at z0 z1 z2 z3 z4
      simp [arr] at s0 s1 s2 s3 s4
      obtain ⟨-, -, hne⟩ := HhL.out.rs
      have hne2 : ¬ s = r := fun e => hne e.symm
      have HO := Lib.hid (laid hr5 hs5 HT5.out HhL.out.rs HI5.out)
      clear hr5 hs5
      go_wp2
      generalize World.setCell (World.setCell (World.setCell (World.setCell (World.setCell (World.setCell w5 ⟨s, 4, none⟩ _) ⟨r, 0, none⟩ _) ⟨r, 1, none⟩ _) ⟨r, 2, none⟩ _) ⟨r, 3, none⟩ _) ⟨r, 4, none⟩ _ = W at *
      have r0 := blk_cell HO.out.1 0
      have r1 := blk_cell HO.out.1 1
      have r2 := blk_cell HO.out.1 2
      have r3 := blk_cell HO.out.1 3
      have r4 := blk_cell HO.out.1 4
      exact bodyPost_ret (by simp [results, Tryz.results64, go_sem, r0, r1, r2, r3, r4]) rfl ⟨_, rfl, HO.out.2.2, HO.out.2.1⟩
end Go.Proofs.YtkamhpbfebdhjaaGreatDoor.TakeN

/- A step, taken from a text. -/
namespace Go.Proofs.YtkamhpbfebdhjaaGreatDoor.TakeS
open Go.RowKit Go.Lib Go.Proofs.YtkamhpbfebdhjaaGreatDoor.Mem Go.Proofs.YtkamhpbfebdhjaaGreatDoor.Read Go.Proofs.YtkamhpbfebdhjaaGreatDoor.Tree Go.Proofs.YtkamhpbfebdhjaaGreatDoor.Data Go.Proofs.YtkamhpbfebdhjaaGreatDoor.Env Go.Proofs.YtkamhpbfebdhjaaGreatDoor.Take Go.Proofs.YtkamhpbfebdhjaaGreatDoor.Taker Go.Proofs.YtkamhpbfebdhjaaGreatDoor.Pk Go.Proofs.YtkamhpbfebdhjaaGreatDoor.PkR Go.Proofs.YtkamhpbfebdhjaaGreatDoor.OwnR Go.Proofs.YtkamhpbfebdhjaaGreatDoor.Each
open Go.Proofs.YtkamhpbfebdhjaaGreatDoor.Writer (EnvS)
set_option linter.unusedVariables false
set_option linter.unusedSimpArgs false
abbrev TS : TypeId := 36
def run (st : St) : Nat → St
  | 0 => st
  | k + 1 => (digR 44 (run st k)).2
def val (st : St) (k : Nat) : Int := (digR 44 (run st k)).1
def arr (st : St) : Nat → Array Value
  | 0 => #[.int .i64 0, .int .i64 0, .int .i64 0, .int .i64 0, .int .i64 0, .slice none 0 0]
  | 1 => #[.int .i64 (val st 0), .int .i64 0, .int .i64 0, .int .i64 0, .int .i64 0, .slice none 0 0]
  | 2 => #[.int .i64 (val st 0), .int .i64 (val st 1), .int .i64 0, .int .i64 0, .int .i64 0, .slice none 0 0]
  | 3 => #[.int .i64 (val st 0), .int .i64 (val st 1), .int .i64 (val st 2), .int .i64 0, .int .i64 0, .slice none 0 0]
  | 4 => #[.int .i64 (val st 0), .int .i64 (val st 1), .int .i64 (val st 2), .int .i64 (val st 3), .int .i64 0, .slice none 0 0]
  | _ => #[.int .i64 (val st 0), .int .i64 (val st 1), .int .i64 (val st 2), .int .i64 (val st 3), .int .i64 (val st 4), .slice none 0 0]
def zero : Array Value := #[.int .i64 0, .int .i64 0, .int .i64 0, .int .i64 0, .int .i64 0, .slice none 0 0]
def ptrs (s : Nat) : Array Value := #[.pointer (some ⟨s, 0, none⟩), .pointer (some ⟨s, 1, none⟩), .pointer (some ⟨s, 2, none⟩), .pointer (some ⟨s, 3, none⟩), .pointer (some ⟨s, 4, none⟩)]
/-- Under way: k numbers are taken. -/
structure LR (w : World) (b : Nat) (st : St) (r s p : Nat) (k : Nat) (wr : World) : Prop where
  res : wr.heap[r]? = some (.cells zero TS (0, 0))
  own : wr.heap[s]? = some (.cells (arr st k) TS (0, 0))
  ptr : wr.heap[p]? = some (.cells (ptrs s) 141 (0, 0))
  tk : TK w b (run st k) wr
  rs : w.heap.size ≤ r ∧ w.heap.size ≤ s ∧ r ≠ s
theorem LR.taken {w wr w2 : World} {b r s p k : Nat} {st : St} {v : Value} {e : Ending} (h : LR w b st r s p k wr) (hp : TPost wr b v (run st (k + 1)) e w2) : e = .returned v ∧ w2.heap[r]? = some (.cells zero TS (0, 0)) ∧ w2.heap[s]? = some (.cells (arr st k) TS (0, 0)) ∧ w2.heap[p]? = some (.cells (ptrs s) 141 (0, 0)) ∧ TK w b (run st (k + 1)) w2 :=
  ⟨hp.1, res_at h.res h.tk.blk (by decide) hp.2.2, res_at h.own h.tk.blk (by decide) hp.2.2, res_at h.ptr h.tk.blk (by decide) hp.2.2, (h.tk.next hp).2⟩
theorem LR.laid {w w2 : World} {b r s p k k' : Nat} {st : St} {v : Value} {i : Nat} (hr : w2.heap[r]? = some (.cells zero TS (0, 0))) (hs : w2.heap[s]? = some (.cells (arr st k) TS (0, 0))) (hp : w2.heap[p]? = some (.cells (ptrs s) 141 (0, 0))) (ht : TK w b (run st k') w2) (hrs : w.heap.size ≤ r ∧ w.heap.size ≤ s ∧ r ≠ s) (he : (arr st k).setIfInBounds i v = arr st k') : LR w b st r s p k' (w2.setCell ⟨s, i, none⟩ v) :=
  ⟨blk_set_other hr (fun e => hrs.2.2 e.symm) _, by rw [← he]; exact blk_set hs i v, blk_set_other hp (blk_ne hs hp (by decide)) _, tk_store ht hs (by decide) hrs.2.1 i v, hrs⟩
theorem take_is (st : St) : takeS st = (⟨val st 0, val st 1, val st 2, val st 3, val st 4, (eachR numR (run st 5)).1⟩, (eachR numR (run st 5)).2) := rfl
def Post (w : World) (b : Nat) (st : St) (e : Ending) (w' : World) : Prop := ∃ kv, e = .returned (.agg #[.int .i64 (val st 0), .int .i64 (val st 1), .int .i64 (val st 2), .int .i64 (val st 3), .int .i64 (val st 4), kv]) ∧ IntsR w.heap.size w' (takeS st).1.kids kv ∧ TK w b (takeS st).2 w'
theorem ints_mono {base base' : Nat} {w : World} {xs : List Int} {v : Value} (h : IntsR base w xs v) (hb : base' ≤ base) : IntsR base' w xs v := ⟨h.1, fun k hk => Nat.le_trans hb (h.2.1 k hk), h.2.2⟩
theorem laid {w w5 : World} {b r s : Nat} {st : St} {kv : Value} {ks : List Int} (hr : w5.heap[r]? = some (.cells zero TS (0, 0))) (hs : w5.heap[s]? = some (.cells (arr st 5) TS (0, 0))) (ht : TK w b (eachR numR (run st 5)).2 w5) (hrs : w.heap.size ≤ r ∧ w.heap.size ≤ s ∧ r ≠ s) (hk : IntsR w.heap.size w5 ks kv) :
    (((((((w5.setCell ⟨s, 5, none⟩ kv).setCell ⟨r, 0, none⟩ (.int .i64 (val st 0))).setCell ⟨r, 1, none⟩ (.int .i64 (val st 1))).setCell ⟨r, 2, none⟩ (.int .i64 (val st 2))).setCell ⟨r, 3, none⟩ (.int .i64 (val st 3))).setCell ⟨r, 4, none⟩ (.int .i64 (val st 4))).setCell ⟨r, 5, none⟩ kv).heap[r]? = some (.cells #[.int .i64 (val st 0), .int .i64 (val st 1), .int .i64 (val st 2), .int .i64 (val st 3), .int .i64 (val st 4), kv] TS (0, 0)) ∧ TK w b (eachR numR (run st 5)).2 (((((((w5.setCell ⟨s, 5, none⟩ kv).setCell ⟨r, 0, none⟩ (.int .i64 (val st 0))).setCell ⟨r, 1, none⟩ (.int .i64 (val st 1))).setCell ⟨r, 2, none⟩ (.int .i64 (val st 2))).setCell ⟨r, 3, none⟩ (.int .i64 (val st 3))).setCell ⟨r, 4, none⟩ (.int .i64 (val st 4))).setCell ⟨r, 5, none⟩ kv) ∧ IntsR w.heap.size (((((((w5.setCell ⟨s, 5, none⟩ kv).setCell ⟨r, 0, none⟩ (.int .i64 (val st 0))).setCell ⟨r, 1, none⟩ (.int .i64 (val st 1))).setCell ⟨r, 2, none⟩ (.int .i64 (val st 2))).setCell ⟨r, 3, none⟩ (.int .i64 (val st 3))).setCell ⟨r, 4, none⟩ (.int .i64 (val st 4))).setCell ⟨r, 5, none⟩ kv) ks kv := by
  have h1 := blk_set_other hr (a := ⟨s, 5, none⟩) (fun e => hrs.2.2 e.symm) kv
  have t1 := tk_store ht hs (by decide) hrs.2.1 5 kv
  have k1 : IntsR w.heap.size (w5.setCell ⟨s, 5, none⟩ kv) ks kv := hk.step (stable_true (fun _ => True) _) (F := fun i => i = s) (by refine set_at (Step.refl _ _) ?_ _ <;> rfl) (Types.at hs (by decide))
  have t2 := tk_store t1 h1 (by decide) hrs.1 0 (.int .i64 (val st 0))
  have k2 := RowO.step (stable_true (fun _ => True) _) k1 (F := fun i => i = r) (w' := (w5.setCell ⟨s, 5, none⟩ kv).setCell ⟨r, 0, none⟩ (.int .i64 (val st 0))) (by refine set_at (Step.refl _ _) ?_ _ <;> rfl) (Types.at h1 (by decide))
  have h2 := blk_set h1 0 (.int .i64 (val st 0))
  have t3 := tk_store t2 h2 (by decide) hrs.1 1 (.int .i64 (val st 1))
  have k3 := RowO.step (stable_true (fun _ => True) _) k2 (F := fun i => i = r) (w' := ((w5.setCell ⟨s, 5, none⟩ kv).setCell ⟨r, 0, none⟩ (.int .i64 (val st 0))).setCell ⟨r, 1, none⟩ (.int .i64 (val st 1))) (by refine set_at (Step.refl _ _) ?_ _ <;> rfl) (Types.at h2 (by decide))
  have h3 := blk_set h2 1 (.int .i64 (val st 1))
  have t4 := tk_store t3 h3 (by decide) hrs.1 2 (.int .i64 (val st 2))
  have k4 := RowO.step (stable_true (fun _ => True) _) k3 (F := fun i => i = r) (w' := (((w5.setCell ⟨s, 5, none⟩ kv).setCell ⟨r, 0, none⟩ (.int .i64 (val st 0))).setCell ⟨r, 1, none⟩ (.int .i64 (val st 1))).setCell ⟨r, 2, none⟩ (.int .i64 (val st 2))) (by refine set_at (Step.refl _ _) ?_ _ <;> rfl) (Types.at h3 (by decide))
  have h4 := blk_set h3 2 (.int .i64 (val st 2))
  have t5 := tk_store t4 h4 (by decide) hrs.1 3 (.int .i64 (val st 3))
  have k5 := RowO.step (stable_true (fun _ => True) _) k4 (F := fun i => i = r) (w' := ((((w5.setCell ⟨s, 5, none⟩ kv).setCell ⟨r, 0, none⟩ (.int .i64 (val st 0))).setCell ⟨r, 1, none⟩ (.int .i64 (val st 1))).setCell ⟨r, 2, none⟩ (.int .i64 (val st 2))).setCell ⟨r, 3, none⟩ (.int .i64 (val st 3))) (by refine set_at (Step.refl _ _) ?_ _ <;> rfl) (Types.at h4 (by decide))
  have h5 := blk_set h4 3 (.int .i64 (val st 3))
  have t6 := tk_store t5 h5 (by decide) hrs.1 4 (.int .i64 (val st 4))
  have k6 := RowO.step (stable_true (fun _ => True) _) k5 (F := fun i => i = r) (w' := (((((w5.setCell ⟨s, 5, none⟩ kv).setCell ⟨r, 0, none⟩ (.int .i64 (val st 0))).setCell ⟨r, 1, none⟩ (.int .i64 (val st 1))).setCell ⟨r, 2, none⟩ (.int .i64 (val st 2))).setCell ⟨r, 3, none⟩ (.int .i64 (val st 3))).setCell ⟨r, 4, none⟩ (.int .i64 (val st 4))) (by refine set_at (Step.refl _ _) ?_ _ <;> rfl) (Types.at h5 (by decide))
  have h6 := blk_set h5 4 (.int .i64 (val st 4))
  have t7 := tk_store t6 h6 (by decide) hrs.1 5 kv
  have k7 := RowO.step (stable_true (fun _ => True) _) k6 (F := fun i => i = r) (w' := ((((((w5.setCell ⟨s, 5, none⟩ kv).setCell ⟨r, 0, none⟩ (.int .i64 (val st 0))).setCell ⟨r, 1, none⟩ (.int .i64 (val st 1))).setCell ⟨r, 2, none⟩ (.int .i64 (val st 2))).setCell ⟨r, 3, none⟩ (.int .i64 (val st 3))).setCell ⟨r, 4, none⟩ (.int .i64 (val st 4))).setCell ⟨r, 5, none⟩ kv) (by refine set_at (Step.refl _ _) ?_ _ <;> rfl) (Types.at h6 (by decide))
  have h7 := blk_set h6 5 kv
  exact ⟨by simpa [zero] using h7, t7, k7⟩
set_option maxHeartbeats 8000000 in
set_option maxRecDepth 100000 in
theorem take_any (w : World) (b : Nat) (st : St) (h : TRep w b st) (hE : EnvS (fun k => k = b) w) : Calls Tryz.prog 86 #[.pointer (some ⟨b, 0, none⟩)] w (Post w b st) := by
  have hs3 : Step No w (((w.alloc (.cells zero TS)).alloc (.cells zero TS)).alloc (.cells (ptrs (w.heap.size + 1)) 141)) := (((Step.refl No w).alloc _).alloc _).alloc _
  have H0 : Hid (LR w b st w.heap.size (w.heap.size + 1) (w.heap.size + 1 + 1) 0 (((w.alloc (.cells zero TS)).alloc (.cells zero TS)).alloc (.cells (ptrs (w.heap.size + 1)) 141))) := Lib.hid
    ⟨blk_alloc (blk_alloc (blk_new _ _) _) _, blk_alloc (by simpa [arr, zero] using blk_new (w.alloc (.cells zero TS)) (.cells zero TS)) _, by simpa using blk_new ((w.alloc (.cells zero TS)).alloc (.cells zero TS)) (.cells (ptrs (w.heap.size + 1)) 141), (TK.start h).no hs3, by omega, by omega, by omega⟩
  have HE := Lib.hid hE
  clear hE h
  go_enter Tryz.func86, Tryz.ntmps86
  go_wp2
  clear hs3
  simp only [zero, ptrs] at H0
  generalize w.heap.size + 1 + 1 = p at *
  generalize w.heap.size + 1 = s at *
  generalize hrz : w.heap.size = r at *
  have HRZ := Lib.hid hrz
  clear hrz
  go_loopw [13] (fun i wr => ∃ k : Nat, k ≤ 5 ∧ i = .int .i64 k ∧ LR w b st r s p k wr) (fun i _ => 5 - (RowKit.intOf i).toNat)
  case atStart => exact ⟨0, Nat.zero_le _, rfl, H0.out⟩
  case round =>
    obtain ⟨k, hk, rfl, hL⟩ := hrel
    by_cases hlt : k < 5
    · have hkk : k = 0 ∨ k = 1 ∨ k = 2 ∨ k = 3 ∨ k = 4 := by omega
      rcases hkk with rfl | rfl | rfl | rfl | rfl
      ·
        have c1 : wr.cell? ⟨p, 0, none⟩ = some (.pointer (some ⟨s, 0, none⟩)) := blk_cell hL.ptr 0
        have HhL := Lib.hid hL
        clear hL
        go_wp2_with fail
        refine (Num_any _ b _ HhL.out.tk.1 (HE.out _ HhL.out.tk.2)).mono ?_
        rintro e w2 hp
        obtain ⟨rfl, q1, q2, q3, q4⟩ := HhL.out.taken hp
        have f0 := blk_free q2 0
        have c2 : w2.cell? ⟨s, 0, none⟩ = some (.int .i64 0) := blk_cell q2 0
        have HL2 := Lib.hid (LR.laid (i := 0) (v := .int .i64 (digR 44 (run st 0)).1) q1 q2 q3 q4 HhL.out.rs (k' := 0 + 1) (by simp [arr, val]))
        clear hp q1 q2 q3 q4 c1
        go_wp2
        go_roundw
        case rel => exact ⟨0 + 1, by decide, by rfl, HL2.out⟩
        case measure => simp [RowKit.intOf]
      ·
        have c1 : wr.cell? ⟨p, 1, none⟩ = some (.pointer (some ⟨s, 1, none⟩)) := blk_cell hL.ptr 1
        have HhL := Lib.hid hL
        clear hL
        go_wp2_with fail
        refine (Num_any _ b _ HhL.out.tk.1 (HE.out _ HhL.out.tk.2)).mono ?_
        rintro e w2 hp
        obtain ⟨rfl, q1, q2, q3, q4⟩ := HhL.out.taken hp
        have f0 := blk_free q2 1
        have c2 : w2.cell? ⟨s, 1, none⟩ = some (.int .i64 0) := blk_cell q2 1
        have HL2 := Lib.hid (LR.laid (i := 1) (v := .int .i64 (digR 44 (run st 1)).1) q1 q2 q3 q4 HhL.out.rs (k' := 1 + 1) (by simp [arr, val]))
        clear hp q1 q2 q3 q4 c1
        go_wp2
        go_roundw
        case rel => exact ⟨1 + 1, by decide, by rfl, HL2.out⟩
        case measure => simp [RowKit.intOf]
      ·
        have c1 : wr.cell? ⟨p, 2, none⟩ = some (.pointer (some ⟨s, 2, none⟩)) := blk_cell hL.ptr 2
        have HhL := Lib.hid hL
        clear hL
        go_wp2_with fail
        refine (Num_any _ b _ HhL.out.tk.1 (HE.out _ HhL.out.tk.2)).mono ?_
        rintro e w2 hp
        obtain ⟨rfl, q1, q2, q3, q4⟩ := HhL.out.taken hp
        have f0 := blk_free q2 2
        have c2 : w2.cell? ⟨s, 2, none⟩ = some (.int .i64 0) := blk_cell q2 2
        have HL2 := Lib.hid (LR.laid (i := 2) (v := .int .i64 (digR 44 (run st 2)).1) q1 q2 q3 q4 HhL.out.rs (k' := 2 + 1) (by simp [arr, val]))
        clear hp q1 q2 q3 q4 c1
        go_wp2
        go_roundw
        case rel => exact ⟨2 + 1, by decide, by rfl, HL2.out⟩
        case measure => simp [RowKit.intOf]
      ·
        have c1 : wr.cell? ⟨p, 3, none⟩ = some (.pointer (some ⟨s, 3, none⟩)) := blk_cell hL.ptr 3
        have HhL := Lib.hid hL
        clear hL
        go_wp2_with fail
        refine (Num_any _ b _ HhL.out.tk.1 (HE.out _ HhL.out.tk.2)).mono ?_
        rintro e w2 hp
        obtain ⟨rfl, q1, q2, q3, q4⟩ := HhL.out.taken hp
        have f0 := blk_free q2 3
        have c2 : w2.cell? ⟨s, 3, none⟩ = some (.int .i64 0) := blk_cell q2 3
        have HL2 := Lib.hid (LR.laid (i := 3) (v := .int .i64 (digR 44 (run st 3)).1) q1 q2 q3 q4 HhL.out.rs (k' := 3 + 1) (by simp [arr, val]))
        clear hp q1 q2 q3 q4 c1
        go_wp2
        go_roundw
        case rel => exact ⟨3 + 1, by decide, by rfl, HL2.out⟩
        case measure => simp [RowKit.intOf]
      ·
        have c1 : wr.cell? ⟨p, 4, none⟩ = some (.pointer (some ⟨s, 4, none⟩)) := blk_cell hL.ptr 4
        have HhL := Lib.hid hL
        clear hL
        go_wp2_with fail
        refine (Num_any _ b _ HhL.out.tk.1 (HE.out _ HhL.out.tk.2)).mono ?_
        rintro e w2 hp
        obtain ⟨rfl, q1, q2, q3, q4⟩ := HhL.out.taken hp
        have f0 := blk_free q2 4
        have c2 : w2.cell? ⟨s, 4, none⟩ = some (.int .i64 0) := blk_cell q2 4
        have HL2 := Lib.hid (LR.laid (i := 4) (v := .int .i64 (digR 44 (run st 4)).1) q1 q2 q3 q4 HhL.out.rs (k' := 4 + 1) (by simp [arr, val]))
        clear hp q1 q2 q3 q4 c1
        go_wp2
        go_roundw
        case rel => exact ⟨4 + 1, by decide, by rfl, HL2.out⟩
        case measure => simp [RowKit.intOf]
    · obtain rfl : k = 5 := by omega
      have HhL := Lib.hid hL
      clear hL
      go_wp2_with fail
      refine (eachInt_any _ b _ HhL.out.tk.1 (fun w' hs => HE.out w' (HhL.out.tk.2.trans hs (fun _ f _ => f)))).mono ?_
      rintro e w5 ⟨kv, xs, rfl, hxs, hrow, htk⟩
      rw [List.map_id] at hxs
      subst hxs
      have hr5 := res_at HhL.out.res HhL.out.tk.blk (by decide) htk.2
      have hs5 := res_at HhL.out.own HhL.out.tk.blk (by decide) htk.2
      have HT5 : Hid (TK w b (eachR numR (run st 5)).2 w5) := Lib.hid ⟨htk.1, HhL.out.tk.2.trans htk.2 (fun _ f _ => f)⟩
      have HI5 : Hid (IntsR w.heap.size w5 (eachR numR (run st 5)).1 kv) := Lib.hid (ints_mono hrow HhL.out.tk.2.size)
      obtain ⟨A5, n5, c5, hkv⟩ : ∃ A n c, kv = .slice A n c := by obtain ⟨A, c, e, _⟩ := row_slice hrow.1; exact ⟨A, _, c, e⟩
      clear hrow htk
      subst hkv
      have z0 := blk_cell hr5 0
      have g0 := blk_free hr5 0
      have s0 := blk_cell hs5 0
      have z1 := blk_cell hr5 1
      have g1 := blk_free hr5 1
      have s1 := blk_cell hs5 1
      have z2 := blk_cell hr5 2
      have g2 := blk_free hr5 2
      have s2 := blk_cell hs5 2
      have z3 := blk_cell hr5 3
      have g3 := blk_free hr5 3
      have s3 := blk_cell hs5 3
      have z4 := blk_cell hr5 4
      have g4 := blk_free hr5 4
      have s4 := blk_cell hs5 4
      have z5 := blk_cell hr5 5
      have g5 := blk_free hr5 5
      have s5 := blk_cell hs5 5
      have gs := blk_free hs5 5
      simp [zero] at z0 z1 z2 z3 z4 z5
      simp [arr] at s0 s1 s2 s3 s4 s5
      obtain ⟨-, -, hne⟩ := HhL.out.rs
      have hne2 : ¬ s = r := fun e => hne e.symm
      have HO := Lib.hid (laid hr5 hs5 HT5.out HhL.out.rs HI5.out)
      clear hr5 hs5
      go_wp2
      generalize World.setCell (World.setCell (World.setCell (World.setCell (World.setCell (World.setCell (World.setCell w5 ⟨s, 5, none⟩ _) ⟨r, 0, none⟩ _) ⟨r, 1, none⟩ _) ⟨r, 2, none⟩ _) ⟨r, 3, none⟩ _) ⟨r, 4, none⟩ _) ⟨r, 5, none⟩ _ = W at *
      have r0 := blk_cell HO.out.1 0
      have r1 := blk_cell HO.out.1 1
      have r2 := blk_cell HO.out.1 2
      have r3 := blk_cell HO.out.1 3
      have r4 := blk_cell HO.out.1 4
      have r5 := blk_cell HO.out.1 5
      exact bodyPost_ret (by simp [results, Tryz.results86, go_sem, r0, r1, r2, r3, r4, r5]) rfl ⟨_, rfl, HO.out.2.2, HO.out.2.1⟩
end Go.Proofs.YtkamhpbfebdhjaaGreatDoor.TakeS

/- Steps and nodes, taken from a text. -/
namespace Go.Proofs.YtkamhpbfebdhjaaGreatDoor.EachS
open Go.RowKit Go.Lib Go.Proofs.YtkamhpbfebdhjaaGreatDoor.Mem Go.Proofs.YtkamhpbfebdhjaaGreatDoor.Read Go.Proofs.YtkamhpbfebdhjaaGreatDoor.Tree Go.Proofs.YtkamhpbfebdhjaaGreatDoor.Data Go.Proofs.YtkamhpbfebdhjaaGreatDoor.Env Go.Proofs.YtkamhpbfebdhjaaGreatDoor.Take Go.Proofs.YtkamhpbfebdhjaaGreatDoor.Taker Go.Proofs.YtkamhpbfebdhjaaGreatDoor.Pk Go.Proofs.YtkamhpbfebdhjaaGreatDoor.PkR Go.Proofs.YtkamhpbfebdhjaaGreatDoor.OwnR Go.Proofs.YtkamhpbfebdhjaaGreatDoor.Each Go.Proofs.YtkamhpbfebdhjaaGreatDoor.MsgR
open Go.Proofs.YtkamhpbfebdhjaaGreatDoor.Writer (EnvS)
open Go.Proofs.YtkamhpbfebdhjaaGreatDoor.TakeS (TS)
set_option linter.unusedVariables false
set_option linter.unusedSimpArgs false
abbrev TN : TypeId := 98
theorem infoS : (Tryz.prog.info? TS).map (fun i => (i.zero, i.size, i.bytes)) = some (some (.agg #[.int .i64 0, .int .i64 0, .int .i64 0, .int .i64 0, .int .i64 0, .slice none 0 0]), 6, 64) := by kernel_rfl
theorem infoN : (Tryz.prog.info? TN).map (fun i => (i.zero, i.size, i.bytes)) = some (some (.agg #[.int .i64 0, .int .i64 0, .int .i64 0, .int .i64 0, .slice none 0 0]), 5, 56) := by kernel_rfl
def encS (p : StepD × Value) : List Value := stepCells p.1 p.2
def encN (p : NodeD × Value) : List Value := nodeCells p.1 p.2
def subS (base : Nat) (w : World) (p : StepD × Value) : Prop := IntsR base w p.1.kids p.2
def subN (base : Nat) (w : World) (p : NodeD × Value) : Prop := IntsR base w p.1.kids p.2
theorem stabS (base : Nat) : Stable TsI base (subS base) := fun F w w' a h hs hF => RowO.step (stable_true (fun _ => True) base) h hs hF
theorem stabN (base : Nat) : Stable TsI base (subN base) := fun F w w' a h hs hF => RowO.step (stable_true (fun _ => True) base) h hs hF
abbrev StepsW (base : Nat) : World → List (StepD × Value) → Value → Prop := RowO TS 6 base encS (subS base)
abbrev NodesW (base : Nat) : World → List (NodeD × Value) → Value → Prop := RowO TN 5 base encN (subN base)
theorem ints_base {base base' : Nat} {w : World} {xs : List Int} {v : Value} (h : IntsR base w xs v) (hb : base' ≤ base) : IntsR base' w xs v := ⟨h.1, fun k hk => Nat.le_trans hb (h.2.1 k hk), h.2.2⟩
theorem ints_new {base : Nat} {w : World} {xs : List Int} {v : Value} (h : IntsR base w xs v) (o : Obj) : IntsR base (w.alloc o) xs v := RowO.step (stable_true (fun _ => True) base) h (Step.alloc (Step.refl No w) o) (Types.no _ _ _)
theorem ints_slice {base : Nat} {w : World} {xs : List Int} {v : Value} (h : IntsR base w xs v) : ∃ A n c, v = .slice A n c := by obtain ⟨A, c, e, _⟩ := row_slice h.1; exact ⟨A, _, c, e⟩
theorem tsI {t : TypeId} (h : t ≠ TI) : TsI t := ⟨h, trivial⟩

set_option maxHeartbeats 8000000 in
theorem eachStep_any (w : World) (b : Nat) (st0 : St) (h : TRep w b st0) (hE : EnvS (fun k => k = b) w) :
    Calls Tryz.prog 85 #[.pointer (some ⟨b, 0, none⟩), .func (.func 86) #[.pointer (some ⟨b, 0, none⟩)] #[]] w (EachPost w b takeS (fun p : StepD × Value => p.1) (StepsW w.heap.size) st0) := by
  have HT := Lib.hid (TK.start h)
  have HE := Lib.hid hE
  clear hE h
  go_enter Tryz.func85, Tryz.ntmps85
  go_wp2_with fail
  refine (Num_any _ b st0 HT.out.1 (HE.out _ HT.out.2)).mono ?_
  rintro e w1 hp
  obtain ⟨rfl, ht⟩ := HT.out.next hp
  have hsm := dig_small 44 st0
  obtain ⟨d, hd⟩ : ∃ d, digR 44 st0 = d := ⟨_, rfl⟩
  have HD := Lib.hid hd
  rw [hd] at ht hsm ⊢
  obtain ⟨dn, dst⟩ := d
  simp only at ht hsm ⊢
  obtain ⟨n, hn⟩ : ∃ n : Nat, dn = n := ⟨dn.toNat, by have := hsm.1; omega⟩
  subst hn
  have hn9 : n < 1000000000 := by have := hsm.2; omega
  have HN : Hid (eachR takeS st0 = eachN takeS n dst) := Lib.hid (by unfold eachR; rw [HD.out]; rfl)
  have H1 : Hid (ER w b takeS (fun p : StepD × Value => p.1) (StepsW w.heap.size) n dst 0 (.slice none 0 0) w1) := Lib.hid ⟨dst, [], Nat.zero_le _, rfl, by simp, RowO.nil _, ht⟩
  clear hp hd ht hsm
  go_wp2
  go_loopw [5, 7] (fun v i wr => ∃ k : Nat, i = .int .i64 k ∧ ER w b takeS (fun p : StepD × Value => p.1) (StepsW w.heap.size) n dst k v wr) (fun _ i _ => n - (RowKit.intOf i).toNat)
  case atStart => exact ⟨0, rfl, H1.out⟩
  case round =>
    obtain ⟨k, rfl, st, xs, hk, hxl, hev, hrow, ht⟩ := hrel
    have t1 : wr.cell? ⟨b, 1, none⟩ = some (.bool st.2) := blk_cell ht.blk 1
    obtain ⟨A, c, rfl, -, -⟩ := row_slice hrow.1
    by_cases hlt : k < n
    · have hk1 : (k : Int) < n := by omega
      cases hb : st.2 with
      | true =>
        rw [hb] at t1
        have HB := Lib.hid hb
        have Hhev := Lib.hid hev
        have Hhrow := Lib.hid hrow
        have Hht := Lib.hid ht
        have Hhxl := Lib.hid hxl
        have Hhb := Lib.hid hb
        clear hev hrow ht hxl hb
        go_wp2
        go_ret
        exact each_end HN.out Hhev.out Hhrow.out Hht.out (.inl HB.out)
      | false =>
        rw [hb] at t1
        have HB := Lib.hid hb
        have hxn : xs.length < 1000000000 := by omega
        have Hbase : Hid (w.heap.size ≤ wr.heap.size) := Lib.hid ht.2.size
        have Hhev := Lib.hid hev
        have Hhrow := Lib.hid hrow
        have Hht := Lib.hid ht
        have Hhxl := Lib.hid hxl
        have Hhb := Lib.hid hb
        clear hev hrow ht hxl hb
        go_wp2_with fail
        refine (TakeS.take_any _ b st Hht.out.1 (fun w' hs => HE.out w' (Hht.out.2.trans hs (fun _ f _ => f)))).mono ?_
        rintro e w2 hp
        obtain ⟨kv, rfl, hi, ht3⟩ := hp; obtain ⟨Ak, nk, ck, rfl⟩ := ints_slice hi; have hp2 := ht3.2; have ht2 : TK w b (takeS st).2 w2 := ⟨ht3.1, Hht.out.2.trans hp2 (fun _ f _ => f)⟩; have hx2 := ints_base hi Hbase.out; clear hi ht3
        have HR2 := Lib.hid (RowO.step (stabS _) Hhrow.out hp2 (taker_types Hht.out ⟨by decide, by decide, trivial⟩))
        have HB2 : Hid (w.heap.size ≤ w2.heap.size) := Lib.hid ht2.2.size
        have Hht2 := Lib.hid ht2
        have Hhx2 := Lib.hid hx2
        clear ht2 hx2
        clear hp2 t1
        go_wp2_with (at_builtin; go_loud (refine list_append_own _ rfl (.tmp 22) (.tmp 25) 37 TS _ 6 64 rfl Tryz.underlying37 infoS rfl (by decide) (.slice A xs.length c) xs.length (xs.flatMap encS) rfl (by exact HR2.out.1.alloc _) ⟨w2.heap.size, 0, none⟩ 1 1 [.int .i64 (TakeS.val st 0), .int .i64 (TakeS.val st 1), .int .i64 (TakeS.val st 2), .int .i64 (TakeS.val st 3), .int .i64 (TakeS.val st 4), .slice Ak nk ck] rfl rfl (by exact cells_new w2 #[.int .i64 (TakeS.val st 0), .int .i64 (TakeS.val st 1), .int .i64 (TakeS.val st 2), .int .i64 (TakeS.val st 3), .int .i64 (TakeS.val st 4), .slice Ak nk ck] TS) (by simp [Value.oneCell']) (by unfold maxLen; omega) (by omega) ?_; intro v5 w5 hown hg hat; have HT5 := Lib.hid (Hht2.out.grown HR2.out.1 (by decide) HR2.out.2.1 hg); have HR5 := Lib.hid (RowO.next (stabS _) (tsI (by decide)) (HR2.out.no (stabS _) (Step.alloc (Step.refl No w2) _)) (Nat.le_trans HB2.out (by simp)) (x := ((takeS st).1, .slice Ak nk ck)) (ints_new Hhx2.out _) hown hg hat); obtain ⟨A5, c5, rfl, -, -⟩ := row_slice hown; clear hown hg hat))
        go_roundw
        case rel => exact ⟨k + 1, rfl, each_next hlt Hhxl.out HB.out Hhev.out rfl HR5.out HT5.out⟩
        case measure => simp [RowKit.intOf]; omega
    · have he : n - k = 0 := by omega
      have HZ := Lib.hid he
      obtain rfl : k = n := by omega
      have Hhev := Lib.hid hev
      have Hhrow := Lib.hid hrow
      have Hht := Lib.hid ht
      have Hhxl := Lib.hid hxl
      clear hev hrow ht hxl
      clear he
      go_wp2
      go_ret
      exact each_end HN.out Hhev.out Hhrow.out Hht.out (.inr HZ.out)
set_option maxHeartbeats 8000000 in
theorem eachNode_any (w : World) (b : Nat) (st0 : St) (h : TRep w b st0) (hE : EnvS (fun k => k = b) w) :
    Calls Tryz.prog 63 #[.pointer (some ⟨b, 0, none⟩), .func (.func 64) #[.pointer (some ⟨b, 0, none⟩)] #[]] w (EachPost w b takeN (fun p : NodeD × Value => p.1) (NodesW w.heap.size) st0) := by
  have HT := Lib.hid (TK.start h)
  have HE := Lib.hid hE
  clear hE h
  go_enter Tryz.func63, Tryz.ntmps63
  go_wp2_with fail
  refine (Num_any _ b st0 HT.out.1 (HE.out _ HT.out.2)).mono ?_
  rintro e w1 hp
  obtain ⟨rfl, ht⟩ := HT.out.next hp
  have hsm := dig_small 44 st0
  obtain ⟨d, hd⟩ : ∃ d, digR 44 st0 = d := ⟨_, rfl⟩
  have HD := Lib.hid hd
  rw [hd] at ht hsm ⊢
  obtain ⟨dn, dst⟩ := d
  simp only at ht hsm ⊢
  obtain ⟨n, hn⟩ : ∃ n : Nat, dn = n := ⟨dn.toNat, by have := hsm.1; omega⟩
  subst hn
  have hn9 : n < 1000000000 := by have := hsm.2; omega
  have HN : Hid (eachR takeN st0 = eachN takeN n dst) := Lib.hid (by unfold eachR; rw [HD.out]; rfl)
  have H1 : Hid (ER w b takeN (fun p : NodeD × Value => p.1) (NodesW w.heap.size) n dst 0 (.slice none 0 0) w1) := Lib.hid ⟨dst, [], Nat.zero_le _, rfl, by simp, RowO.nil _, ht⟩
  clear hp hd ht hsm
  go_wp2
  go_loopw [5, 7] (fun v i wr => ∃ k : Nat, i = .int .i64 k ∧ ER w b takeN (fun p : NodeD × Value => p.1) (NodesW w.heap.size) n dst k v wr) (fun _ i _ => n - (RowKit.intOf i).toNat)
  case atStart => exact ⟨0, rfl, H1.out⟩
  case round =>
    obtain ⟨k, rfl, st, xs, hk, hxl, hev, hrow, ht⟩ := hrel
    have t1 : wr.cell? ⟨b, 1, none⟩ = some (.bool st.2) := blk_cell ht.blk 1
    obtain ⟨A, c, rfl, -, -⟩ := row_slice hrow.1
    by_cases hlt : k < n
    · have hk1 : (k : Int) < n := by omega
      cases hb : st.2 with
      | true =>
        rw [hb] at t1
        have HB := Lib.hid hb
        have Hhev := Lib.hid hev
        have Hhrow := Lib.hid hrow
        have Hht := Lib.hid ht
        have Hhxl := Lib.hid hxl
        have Hhb := Lib.hid hb
        clear hev hrow ht hxl hb
        go_wp2
        go_ret
        exact each_end HN.out Hhev.out Hhrow.out Hht.out (.inl HB.out)
      | false =>
        rw [hb] at t1
        have HB := Lib.hid hb
        have hxn : xs.length < 1000000000 := by omega
        have Hbase : Hid (w.heap.size ≤ wr.heap.size) := Lib.hid ht.2.size
        have Hhev := Lib.hid hev
        have Hhrow := Lib.hid hrow
        have Hht := Lib.hid ht
        have Hhxl := Lib.hid hxl
        have Hhb := Lib.hid hb
        clear hev hrow ht hxl hb
        go_wp2_with fail
        refine (TakeN.take_any _ b st Hht.out.1 (fun w' hs => HE.out w' (Hht.out.2.trans hs (fun _ f _ => f)))).mono ?_
        rintro e w2 hp
        obtain ⟨kv, rfl, hi, ht3⟩ := hp; obtain ⟨Ak, nk, ck, rfl⟩ := ints_slice hi; have hp2 := ht3.2; have ht2 : TK w b (takeN st).2 w2 := ⟨ht3.1, Hht.out.2.trans hp2 (fun _ f _ => f)⟩; have hx2 := ints_base hi Hbase.out; clear hi ht3
        have HR2 := Lib.hid (RowO.step (stabN _) Hhrow.out hp2 (taker_types Hht.out ⟨by decide, by decide, trivial⟩))
        have HB2 : Hid (w.heap.size ≤ w2.heap.size) := Lib.hid ht2.2.size
        have Hht2 := Lib.hid ht2
        have Hhx2 := Lib.hid hx2
        clear ht2 hx2
        clear hp2 t1
        go_wp2_with (at_builtin; go_loud (refine list_append_own _ rfl (.tmp 22) (.tmp 25) 23 TN _ 5 56 rfl Tryz.underlying23 infoN rfl (by decide) (.slice A xs.length c) xs.length (xs.flatMap encN) rfl (by exact HR2.out.1.alloc _) ⟨w2.heap.size, 0, none⟩ 1 1 [.int .i64 (TakeN.val st 0), .int .i64 (TakeN.val st 1), .int .i64 (TakeN.val st 2), .int .i64 (TakeN.val st 3), .slice Ak nk ck] rfl rfl (by exact cells_new w2 #[.int .i64 (TakeN.val st 0), .int .i64 (TakeN.val st 1), .int .i64 (TakeN.val st 2), .int .i64 (TakeN.val st 3), .slice Ak nk ck] TN) (by simp [Value.oneCell']) (by unfold maxLen; omega) (by omega) ?_; intro v5 w5 hown hg hat; have HT5 := Lib.hid (Hht2.out.grown HR2.out.1 (by decide) HR2.out.2.1 hg); have HR5 := Lib.hid (RowO.next (stabN _) (tsI (by decide)) (HR2.out.no (stabN _) (Step.alloc (Step.refl No w2) _)) (Nat.le_trans HB2.out (by simp)) (x := ((takeN st).1, .slice Ak nk ck)) (ints_new Hhx2.out _) hown hg hat); obtain ⟨A5, c5, rfl, -, -⟩ := row_slice hown; clear hown hg hat))
        go_roundw
        case rel => exact ⟨k + 1, rfl, each_next hlt Hhxl.out HB.out Hhev.out rfl HR5.out HT5.out⟩
        case measure => simp [RowKit.intOf]; omega
    · have he : n - k = 0 := by omega
      have HZ := Lib.hid he
      obtain rfl : k = n := by omega
      have Hhev := Lib.hid hev
      have Hhrow := Lib.hid hrow
      have Hht := Lib.hid ht
      have Hhxl := Lib.hid hxl
      clear hev hrow ht hxl
      clear he
      go_wp2
      go_ret
      exact each_end HN.out Hhev.out Hhrow.out Hht.out (.inr HZ.out)
end Go.Proofs.YtkamhpbfebdhjaaGreatDoor.EachS

/- An entry, taken from a text. -/
namespace Go.Proofs.YtkamhpbfebdhjaaGreatDoor.TakeE
open Go.RowKit Go.Lib Go.Proofs.YtkamhpbfebdhjaaGreatDoor.Mem Go.Proofs.YtkamhpbfebdhjaaGreatDoor.Read Go.Proofs.YtkamhpbfebdhjaaGreatDoor.Tree Go.Proofs.YtkamhpbfebdhjaaGreatDoor.Data Go.Proofs.YtkamhpbfebdhjaaGreatDoor.Env Go.Proofs.YtkamhpbfebdhjaaGreatDoor.Take Go.Proofs.YtkamhpbfebdhjaaGreatDoor.Taker Go.Proofs.YtkamhpbfebdhjaaGreatDoor.Pk Go.Proofs.YtkamhpbfebdhjaaGreatDoor.PkR Go.Proofs.YtkamhpbfebdhjaaGreatDoor.OwnR Go.Proofs.YtkamhpbfebdhjaaGreatDoor.Each Go.Proofs.YtkamhpbfebdhjaaGreatDoor.EachS Go.Proofs.YtkamhpbfebdhjaaGreatDoor.MsgR Go.Proofs.YtkamhpbfebdhjaaGreatDoor.CompR
open Go.Proofs.YtkamhpbfebdhjaaGreatDoor.Writer (EnvS)
open Go.Proofs.YtkamhpbfebdhjaaGreatDoor.TakeS (TS)
set_option linter.unusedVariables false
set_option linter.unusedSimpArgs false
abbrev TE : TypeId := 39
/-- Cells laid one behind the other. -/
def sets (w : World) (r : Nat) : Nat → List Value → World
  | _, [] => w
  | i, v :: vs => sets (w.setCell ⟨r, i, none⟩ v) r (i + 1) vs
theorem sets_blk {r : Nat} {T : TypeId} : ∀ (vs pre old : List Value) (w : World), w.heap[r]? = some (.cells ⟨pre ++ old⟩ T (0, 0)) → old.length = vs.length → (sets w r pre.length vs).heap[r]? = some (.cells ⟨pre ++ vs⟩ T (0, 0))
  | [], pre, old, w, h, hl => by
      obtain rfl : old = [] := List.length_eq_zero_iff.1 hl
      exact h
  | v :: vs, pre, [], w, h, hl => by simp at hl
  | v :: vs, pre, o :: old, w, h, hl => by
      have h1 := blk_set h pre.length v
      have e : (⟨pre ++ o :: old⟩ : Array Value).setIfInBounds pre.length v = ⟨(pre ++ [v]) ++ old⟩ := by simp
      rw [e] at h1
      have h2 := sets_blk vs (pre ++ [v]) old _ h1 (by simpa using hl)
      simpa [sets] using h2
theorem sets_step (r : Nat) : ∀ (vs : List Value) (w : World) (i : Nat), Step (fun k => k = r) w (sets w r i vs)
  | [], w, i => Step.refl _ w
  | v :: vs, w, i => by
      have h1 : Step (fun k => k = r) w (w.setCell ⟨r, i, none⟩ v) := by refine set_at (Step.refl _ _) ?_ _ <;> rfl
      exact h1.trans (sets_step r vs _ (i + 1)) (fun _ f _ => f)
/-- A struct under way: its result's place, its own, and the taker. -/
structure EB (T : TypeId) (z : Array Value) (w : World) (b r s : Nat) (cs : Array Value) (st : St) (wr : World) : Prop where
  res : wr.heap[r]? = some (.cells z T (0, 0))
  own : wr.heap[s]? = some (.cells cs T (0, 0))
  tk : TK w b st wr
  rs : w.heap.size ≤ r ∧ w.heap.size ≤ s ∧ r ≠ s
section
variable {T : TypeId} {z : Array Value} {w wr w2 : World} {b r s : Nat} {cs : Array Value} {st st' : St}
theorem EB.next (hT : T ≠ TT) (h : EB T z w b r s cs st wr) (ht : TK wr b st' w2) : EB T z w b r s cs st' w2 := ⟨res_at h.res h.tk.blk hT ht.2, res_at h.own h.tk.blk hT ht.2, ⟨ht.1, h.tk.2.trans ht.2 (fun _ f _ => f)⟩, h.rs⟩
theorem EB.store (hT : T ≠ TT) (h : EB T z w b r s cs st wr) (i : Nat) (v : Value) : EB T z w b r s (cs.setIfInBounds i v) st (wr.setCell ⟨s, i, none⟩ v) := ⟨blk_set_other h.res (fun e => h.rs.2.2 e.symm) _, blk_set h.own i v, tk_store h.tk h.own hT h.rs.2.1 i v, h.rs⟩
theorem EB.born (hT : T ≠ TT) (hr : wr.heap[r]? = some (.cells z T (0, 0))) (ht : TK w b st wr) (hle : w.heap.size ≤ r) : EB T z w b r wr.heap.size cs st (wr.alloc (.cells cs T)) :=
  ⟨blk_alloc hr _, blk_new _ _, ht.no (Step.alloc (Step.refl _ _) _), hle, ht.2.size, Nat.ne_of_lt (blk_lt hr)⟩
theorem EB.types (h : EB T z w b r s cs st wr) {Ts : TypeId → Prop} {base : Nat} (hT : Ts T) : Types Ts base wr (fun k => k = s) := Types.at h.own hT
/-- The result laid. -/
theorem EB.done (hT : T ≠ TT) (h : EB T z w b r s cs st wr) (vs : List Value) (hl : z.size = vs.length) : (sets wr r 0 vs).heap[r]? = some (.cells ⟨vs⟩ T (0, 0)) ∧ TK w b st (sets wr r 0 vs) ∧ Step (fun k => k = r) wr (sets wr r 0 vs) := by
  have hs := sets_step r vs wr 0
  refine ⟨?_, ⟨h.tk.1.step hs (blk_ne h.tk.blk h.res (fun e => hT e.symm)), h.tk.2.trans hs (fun k f hk => absurd f (by have := h.rs.1; omega))⟩, hs⟩
  have := sets_blk vs [] z.toList wr (by simpa using h.res) (by simpa using hl)
  simpa using this
end
theorem comps_slice {base : Nat} {w : World} {xs : List CompD} {v : Value} (h : CompsW base w xs v) : ∃ A n c, v = .slice A n c := by obtain ⟨A, c, e, _⟩ := row_slice h.1; exact ⟨A, _, c, e⟩
theorem steps_slice {base : Nat} {w : World} {xs : List (StepD × Value)} {v : Value} (h : StepsW base w xs v) : ∃ A n c, v = .slice A n c := by obtain ⟨A, c, e, _⟩ := row_slice h.1; exact ⟨A, _, c, e⟩
theorem comps_base {base base' : Nat} {w : World} {xs : List CompD} {v : Value} (h : CompsW base w xs v) (hb : base' ≤ base) : CompsW base' w xs v := ⟨h.1, fun k hk => Nat.le_trans hb (h.2.1 k hk), h.2.2⟩
theorem steps_base {base base' : Nat} {w : World} {xs : List (StepD × Value)} {v : Value} (h : StepsW base w xs v) (hb : base' ≤ base) : StepsW base' w xs v := ⟨h.1, fun k hk => Nat.le_trans hb (h.2.1 k hk), fun a ha => ints_base (h.2.2 a ha) hb⟩
theorem comps_go {base : Nat} {F : Nat → Prop} {w w' : World} {xs : List CompD} {v : Value} (h : CompsW base w xs v) (hs : Step F w w') (hF : Types (fun t => t ≠ TC) base w F) : CompsW base w' xs v := RowO.step (stabC base) h hs (hF.mono fun _ h => ⟨h, trivial⟩)
theorem steps_go {base : Nat} {F : Nat → Prop} {w w' : World} {xs : List (StepD × Value)} {v : Value} (h : StepsW base w xs v) (hs : Step F w w') (hF : Types (fun t => t ≠ TS ∧ t ≠ TI) base w F) : StepsW base w' xs v := RowO.step (stabS base) h hs (hF.mono fun _ h => ⟨h.1, h.2, trivial⟩)
def subE (base : Nat) (w : World) (p : EntryD × Value × Value) : Prop := CompsW base w p.1.edit p.2.1 ∧ ∃ ss : List (StepD × Value), ss.map (·.1) = p.1.delta ∧ StepsW base w ss p.2.2
def TsE (t : TypeId) : Prop := t ≠ TC ∧ t ≠ TS ∧ t ≠ TI
theorem stabE (base : Nat) : Stable TsE base (subE base) := fun F w w' a h hs hF => by
  obtain ⟨h1, ss, h2, h3⟩ := h
  exact ⟨comps_go h1 hs (hF.mono fun _ h => h.1), ss, h2, steps_go h3 hs (hF.mono fun _ h => h.2)⟩
theorem subE.base {base base' : Nat} {w : World} {p : EntryD × Value × Value} (h : subE base w p) (hb : base' ≤ base) : subE base' w p := by
  obtain ⟨h1, ss, h2, h3⟩ := h
  exact ⟨comps_base h1 hb, ss, h2, steps_base h3 hb⟩
def EntryPost (w : World) (b : Nat) (st : St) (e : Ending) (w' : World) : Prop := ∃ ev dv, e = .returned (.agg #[.int .i64 (digR 44 st).1, .int .i64 (digR 44 (digR 44 st).2).1, ev, dv]) ∧ subE w.heap.size w' ((takeE st).1, ev, dv) ∧ TK w b (takeE st).2 w'
def eZ : Array Value := #[.int .i64 0, .int .i64 0, .slice none 0 0, .slice none 0 0]
theorem tE : TE ≠ TT := by decide
set_option maxHeartbeats 4000000 in
theorem entry_any (w : World) (b : Nat) (st : St) (h : TRep w b st) (hE : EnvS (fun k => k = b) w) : Calls Tryz.prog 61 #[.pointer (some ⟨b, 0, none⟩)] w (EntryPost w b st) := by
  have hs1 : Step No w (w.alloc (.cells eZ TE)) := Step.alloc (Step.refl _ _) _
  have HT := Lib.hid ((TK.start h).no hs1)
  have HR1 : Hid ((w.alloc (.cells eZ TE)).heap[w.heap.size]? = some (.cells eZ TE (0, 0))) := Lib.hid (blk_new _ _)
  have HE := Lib.hid hE
  clear hE h hs1
  simp only [eZ] at HT HR1
  go_enter Tryz.func61, Tryz.ntmps61
  go_wp2_with fail
  generalize hW : World.alloc w _ = w1 at *
  clear hW
  have HL : Hid (w.heap.size ≤ w.heap.size) := Lib.hid (Nat.le_refl _)
  generalize hr : w.heap.size = r at *
  have HRz := Lib.hid hr
  clear hr
  refine (Num_any _ b st HT.out.1 (HE.out _ HT.out.2)).mono ?_
  rintro e w2 hp
  obtain ⟨rfl, ht2⟩ := HT.out.next hp
  have HB := Lib.hid (EB.born (cs := #[.int .i64 (digR 44 st).1, .int .i64 0, .slice none 0 0, .slice none 0 0]) tE (res_at HR1.out HT.out.blk (by decide) hp.2.2) ht2 (by rw [HRz.out]; exact Nat.le_refl _))
  clear hp ht2
  go_wp2_with fail
  generalize hW : World.alloc w2 _ = w3 at *
  generalize hs : w2.heap.size = s at *
  clear hW hs
  refine (Num_any _ b _ HB.out.tk.1 (HE.out _ HB.out.tk.2)).mono ?_
  rintro e w4 hp
  obtain ⟨rfl, ht4⟩ := (TK.start HB.out.tk.1).next hp
  have HB4 := Lib.hid (HB.out.next tE ht4)
  have HB5 := Lib.hid (HB4.out.store tE 1 (.int .i64 (digR 44 (digR 44 st).2).1))
  have d1 := blk_cell HB4.out.own 1
  have f1 := blk_free HB4.out.own 1
  simp at d1 HB5
  clear hp ht4 HB HB4
  go_wp2_with fail
  generalize hW : World.setCell w4 _ _ = w5 at *
  clear hW
  refine (eachComp_any _ b _ HB5.out.tk.1 (fun w' hs => HE.out w' (HB5.out.tk.2.trans hs (fun _ f _ => f)))).mono ?_
  rintro e w6 ⟨ev, xs, rfl, hxs, hrow, ht6⟩
  rw [List.map_id] at hxs
  subst hxs
  have HB6 := Lib.hid (HB5.out.next tE ht6)
  have HC6 := Lib.hid (comps_base hrow HB5.out.tk.2.size)
  obtain ⟨A6, n6, c6, rfl⟩ := comps_slice hrow
  have HB7 := Lib.hid (HB6.out.store tE 2 (.slice A6 n6 c6))
  have HC7 := Lib.hid (comps_go HC6.out (w' := w6.setCell ⟨s, 2, none⟩ (.slice A6 n6 c6)) (F := fun k => k = s) (by refine set_at (Step.refl _ _) ?_ _ <;> rfl) (HB6.out.types (by decide)))
  have d2 := blk_cell HB6.out.own 2
  have f2 := blk_free HB6.out.own 2
  simp at d2 HB7
  clear hrow ht6 HB5 HB6 HC6
  go_wp2_with fail
  generalize hW : World.setCell w6 _ _ = w7 at *
  clear hW
  refine (eachStep_any _ b _ HB7.out.tk.1 (fun w' hs => HE.out w' (HB7.out.tk.2.trans hs (fun _ f _ => f)))).mono ?_
  rintro e w8 ⟨dv, ss, rfl, hss, hrow, ht8⟩
  have HB8 := Lib.hid (HB7.out.next tE ht8)
  have HC8 := Lib.hid (comps_go HC7.out ht8.2 (taker_types HB7.out.tk (by decide)))
  have HS8 := Lib.hid (steps_base hrow HB7.out.tk.2.size)
  have HSS := Lib.hid hss
  obtain ⟨A8, n8, c8, rfl⟩ := steps_slice hrow
  have hs9 : Step (fun k => k = s) w8 (w8.setCell ⟨s, 3, none⟩ (.slice A8 n8 c8)) := by refine set_at (Step.refl _ _) ?_ _ <;> rfl
  have HB9 := Lib.hid (HB8.out.store tE 3 (.slice A8 n8 c8))
  have HC9 := Lib.hid (comps_go HC8.out hs9 (HB8.out.types (by decide)))
  have HS9 := Lib.hid (steps_go HS8.out hs9 (HB8.out.types (by decide)))
  simp at HB9
  have HD := Lib.hid (HB9.out.done tE [.int .i64 (digR 44 st).1, .int .i64 (digR 44 (digR 44 st).2).1, .slice A6 n6 c6, .slice A8 n8 c8] rfl)
  have HC := Lib.hid (comps_go HC9.out HD.out.2.2 (Types.at HB9.out.res (by decide)))
  have HS := Lib.hid (steps_go HS9.out HD.out.2.2 (Types.at HB9.out.res (by decide)))
  have d3 := blk_cell HB8.out.own 3
  have f3 := blk_free HB8.out.own 3
  have g0 := blk_cell HB9.out.own 0
  have g1 := blk_cell HB9.out.own 1
  have g2 := blk_cell HB9.out.own 2
  have g3 := blk_cell HB9.out.own 3
  have k0 := blk_cell HB9.out.res 0
  have k1 := blk_cell HB9.out.res 1
  have k2 := blk_cell HB9.out.res 2
  have k3 := blk_cell HB9.out.res 3
  have y0 := blk_free HB9.out.res 0
  have y1 := blk_free HB9.out.res 1
  have y2 := blk_free HB9.out.res 2
  have y3 := blk_free HB9.out.res 3
  simp at d3 g0 g1 g2 g3 k0 k1 k2 k3
  obtain ⟨-, -, hne⟩ := HB9.out.rs
  have hne2 : ¬ s = r := fun e => hne e.symm
  simp only [sets, Nat.reduceAdd] at HD HC HS
  clear hrow ht8 hss hs9 HB7 HB8 HC7 HC8 HS8 HC9 HS9
  go_wp2
  generalize World.setCell (World.setCell (World.setCell (World.setCell (World.setCell w8 _ _) ⟨r, 0, none⟩ _) ⟨r, 1, none⟩ _) ⟨r, 2, none⟩ _) ⟨r, 3, none⟩ _ = W at *
  have r0 := blk_cell HD.out.1 0
  have r1 := blk_cell HD.out.1 1
  have r2 := blk_cell HD.out.1 2
  have r3 := blk_cell HD.out.1 3
  simp at r0 r1 r2 r3
  exact bodyPost_ret (by simp [results, Tryz.results61, go_sem, r0, r1, r2, r3]) rfl ⟨_, _, rfl, ⟨HC.out, ss, HSS.out, HS.out⟩, HD.out.2.1⟩
theorem infoE : (Tryz.prog.info? TE).map (fun i => (i.zero, i.size, i.bytes)) = some (some (.agg #[.int .i64 0, .int .i64 0, .slice none 0 0, .slice none 0 0]), 4, 64) := by kernel_rfl
def encE (p : EntryD × Value × Value) : List Value := entryCells p.1 p.2.1 p.2.2
abbrev EntriesW (base : Nat) : World → List (EntryD × Value × Value) → Value → Prop := RowO TE 4 base encE (subE base)
theorem sub_slices {base : Nat} {w : World} {p : EntryD} {ev dv : Value} (h : subE base w (p, ev, dv)) : ∃ A n c B m d, ev = .slice A n c ∧ dv = .slice B m d := by
  obtain ⟨h1, ss, _, h2⟩ := h
  obtain ⟨A, n, c, e⟩ := comps_slice h1
  obtain ⟨B, m, d, e2⟩ := steps_slice h2
  exact ⟨A, n, c, B, m, d, e, e2⟩
theorem subE_new {base : Nat} {w : World} {p : EntryD × Value × Value} (h : subE base w p) (o : Obj) : subE base (w.alloc o) p := stabE base No _ _ _ h (Step.alloc (Step.refl No w) o) (Types.no _ _ _)

set_option maxHeartbeats 8000000 in
theorem eachEntry_any (w : World) (b : Nat) (st0 : St) (h : TRep w b st0) (hE : EnvS (fun k => k = b) w) :
    Calls Tryz.prog 60 #[.pointer (some ⟨b, 0, none⟩), .func (.func 61) #[.pointer (some ⟨b, 0, none⟩)] #[]] w (EachPost w b takeE (fun p : EntryD × Value × Value => p.1) (EntriesW w.heap.size) st0) := by
  have HT := Lib.hid (TK.start h)
  have HE := Lib.hid hE
  clear hE h
  go_enter Tryz.func60, Tryz.ntmps60
  go_wp2_with fail
  refine (Num_any _ b st0 HT.out.1 (HE.out _ HT.out.2)).mono ?_
  rintro e w1 hp
  obtain ⟨rfl, ht⟩ := HT.out.next hp
  have hsm := dig_small 44 st0
  obtain ⟨d, hd⟩ : ∃ d, digR 44 st0 = d := ⟨_, rfl⟩
  have HD := Lib.hid hd
  rw [hd] at ht hsm ⊢
  obtain ⟨dn, dst⟩ := d
  simp only at ht hsm ⊢
  obtain ⟨n, hn⟩ : ∃ n : Nat, dn = n := ⟨dn.toNat, by have := hsm.1; omega⟩
  subst hn
  have hn9 : n < 1000000000 := by have := hsm.2; omega
  have HN : Hid (eachR takeE st0 = eachN takeE n dst) := Lib.hid (by unfold eachR; rw [HD.out]; rfl)
  have H1 : Hid (ER w b takeE (fun p : EntryD × Value × Value => p.1) (EntriesW w.heap.size) n dst 0 (.slice none 0 0) w1) := Lib.hid ⟨dst, [], Nat.zero_le _, rfl, by simp, RowO.nil _, ht⟩
  clear hp hd ht hsm
  go_wp2
  go_loopw [5, 7] (fun v i wr => ∃ k : Nat, i = .int .i64 k ∧ ER w b takeE (fun p : EntryD × Value × Value => p.1) (EntriesW w.heap.size) n dst k v wr) (fun _ i _ => n - (RowKit.intOf i).toNat)
  case atStart => exact ⟨0, rfl, H1.out⟩
  case round =>
    obtain ⟨k, rfl, st, xs, hk, hxl, hev, hrow, ht⟩ := hrel
    have t1 : wr.cell? ⟨b, 1, none⟩ = some (.bool st.2) := blk_cell ht.blk 1
    obtain ⟨A, c, rfl, -, -⟩ := row_slice hrow.1
    by_cases hlt : k < n
    · have hk1 : (k : Int) < n := by omega
      cases hb : st.2 with
      | true =>
        rw [hb] at t1
        have HB := Lib.hid hb
        have Hhev := Lib.hid hev
        have Hhrow := Lib.hid hrow
        have Hht := Lib.hid ht
        have Hhxl := Lib.hid hxl
        have Hhb := Lib.hid hb
        clear hev hrow ht hxl hb
        go_wp2
        go_ret
        exact each_end HN.out Hhev.out Hhrow.out Hht.out (.inl HB.out)
      | false =>
        rw [hb] at t1
        have HB := Lib.hid hb
        have hxn : xs.length < 1000000000 := by omega
        have Hbase : Hid (w.heap.size ≤ wr.heap.size) := Lib.hid ht.2.size
        have Hhev := Lib.hid hev
        have Hhrow := Lib.hid hrow
        have Hht := Lib.hid ht
        have Hhxl := Lib.hid hxl
        have Hhb := Lib.hid hb
        clear hev hrow ht hxl hb
        go_wp2_with fail
        refine (entry_any _ b st Hht.out.1 (fun w' hs => HE.out w' (Hht.out.2.trans hs (fun _ f _ => f)))).mono ?_
        rintro e w2 hp
        obtain ⟨ev, dv, rfl, hi, ht3⟩ := hp; obtain ⟨Ae, ne, ce, Ad, nd, cd, rfl, rfl⟩ := sub_slices hi; have hp2 := ht3.2; have ht2 : TK w b (takeE st).2 w2 := ⟨ht3.1, Hht.out.2.trans hp2 (fun _ f _ => f)⟩; have hx2 := hi.base Hbase.out; clear hi ht3
        have HR2 := Lib.hid (RowO.step (stabE _) Hhrow.out hp2 (taker_types Hht.out ⟨by decide, by decide, by decide, by decide⟩))
        have HB2 : Hid (w.heap.size ≤ w2.heap.size) := Lib.hid ht2.2.size
        have Hht2 := Lib.hid ht2
        have Hhx2 := Lib.hid hx2
        clear ht2 hx2
        clear hp2 t1
        go_wp2_with (at_builtin; go_loud (refine list_append_own _ rfl (.tmp 22) (.tmp 25) 31 TE _ 4 64 rfl Tryz.underlying31 infoE rfl (by decide) (.slice A xs.length c) xs.length (xs.flatMap encE) rfl (by exact HR2.out.1.alloc _) ⟨w2.heap.size, 0, none⟩ 1 1 [.int .i64 (digR 44 st).1, .int .i64 (digR 44 (digR 44 st).2).1, .slice Ae ne ce, .slice Ad nd cd] rfl rfl (by exact cells_new w2 #[.int .i64 (digR 44 st).1, .int .i64 (digR 44 (digR 44 st).2).1, .slice Ae ne ce, .slice Ad nd cd] TE) (by simp [Value.oneCell']) (by unfold maxLen; omega) (by omega) ?_; intro v5 w5 hown hg hat; have HT5 := Lib.hid (Hht2.out.grown HR2.out.1 (by decide) HR2.out.2.1 hg); have HR5 := Lib.hid (RowO.next (stabE _) ⟨by decide, by decide, by decide⟩ (HR2.out.no (stabE _) (Step.alloc (Step.refl No w2) _)) (Nat.le_trans HB2.out (by simp)) (x := ((takeE st).1, .slice Ae ne ce, .slice Ad nd cd)) (subE_new Hhx2.out _) hown hg hat); obtain ⟨A5, c5, rfl, -, -⟩ := row_slice hown; clear hown hg hat))
        go_roundw
        case rel => exact ⟨k + 1, rfl, each_next hlt Hhxl.out HB.out Hhev.out rfl HR5.out HT5.out⟩
        case measure => simp [RowKit.intOf]; omega
    · have he : n - k = 0 := by omega
      have HZ := Lib.hid he
      obtain rfl : k = n := by omega
      have Hhev := Lib.hid hev
      have Hhrow := Lib.hid hrow
      have Hht := Lib.hid ht
      have Hhxl := Lib.hid hxl
      clear hev hrow ht hxl
      clear he
      go_wp2
      go_ret
      exact each_end HN.out Hhev.out Hhrow.out Hht.out (.inr HZ.out)
end Go.Proofs.YtkamhpbfebdhjaaGreatDoor.TakeE
