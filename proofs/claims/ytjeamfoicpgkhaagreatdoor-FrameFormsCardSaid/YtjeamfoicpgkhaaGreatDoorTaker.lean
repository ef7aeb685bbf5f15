/- A taker of packed texts: what its methods take. -/
import Derived.Test.YtjeamfoicpgkhaaGreatDoorLumpB
namespace Go.Proofs.YtjeamfoicpgkhaaGreatDoor.Taker
open Go.RowKit Go.Lib Go.Proofs.YtjeamfoicpgkhaaGreatDoor.Mem Go.Proofs.YtjeamfoicpgkhaaGreatDoor.Dec Go.Proofs.YtjeamfoicpgkhaaGreatDoor.Take Go.Proofs.YtjeamfoicpgkhaaGreatDoor.Cut Go.Proofs.YtjeamfoicpgkhaaGreatDoor.Env
set_option linter.unusedVariables false
set_option linter.unusedSimpArgs false
abbrev TT : TypeId := 91
/-- A taker in block b stands at st. -/
def TRep (w : World) (b : Nat) (st : St) : Prop :=
  w.heap[b]? = some (.cells #[.string ⟨st.1.toArray⟩, .bool st.2] TT (0, 0)) ∧ st.1.length ≤ 140737488355328
def TPost (w : World) (b : Nat) (v : Value) (st : St) (e : Ending) (w' : World) : Prop :=
  e = .returned v ∧ TRep w' b st ∧ Step (fun k => k = b) w w'
theorem TRep.step {F : Nat → Prop} {w w' : World} {b : Nat} {st : St} (h : TRep w b st) (hs : Step F w w') (hF : ¬ F b) : TRep w' b st := ⟨hs.blk h.1 hF, h.2⟩
theorem t_cells {w : World} {b : Nat} {l : List UInt8} {x : Bool} (h : w.heap[b]? = some (.cells #[.string ⟨l.toArray⟩, .bool x] TT (0, 0))) :
    w.cell? ⟨b, 0, none⟩ = some (.string ⟨l.toArray⟩) ∧ w.cell? ⟨b, 1, none⟩ = some (.bool x) ∧ w.frozen? ⟨b, 0, none⟩ = false ∧ w.frozen? ⟨b, 1, none⟩ = false :=
  ⟨by rw [blk_cell h]; rfl, by rw [blk_cell h]; rfl, blk_free h 0, blk_free h 1⟩
theorem t_bad {w w1 : World} {b : Nat} {l : List UInt8} {x : Bool} (h : w.heap[b]? = some (.cells #[.string ⟨l.toArray⟩, .bool x] TT (0, 0))) (hl : l.length ≤ 140737488355328) (hs : Step No w w1) {v : Value} :
    TPost w b v (l, true) (.returned v) (w1.setCell ⟨b, 1, none⟩ (.bool true)) :=
  ⟨rfl, ⟨blk_set (hs.blk h (fun f => f)) 1 _, hl⟩, Step.setCell (F := fun k => k = b) (hs.mono (fun _ _ f => f.elim)) (p := ⟨b, 1, none⟩) (fun _ => rfl) _⟩
theorem cut_len {e : UInt8} : ∀ {l p q : List UInt8}, cutAt e l = some (p, q) → p.length + 1 + q.length = l.length
  | [], p, q, h => by simp [cutAt] at h
  | b :: l, p, q, h => by
    simp only [cutAt] at h
    split at h
    · simp only [Option.some.injEq, Prod.mk.injEq] at h
      obtain ⟨rfl, rfl⟩ := h
      simp
      omega
    · rw [Option.map_eq_some_iff] at h
      obtain ⟨⟨p', q'⟩, h1, h2⟩ := h
      simp only [Prod.mk.injEq] at h2
      obtain ⟨rfl, rfl⟩ := h2
      have := cut_len h1
      simp
      omega
theorem t_size (l : List UInt8) : (⟨l.toArray⟩ : ByteArray).size = l.length := by
  show l.toArray.size = _
  simp
def AtoiPost (s : ByteArray) (w : World) (r : Ending) (w' : World) : Prop :=
  Step No w w' ∧ ((∃ v, atoiAll s.data.toList = .ok v ∧ r = .returned (.tuple #[.int .i64 v, .nilIface])) ∨ ((∀ v, atoiAll s.data.toList ≠ .ok v) ∧ ∃ n t a, r = .returned (.tuple #[.int .i64 n, .iface t a])))
theorem Atoi_any (s : ByteArray) (hs : s.size ≤ 140737488355328) (w : World) (hE : Env w) : Calls Tryz.prog 122 #[.string s] w (AtoiPost s w) := by
  obtain ⟨-, ⟨t1, p1, h1⟩, t2, p2, h2⟩ := hE
  cases ha : atoiAll s.data.toList with
  | ok v =>
    refine (Tryz.strconv_Atoi_ok s (by omega) v ha w).mono ?_
    rintro r w' ⟨rfl, hw⟩
    refine ⟨?_, .inl ⟨v, ha, rfl⟩⟩
    rcases hw with rfl | ⟨t, rfl⟩
    · exact Step.refl _ _
    · exact Step.ofBelow ⟨rfl, rfl, rfl, by rw [Lib.bytesWorld_size]; omega, fun k hk => Lib.bytesWorld_at_old w _ t k hk⟩
  | «syntax» =>
    refine (Tryz.strconv_Atoi_syntax_var s (by omega) ha t1 p1 w h1).mono ?_
    rintro r w' ⟨N, rfl, _, _, hb⟩
    exact ⟨Step.ofBelow hb, .inr ⟨(fun v hv => by rw [ha] at hv; cases hv), _, _, _, rfl⟩⟩
  | range =>
    refine (Tryz.strconv_Atoi_range_var s (by omega) ha t2 p2 w h2).mono ?_
    rintro r w' ⟨N, rfl, _, _, hb⟩
    exact ⟨Step.ofBelow hb, .inr ⟨(fun v hv => by rw [ha] at hv; cases hv), _, _, _, rfl⟩⟩
set_option maxHeartbeats 4000000 in
set_option maxRecDepth 100000 in
theorem Digits_any (w : World) (b : Nat) (e : UInt8) (st : St) (h : TRep w b st) (hE : Env w) :
    Calls Tryz.prog 80 #[.pointer (some ⟨b, 0, none⟩), .string ⟨#[e]⟩] w (TPost w b (.int .i64 (digR e st).1) (digR e st).2) := by
  obtain ⟨l, x⟩ := st
  obtain ⟨hb, hl⟩ := h
  simp only at hb hl
  obtain ⟨c0, c1, f0, f1⟩ := t_cells hb
  obtain ⟨-, ⟨t1, p1, -⟩, t2, p2, -⟩ := id hE
  have HB := Lib.hid hb
  have HE := Lib.hid hE
  clear hb hE
  cases hc : cutAt e l with
  | none =>
    have hd : digR e (l, x) = (0, l, true) := by unfold digR; simp only [hc]
    rw [hd]
    have Hhd := Lib.hid hd
    have Hhc := Lib.hid hc
    clear hd hc
    go_enter Tryz.func80, Tryz.ntmps80
    go_wp2_with fail
    refine (Cut_any _ e _ (by rw [t_size]; simp only [maxLen]; omega)).mono ?_
    rintro r w1 ⟨hs, hr⟩
    have hr : r = .returned (.tuple #[.string ⟨l.toArray⟩, .string ⟨#[]⟩, .bool false]) := by
      rcases hr with ⟨p, q, h1, _⟩ | ⟨_, h2⟩
      · rw [Hhc.out] at h1
        cases h1
      · exact h2
    subst hr
    have Hhs := Lib.hid hs
    clear hs
    go_wp2_with fail
    refine (Atoi_any _ (by rw [t_size]; exact hl) _ (HE.out.step Hhs.out)).mono ?_
    rintro r w2 ⟨hs2, hr⟩
    have hs := Hhs.out.trans hs2 (fun _ f _ => f)
    have d0 := hs.cell c0 (fun f => f)
    have d1 := hs.cell c1 (fun f => f)
    have g1 : w2.frozen? ⟨b, 1, none⟩ = false := blk_free (hs.blk HB.out (fun f => f)) 1
    clear Hhs hs2
    have Hhs := Lib.hid hs
    clear hs
    rcases hr with ⟨v, -, rfl⟩ | ⟨-, n, t, a, rfl⟩
    · cases x
      · go_wp2
        go_ret
        exact t_bad HB.out hl Hhs.out
      · go_wp2
        go_ret
        exact t_bad HB.out hl Hhs.out
    · cases x
      · go_wp2
        go_ret
        exact t_bad HB.out hl Hhs.out
      · go_wp2
        go_ret
        exact t_bad HB.out hl Hhs.out
  | some pq =>
    obtain ⟨p, q⟩ := pq
    have hlen := cut_len hc
    have hp : p.length ≤ 140737488355328 := by omega
    by_cases hx : x = true
    · subst hx
      have hd : digR e (l, true) = (0, l, true) := by
        unfold digR
        simp only [hc]
        cases atoiAll p <;> simp
      rw [hd]
      have Hhd := Lib.hid hd
      have Hhc := Lib.hid hc
      clear hd hc
      go_enter Tryz.func80, Tryz.ntmps80
      go_wp2_with fail
      refine (Cut_any _ e _ (by rw [t_size]; simp only [maxLen]; omega)).mono ?_
      rintro r1 w1 ⟨hs, hr⟩
      have hr : r1 = .returned (.tuple #[.string ⟨p.toArray⟩, .string ⟨q.toArray⟩, .bool true]) := by
        rcases hr with ⟨p1, q1, h1, h2⟩ | ⟨h1, _⟩
        · rw [show (⟨l.toArray⟩ : ByteArray).data.toList = l from rfl, Hhc.out] at h1
          simp only [Option.some.injEq, Prod.mk.injEq] at h1
          obtain ⟨rfl, rfl⟩ := h1
          exact h2
        · rw [show (⟨l.toArray⟩ : ByteArray).data.toList = l from rfl, Hhc.out] at h1
          cases h1
      subst hr
      have Hhs := Lib.hid hs
      clear hs
      go_wp2_with fail
      refine (Atoi_any _ (by rw [t_size]; exact hp) _ (HE.out.step Hhs.out)).mono ?_
      rintro r1 w2 ⟨hs2, hr⟩
      rw [show (⟨p.toArray⟩ : ByteArray).data.toList = p from rfl] at hr
      have hs := Hhs.out.trans hs2 (fun _ f _ => f)
      have d0 := hs.cell c0 (fun f => f)
      have d1 := hs.cell c1 (fun f => f)
      have g1 : w2.frozen? ⟨b, 1, none⟩ = false := blk_free (hs.blk HB.out (fun f => f)) 1
      have g0 : w2.frozen? ⟨b, 0, none⟩ = false := blk_free (hs.blk HB.out (fun f => f)) 0
      clear Hhs hs2
      have Hhs := Lib.hid hs
      clear hs
      rcases hr with ⟨v, -, rfl⟩ | ⟨-, n, t, a, rfl⟩
      · go_wp2
        go_ret
        exact t_bad HB.out hl Hhs.out
      · go_wp2
        go_ret
        exact t_bad HB.out hl Hhs.out
    · obtain rfl : x = false := by simpa using hx
      clear hx
      by_cases hv : ∃ v, atoiAll p = .ok v
      · obtain ⟨v, hv⟩ := hv
        obtain ⟨c, r, rfl⟩ : ∃ c r, p = c :: r := by
          cases p with
          | nil => cases hv
          | cons c r => exact ⟨c, r, rfl⟩
        have HV := Lib.hid hv
        by_cases h9 : 9 < (c :: r).length
        · have hd : digR e (l, false) = (0, l, true) := by
            unfold digR
            simp only [hc, hv, decide_eq_true h9]
            simp
          rw [hd]
          have Hhd := Lib.hid hd
          have Hhc := Lib.hid hc
          have Hhv := Lib.hid hv
          clear hd hc hv
          obtain ⟨Z, hZ, hZd, hzz, hz0, hzc⟩ : ∃ Z : ByteArray, (⟨(c :: r).toArray⟩ : ByteArray) = Z ∧ Z.data.toList = c :: r ∧ Z.size = (c :: r).length ∧ ∃ h : 0 < Z.size, Z[0]'h = c := ⟨_, rfl, rfl, t_size _, by rw [t_size]; simp, rfl⟩
          have HZ := Lib.hid hZ
          have HZd := Lib.hid hZd
          have HZZ := Lib.hid hzz
          clear hZ hZd hzz
          go_enter Tryz.func80, Tryz.ntmps80
          go_wp2_with fail
          refine (Cut_any _ e _ (by rw [t_size]; simp only [maxLen]; omega)).mono ?_
          rintro r1 w1 ⟨hs, hr⟩
          have hr : r1 = .returned (.tuple #[.string ⟨(c :: r).toArray⟩, .string ⟨q.toArray⟩, .bool true]) := by
            rcases hr with ⟨p1, q1, h1, h2⟩ | ⟨h1, _⟩
            · rw [show (⟨l.toArray⟩ : ByteArray).data.toList = l from rfl, Hhc.out] at h1
              simp only [Option.some.injEq, Prod.mk.injEq] at h1
              obtain ⟨rfl, rfl⟩ := h1
              exact h2
            · rw [show (⟨l.toArray⟩ : ByteArray).data.toList = l from rfl, Hhc.out] at h1
              cases h1
          rw [HZ.out] at hr
          subst hr
          have Hhs := Lib.hid hs
          clear hs
          go_wp2_with fail
          refine (Atoi_any Z (by have := HZZ.out; omega) _ (HE.out.step Hhs.out)).mono ?_
          rintro r1 w2 ⟨hs2, hr⟩
          rw [HZd.out] at hr
          have hs := Hhs.out.trans hs2 (fun _ f _ => f)
          have d0 := hs.cell c0 (fun f => f)
          have d1 := hs.cell c1 (fun f => f)
          have g1 : w2.frozen? ⟨b, 1, none⟩ = false := blk_free (hs.blk HB.out (fun f => f)) 1
          have g0 : w2.frozen? ⟨b, 0, none⟩ = false := blk_free (hs.blk HB.out (fun f => f)) 0
          clear Hhs hs2
          have Hhs := Lib.hid hs
          clear hs
          have hz : (9 : Int) < Z.size := by have := HZZ.out; omega
          obtain rfl : r1 = .returned (.tuple #[.int .i64 v, .nilIface]) := by
            rcases hr with ⟨v2, hv2, h⟩ | ⟨hv2, _⟩
            · rw [Hhv.out] at hv2
              injection hv2 with hv2
              rw [hv2]
              exact h
            · exact absurd Hhv.out (hv2 v)
          clear hr
          go_wp2
          go_ret
          exact t_bad HB.out hl Hhs.out
        · have hz9 : ((c :: r).length : Int) ≤ 9 := by omega
          by_cases h45 : c = 45
          · have hd : digR e (l, false) = (0, l, true) := by
              unfold digR
              simp only [hc, hv]
              simp [sign, h45]
            rw [hd]
            have e45 : ((c.toNat : Int) == 45) = true := by rw [h45]; decide
            have Hhd := Lib.hid hd
            have Hhc := Lib.hid hc
            have Hhv := Lib.hid hv
            have Hh45 := Lib.hid h45
            clear hd hc hv h45
            obtain ⟨Z, hZ, hZd, hzz, hz0, hzc⟩ : ∃ Z : ByteArray, (⟨(c :: r).toArray⟩ : ByteArray) = Z ∧ Z.data.toList = c :: r ∧ Z.size = (c :: r).length ∧ ∃ h : 0 < Z.size, Z[0]'h = c := ⟨_, rfl, rfl, t_size _, by rw [t_size]; simp, rfl⟩
            have HZ := Lib.hid hZ
            have HZd := Lib.hid hZd
            have HZZ := Lib.hid hzz
            clear hZ hZd hzz
            go_enter Tryz.func80, Tryz.ntmps80
            go_wp2_with fail
            refine (Cut_any _ e _ (by rw [t_size]; simp only [maxLen]; omega)).mono ?_
            rintro r1 w1 ⟨hs, hr⟩
            have hr : r1 = .returned (.tuple #[.string ⟨(c :: r).toArray⟩, .string ⟨q.toArray⟩, .bool true]) := by
              rcases hr with ⟨p1, q1, h1, h2⟩ | ⟨h1, _⟩
              · rw [show (⟨l.toArray⟩ : ByteArray).data.toList = l from rfl, Hhc.out] at h1
                simp only [Option.some.injEq, Prod.mk.injEq] at h1
                obtain ⟨rfl, rfl⟩ := h1
                exact h2
              · rw [show (⟨l.toArray⟩ : ByteArray).data.toList = l from rfl, Hhc.out] at h1
                cases h1
            rw [HZ.out] at hr
            subst hr
            have Hhs := Lib.hid hs
            clear hs
            go_wp2_with fail
            refine (Atoi_any Z (by have := HZZ.out; omega) _ (HE.out.step Hhs.out)).mono ?_
            rintro r1 w2 ⟨hs2, hr⟩
            rw [HZd.out] at hr
            have hs := Hhs.out.trans hs2 (fun _ f _ => f)
            have d0 := hs.cell c0 (fun f => f)
            have d1 := hs.cell c1 (fun f => f)
            have g1 : w2.frozen? ⟨b, 1, none⟩ = false := blk_free (hs.blk HB.out (fun f => f)) 1
            have g0 : w2.frozen? ⟨b, 0, none⟩ = false := blk_free (hs.blk HB.out (fun f => f)) 0
            clear Hhs hs2
            have Hhs := Lib.hid hs
            clear hs
            have hz : (Z.size : Int) ≤ 9 := by have := HZZ.out; omega
            obtain rfl : r1 = .returned (.tuple #[.int .i64 v, .nilIface]) := by
              rcases hr with ⟨v2, hv2, h⟩ | ⟨hv2, _⟩
              · rw [Hhv.out] at hv2
                injection hv2 with hv2
                rw [hv2]
                exact h
              · exact absurd Hhv.out (hv2 v)
            clear hr
            go_wp2
            go_ret
            exact t_bad HB.out hl Hhs.out
          · by_cases h43 : c = 43
            · have hd : digR e (l, false) = (0, l, true) := by
                unfold digR
                simp only [hc, hv]
                simp [sign, h43]
              rw [hd]
              have e45 : ((c.toNat : Int) == 45) = false := by rw [h43]; decide
              have e43 : ((c.toNat : Int) == 43) = true := by rw [h43]; decide
              have Hhd := Lib.hid hd
              have Hhc := Lib.hid hc
              have Hhv := Lib.hid hv
              have Hh43 := Lib.hid h43
              have Hh45 := Lib.hid h45
              clear hd hc hv h43 h45
              obtain ⟨Z, hZ, hZd, hzz, hz0, hzc⟩ : ∃ Z : ByteArray, (⟨(c :: r).toArray⟩ : ByteArray) = Z ∧ Z.data.toList = c :: r ∧ Z.size = (c :: r).length ∧ ∃ h : 0 < Z.size, Z[0]'h = c := ⟨_, rfl, rfl, t_size _, by rw [t_size]; simp, rfl⟩
              have HZ := Lib.hid hZ
              have HZd := Lib.hid hZd
              have HZZ := Lib.hid hzz
              clear hZ hZd hzz
              go_enter Tryz.func80, Tryz.ntmps80
              go_wp2_with fail
              refine (Cut_any _ e _ (by rw [t_size]; simp only [maxLen]; omega)).mono ?_
              rintro r1 w1 ⟨hs, hr⟩
              have hr : r1 = .returned (.tuple #[.string ⟨(c :: r).toArray⟩, .string ⟨q.toArray⟩, .bool true]) := by
                rcases hr with ⟨p1, q1, h1, h2⟩ | ⟨h1, _⟩
                · rw [show (⟨l.toArray⟩ : ByteArray).data.toList = l from rfl, Hhc.out] at h1
                  simp only [Option.some.injEq, Prod.mk.injEq] at h1
                  obtain ⟨rfl, rfl⟩ := h1
                  exact h2
                · rw [show (⟨l.toArray⟩ : ByteArray).data.toList = l from rfl, Hhc.out] at h1
                  cases h1
              rw [HZ.out] at hr
              subst hr
              have Hhs := Lib.hid hs
              clear hs
              go_wp2_with fail
              refine (Atoi_any Z (by have := HZZ.out; omega) _ (HE.out.step Hhs.out)).mono ?_
              rintro r1 w2 ⟨hs2, hr⟩
              rw [HZd.out] at hr
              have hs := Hhs.out.trans hs2 (fun _ f _ => f)
              have d0 := hs.cell c0 (fun f => f)
              have d1 := hs.cell c1 (fun f => f)
              have g1 : w2.frozen? ⟨b, 1, none⟩ = false := blk_free (hs.blk HB.out (fun f => f)) 1
              have g0 : w2.frozen? ⟨b, 0, none⟩ = false := blk_free (hs.blk HB.out (fun f => f)) 0
              clear Hhs hs2
              have Hhs := Lib.hid hs
              clear hs
              have hz : (Z.size : Int) ≤ 9 := by have := HZZ.out; omega
              obtain rfl : r1 = .returned (.tuple #[.int .i64 v, .nilIface]) := by
                rcases hr with ⟨v2, hv2, h⟩ | ⟨hv2, _⟩
                · rw [Hhv.out] at hv2
                  injection hv2 with hv2
                  rw [hv2]
                  exact h
                · exact absurd Hhv.out (hv2 v)
              clear hr
              go_wp2
              go_ret
              exact t_bad HB.out hl Hhs.out
            · have hd : digR e (l, false) = (v, q, false) := by
                unfold digR
                simp only [hc, hv]
                have e1 : sign (c :: r) = false := by simp [sign, h45, h43]
                rw [e1, decide_eq_false h9]
                simp
              rw [hd]
              have e45 : ((c.toNat : Int) == 45) = false := beq_eq_false_iff_ne.2 (fun h => h45 (UInt8.toNat_inj.1 (by simpa using (by omega : c.toNat = 45))))
              have e43 : ((c.toNat : Int) == 43) = false := beq_eq_false_iff_ne.2 (fun h => h43 (UInt8.toNat_inj.1 (by simpa using (by omega : c.toNat = 43))))
              have hq : q.length ≤ 140737488355328 := by omega
              have Hhd := Lib.hid hd
              have Hhc := Lib.hid hc
              have Hhv := Lib.hid hv
              have Hh45 := Lib.hid h45
              have Hh43 := Lib.hid h43
              clear hd hc hv h45 h43
              obtain ⟨Z, hZ, hZd, hzz, hz0, hzc⟩ : ∃ Z : ByteArray, (⟨(c :: r).toArray⟩ : ByteArray) = Z ∧ Z.data.toList = c :: r ∧ Z.size = (c :: r).length ∧ ∃ h : 0 < Z.size, Z[0]'h = c := ⟨_, rfl, rfl, t_size _, by rw [t_size]; simp, rfl⟩
              have HZ := Lib.hid hZ
              have HZd := Lib.hid hZd
              have HZZ := Lib.hid hzz
              clear hZ hZd hzz
              go_enter Tryz.func80, Tryz.ntmps80
              go_wp2_with fail
              refine (Cut_any _ e _ (by rw [t_size]; simp only [maxLen]; omega)).mono ?_
              rintro r1 w1 ⟨hs, hr⟩
              have hr : r1 = .returned (.tuple #[.string ⟨(c :: r).toArray⟩, .string ⟨q.toArray⟩, .bool true]) := by
                rcases hr with ⟨p1, q1, h1, h2⟩ | ⟨h1, _⟩
                · rw [show (⟨l.toArray⟩ : ByteArray).data.toList = l from rfl, Hhc.out] at h1
                  simp only [Option.some.injEq, Prod.mk.injEq] at h1
                  obtain ⟨rfl, rfl⟩ := h1
                  exact h2
                · rw [show (⟨l.toArray⟩ : ByteArray).data.toList = l from rfl, Hhc.out] at h1
                  cases h1
              rw [HZ.out] at hr
              subst hr
              have Hhs := Lib.hid hs
              clear hs
              go_wp2_with fail
              refine (Atoi_any Z (by have := HZZ.out; omega) _ (HE.out.step Hhs.out)).mono ?_
              rintro r1 w2 ⟨hs2, hr⟩
              rw [HZd.out] at hr
              have hs := Hhs.out.trans hs2 (fun _ f _ => f)
              have d0 := hs.cell c0 (fun f => f)
              have d1 := hs.cell c1 (fun f => f)
              have g1 : w2.frozen? ⟨b, 1, none⟩ = false := blk_free (hs.blk HB.out (fun f => f)) 1
              have g0 : w2.frozen? ⟨b, 0, none⟩ = false := blk_free (hs.blk HB.out (fun f => f)) 0
              clear Hhs hs2
              have Hhs := Lib.hid hs
              clear hs
              have hz : (Z.size : Int) ≤ 9 := by have := HZZ.out; omega
              obtain rfl : r1 = .returned (.tuple #[.int .i64 v, .nilIface]) := by
                rcases hr with ⟨v2, hv2, h⟩ | ⟨hv2, _⟩
                · rw [Hhv.out] at hv2
                  injection hv2 with hv2
                  rw [hv2]
                  exact h
                · exact absurd Hhv.out (hv2 v)
              clear hr
              go_wp2
              go_ret
              exact ⟨rfl, ⟨blk_set (Hhs.out.blk HB.out (fun f => f)) 0 _, hq⟩, Step.setCell (F := fun k => k = b) (Hhs.out.mono (fun _ _ f => f.elim)) (p := ⟨b, 0, none⟩) (fun _ => rfl) _⟩
      · have hd : digR e (l, false) = (0, l, true) := by
          unfold digR
          simp only [hc]
          cases ha : atoiAll p with
          | ok v => exact absurd ⟨v, ha⟩ hv
          | «syntax» => rfl
          | range => rfl
        rw [hd]
        have Hhd := Lib.hid hd
        have Hhc := Lib.hid hc
        clear hd hc
        go_enter Tryz.func80, Tryz.ntmps80
        go_wp2_with fail
        refine (Cut_any _ e _ (by rw [t_size]; simp only [maxLen]; omega)).mono ?_
        rintro r1 w1 ⟨hs, hr⟩
        have hr : r1 = .returned (.tuple #[.string ⟨p.toArray⟩, .string ⟨q.toArray⟩, .bool true]) := by
          rcases hr with ⟨p1, q1, h1, h2⟩ | ⟨h1, _⟩
          · rw [show (⟨l.toArray⟩ : ByteArray).data.toList = l from rfl, Hhc.out] at h1
            simp only [Option.some.injEq, Prod.mk.injEq] at h1
            obtain ⟨rfl, rfl⟩ := h1
            exact h2
          · rw [show (⟨l.toArray⟩ : ByteArray).data.toList = l from rfl, Hhc.out] at h1
            cases h1
        subst hr
        have Hhs := Lib.hid hs
        clear hs
        go_wp2_with fail
        refine (Atoi_any _ (by rw [t_size]; exact hp) _ (HE.out.step Hhs.out)).mono ?_
        rintro r1 w2 ⟨hs2, hr⟩
        rw [show (⟨p.toArray⟩ : ByteArray).data.toList = p from rfl] at hr
        have hs := Hhs.out.trans hs2 (fun _ f _ => f)
        have d0 := hs.cell c0 (fun f => f)
        have d1 := hs.cell c1 (fun f => f)
        have g1 : w2.frozen? ⟨b, 1, none⟩ = false := blk_free (hs.blk HB.out (fun f => f)) 1
        have g0 : w2.frozen? ⟨b, 0, none⟩ = false := blk_free (hs.blk HB.out (fun f => f)) 0
        clear Hhs hs2
        have Hhs := Lib.hid hs
        clear hs
        rcases hr with ⟨v, hv2, rfl⟩ | ⟨-, n, t, a, rfl⟩
        · exact absurd ⟨v, hv2⟩ hv
        · clear hv
          go_wp2
          go_ret
          exact t_bad HB.out hl Hhs.out
end Go.Proofs.YtjeamfoicpgkhaaGreatDoor.Taker
