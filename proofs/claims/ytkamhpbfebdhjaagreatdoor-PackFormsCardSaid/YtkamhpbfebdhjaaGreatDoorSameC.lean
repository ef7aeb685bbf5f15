/- Edits and rows of numbers that are the same. -/
import Derived.Test.YtkamhpbfebdhjaaGreatDoorLumpB
import Derived.Test.YtkamhpbfebdhjaaGreatDoorLumpA
namespace Go.Proofs.YtkamhpbfebdhjaaGreatDoor.Same
open Go.RowKit Go.Lib Go.Proofs.YtkamhpbfebdhjaaGreatDoor Go.Proofs.YtkamhpbfebdhjaaGreatDoor.Mem Go.Proofs.YtkamhpbfebdhjaaGreatDoor.Read Go.Proofs.YtkamhpbfebdhjaaGreatDoor.AppSl Go.Proofs.YtkamhpbfebdhjaaGreatDoor.Tree Go.Proofs.YtkamhpbfebdhjaaGreatDoor.Data Go.Proofs.YtkamhpbfebdhjaaGreatDoor.CompR Go.Proofs.YtkamhpbfebdhjaaGreatDoor.MsgR
set_option linter.unusedVariables false
set_option linter.unusedSimpArgs false
def SamePost {α : Type} (x y : α) (w : World) (e : Ending) (w' : World) : Prop := ∃ r : Bool, e = .returned (.bool r) ∧ (r = true ↔ x = y) ∧ Step No w w'
/-- Nothing but draws. -/
def Dr (w w' : World) : Prop := ∃ m, w' = w.drewN m
theorem Dr.refl (w : World) : Dr w w := ⟨0, rfl⟩
theorem Dr.step {w w' : World} (h : Dr w w') : Step No w w' := by obtain ⟨m, rfl⟩ := h; exact (Step.refl No w).drewN m
theorem Dr.drewN {w w' : World} (h : Dr w w') (n : Nat) : Dr w (w'.drewN n) := by obtain ⟨m, rfl⟩ := h; exact ⟨m + n, by simp [World.drewN_drewN]⟩
def SameD {α : Type} (x y : α) (w : World) (e : Ending) (w' : World) : Prop := ∃ r : Bool, e = .returned (.bool r) ∧ (r = true ↔ x = y) ∧ Dr w w'
theorem SameD.post {α : Type} {x y : α} {w w' : World} {e : Ending} (h : SameD x y w e w') : SamePost x y w e w' := by obtain ⟨r, h1, h2, h3⟩ := h; exact ⟨r, h1, h2, h3.step⟩
theorem num_any (n : Int) (w : World) : Calls Tryz.prog 9 #[.int .i64 n] w fun e w' => e = .returned (.int .i64 n) ∧ w = w' := by
  go_enter Tryz.func9, Tryz.ntmps9
  go_wp2
  go_ret
  exact ⟨rfl, rfl⟩
abbrev IntsS (w : World) (xs : List Int) (v : Value) : Prop := SlR 1 intR w xs v
theorem ints_cell {w : World} {xs : List Int} {A : Option Addr} {n c : Nat} (h : IntsS w xs (.slice A n c)) (k : Nat) (hk : k < xs.length) : ∃ ad, A = some ad ∧ w.cell? (ad.add k) = some (.int .i64 xs[k]) := by
  obtain ⟨ad, cs, e, hl, hr, hc⟩ := sl_at h k hk
  have h0 := hc 0 (.int .i64 xs[k]) (by rw [hr]; rfl)
  rw [add_add, Nat.mul_one] at h0
  exact ⟨ad, e, h0⟩
theorem comp_cell {w : World} {xs : List CompD} {A : Option Addr} {n c : Nat} (h : CompsR w xs (.slice A n c)) (k : Nat) (hk : k < xs.length) : ∃ ad, A = some ad ∧ w.cell? (ad.add (k * 3)) = some (.int .i64 (xs[k]).kind) ∧ w.cell? ⟨(ad.add (k * 3)).block, (ad.add (k * 3)).off + 1, none⟩ = some (.int .i64 (xs[k]).n) ∧ w.cell? ⟨(ad.add (k * 3)).block, (ad.add (k * 3)).off + 2, none⟩ = some (.string (xs[k]).text) := by
  obtain ⟨ad, cs, e, hl, ⟨rfl, -⟩, hc⟩ := sl_at h k hk
  exact ⟨ad, e, hc 0 _ rfl, hc 1 _ rfl, hc 2 _ rfl⟩
theorem ints_to' {w w' : World} {xs : List Int} {v : Value} (h : IntsS w xs v) (hs : Step No w w') : IntsS w' xs v := ints_to h hs
def compEq (a b : CompD) : Bool := a.kind == b.kind && (a.n == b.n && (a.text.toList == b.text.toList))
theorem compEq_iff {a b : CompD} : compEq a b = true ↔ a = b := by
  obtain ⟨k, n, t⟩ := a
  obtain ⟨k', n', t'⟩ := b
  simp only [compEq, Bool.and_eq_true, beq_iff_eq, CompD.mk.injEq, ByteArray.toList_eq]
  constructor
  · rintro ⟨h1, h2, h6⟩; exact ⟨h1, h2, ByteArray.ext (Array.toList_inj.1 h6)⟩
  · rintro ⟨h1, h2, h6⟩; exact ⟨h1, h2, by rw [h6]⟩
theorem eqComp (d : Nat) (w : World) (k k' n n' : Int) (t t' : ByteArray) :
    (Op.equalIn (d + 2) 29 (.agg #[.int .i64 k, .int .i64 n, .string t]) (.agg #[.int .i64 k', .int .i64 n', .string t'])).run Tryz.prog w = .ok (compEq ⟨k, n, t⟩ ⟨k', n', t'⟩) w := by
  have h : compEq ⟨k, n, t⟩ ⟨k', n', t'⟩ = (k == k' && (n == n' && (t.toList == t'.toList && true))) := by simp [compEq]
  rw [h]
  refine Eqs.struct_eq Tryz.underlying29 (by kernel_rfl) ?_
  refine Eqs.fields_cons (by decide) (by go_simp; rfl) (by go_simp; rfl) (by go_simp) ?_
  refine Eqs.fields_cons (by decide) (by go_simp; rfl) (by go_simp; rfl) (by go_simp) ?_
  refine Eqs.fields_cons (by decide) (by go_simp; rfl) (by go_simp; rfl) (by go_simp) ?_
  exact Eqs.fields_nil

set_option maxHeartbeats 4000000 in
set_option maxRecDepth 100000 in
theorem SameInts_dr (w : World) (xs ys : List Int) (a b : Value) (ha : IntsS w xs a) (hb : IntsS w ys b) : Calls Tryz.prog 66 #[a, b] w (SameD xs ys w) := by
  obtain ⟨A, c, rfl, h1, h2⟩ := sl_len ha
  obtain ⟨B, d, rfl, h3, h4⟩ := sl_len hb
  unfold maxLen at h2 h4
  have HA := Lib.hid ha
  have HB := Lib.hid hb
  clear ha hb
  by_cases hl : xs.length = ys.length
  · have hne : ((xs.length : Int) != (ys.length : Int)) = false := by rw [hl]; exact bne_self_eq_false _
    have hne' : (xs.length != ys.length) = false := by rw [hl]; exact bne_self_eq_false _
    have HL := Lib.hid hl
    clear hl
    go_enter Tryz.func66, Tryz.ntmps66
    go_wp2
    go_loopw [5] (fun i wr => ∃ k : Nat, k ≤ xs.length ∧ i = .int .i64 k ∧ Dr w wr ∧ ∀ j, j < k → xs[j]? = ys[j]?) (fun i _ => xs.length - (RowKit.intOf i).toNat)
    case atStart => exact ⟨0, Nat.zero_le _, rfl, Dr.refl w, fun j h => absurd h (Nat.not_lt_zero _)⟩
    case round =>
      obtain ⟨k, hk, rfl, hs, he⟩ := hrel
      by_cases hlt : k < xs.length
      · have hlt2 : k < ys.length := by rw [← HL.out]; exact hlt
        have HA2 := Lib.hid (show IntsS wr xs _ from ints_to' HA.out (Dr.step hs))
        have HB2 := Lib.hid (show IntsS wr ys _ from ints_to' HB.out (Dr.step hs))
        obtain ⟨p, rfl, c0⟩ := ints_cell HA2.out k hlt
        obtain ⟨q, rfl, d0⟩ := ints_cell HB2.out k hlt2
        have hi1 : (k : Int) < xs.length := by omega
        have hi2 : (k : Int) < ys.length := by omega
        have hi0 : (0 : Int) ≤ k := by omega
        have HX : Hid (xs[k]? = some xs[k]) := Lib.hid (List.getElem?_eq_getElem hlt)
        have HY : Hid (ys[k]? = some ys[k]) := Lib.hid (List.getElem?_eq_getElem hlt2)
        generalize xs[k] = s at *
        generalize ys[k] = t at *
        have Hhe := Lib.hid he
        have Hhs := Lib.hid hs
        clear he hs
        by_cases hst : s = t
        · subst hst
          skip
          go_wp2
          go_quiet (fail)
          go_wp2
          go_roundw
          case rel => exact ⟨k + 1, hlt, rfl, Hhs.out.drewN _, fun j hj => by
              rcases Nat.lt_succ_iff_lt_or_eq.1 hj with h | rfl
              · exact Hhe.out j h
              · rw [HX.out, HY.out]⟩
          case measure => simp [RowKit.intOf]; omega
        · have HF : Hid (xs ≠ ys) := Lib.hid (fun e => hst (by have := HX.out; rw [e, HY.out] at this; injection this with this; exact this.symm))
          have hb : (s != t) = true := by rw [bne_iff_ne]; exact hst
          go_wp2
          go_quiet (fail)
          go_wp2
          go_ret
          exact ⟨false, rfl, (Iff.intro (fun h => by cases h) (fun h => absurd h HF.out)), Hhs.out.drewN _⟩
      · have hke : k = xs.length := by omega
        subst hke
        have HT : Hid (xs = ys) := Lib.hid (by
          apply List.ext_getElem?
          intro j
          by_cases hj : j < xs.length
          · exact he j hj
          · rw [List.getElem?_eq_none (by omega), List.getElem?_eq_none (by rw [← HL.out]; omega)])
        have Hhe := Lib.hid he
        have Hhs := Lib.hid hs
        clear he hs
        go_wp2
        go_ret
        exact ⟨true, rfl, ⟨fun _ => HT.out, fun _ => rfl⟩, Hhs.out⟩
  · have hne : ((xs.length : Int) != (ys.length : Int)) = true := by rw [bne_iff_ne]; omega
    have hne' : (xs.length != ys.length) = true := by rw [bne_iff_ne]; exact hl
    have hd : Hid (xs ≠ ys) := Lib.hid (fun e => hl (by rw [e]))
    clear hl
    go_enter Tryz.func66, Tryz.ntmps66
    go_wp2
    go_ret
    exact ⟨false, rfl, (Iff.intro (fun h => by cases h) (fun h => absurd h hd.out)), Dr.refl w⟩
set_option maxHeartbeats 4000000 in
set_option maxRecDepth 100000 in
theorem SameComps_dr (w : World) (xs ys : List CompD) (a b : Value) (ha : CompsR w xs a) (hb : CompsR w ys b) : Calls Tryz.prog 36 #[a, b] w (SameD xs ys w) := by
  obtain ⟨A, c, rfl, h1, h2⟩ := sl_len ha
  obtain ⟨B, d, rfl, h3, h4⟩ := sl_len hb
  unfold maxLen at h2 h4
  have HA := Lib.hid ha
  have HB := Lib.hid hb
  clear ha hb
  by_cases hl : xs.length = ys.length
  · have hne : ((xs.length : Int) != (ys.length : Int)) = false := by rw [hl]; exact bne_self_eq_false _
    have hne' : (xs.length != ys.length) = false := by rw [hl]; exact bne_self_eq_false _
    have HL := Lib.hid hl
    clear hl
    go_enter Tryz.func36, Tryz.ntmps36
    go_wp2
    go_loopw [5] (fun i wr => ∃ k : Nat, k ≤ xs.length ∧ i = .int .i64 k ∧ Dr w wr ∧ ∀ j, j < k → xs[j]? = ys[j]?) (fun i _ => xs.length - (RowKit.intOf i).toNat)
    case atStart => exact ⟨0, Nat.zero_le _, rfl, Dr.refl w, fun j h => absurd h (Nat.not_lt_zero _)⟩
    case round =>
      obtain ⟨k, hk, rfl, hs, he⟩ := hrel
      by_cases hlt : k < xs.length
      · have hlt2 : k < ys.length := by rw [← HL.out]; exact hlt
        have HA2 := Lib.hid (show CompsR wr xs _ from CompsR.to HA.out (Dr.step hs))
        have HB2 := Lib.hid (show CompsR wr ys _ from CompsR.to HB.out (Dr.step hs))
        obtain ⟨p, rfl, c0, c1, c2⟩ := comp_cell HA2.out k hlt
        obtain ⟨q, rfl, d0, d1, d2⟩ := comp_cell HB2.out k hlt2
        have hi1 : (k : Int) < xs.length := by omega
        have hi2 : (k : Int) < ys.length := by omega
        have hi0 : (0 : Int) ≤ k := by omega
        have HX : Hid (xs[k]? = some xs[k]) := Lib.hid (List.getElem?_eq_getElem hlt)
        have HY : Hid (ys[k]? = some ys[k]) := Lib.hid (List.getElem?_eq_getElem hlt2)
        generalize xs[k] = s at *
        generalize ys[k] = t at *
        have Hhe := Lib.hid he
        have Hhs := Lib.hid hs
        clear he hs
        by_cases hst : s = t
        · subst hst
          (obtain ⟨kd, n, t⟩ := s; simp only at c0 c1 c2 d0 d1 d2)
          go_wp2
          go_quiet (fail)
          go_wp2
          go_roundw
          case rel => exact ⟨k + 1, hlt, rfl, Hhs.out.drewN _, fun j hj => by
              rcases Nat.lt_succ_iff_lt_or_eq.1 hj with h | rfl
              · exact Hhe.out j h
              · rw [HX.out, HY.out]⟩
          case measure => simp [RowKit.intOf]; omega
        · have HF : Hid (xs ≠ ys) := Lib.hid (fun e => hst (by have := HX.out; rw [e, HY.out] at this; injection this with this; exact this.symm))
          (obtain ⟨kd, n, t1⟩ := s; obtain ⟨kd', n', t2⟩ := t; have hq := fun d w => eqComp d w kd kd' n n' t1 t2; have hqb : compEq ⟨kd, n, t1⟩ ⟨kd', n', t2⟩ = false := by (rw [← Bool.not_eq_true, compEq_iff]; exact hst)); rw [hqb] at hq; simp only at c0 c1 c2 d0 d1 d2; clear hst hqb
          go_wp2
          go_quiet (fail)
          go_wp2
          go_ret
          exact ⟨false, rfl, (Iff.intro (fun h => by cases h) (fun h => absurd h HF.out)), Hhs.out.drewN _⟩
      · have hke : k = xs.length := by omega
        subst hke
        have HT : Hid (xs = ys) := Lib.hid (by
          apply List.ext_getElem?
          intro j
          by_cases hj : j < xs.length
          · exact he j hj
          · rw [List.getElem?_eq_none (by omega), List.getElem?_eq_none (by rw [← HL.out]; omega)])
        have Hhe := Lib.hid he
        have Hhs := Lib.hid hs
        clear he hs
        go_wp2
        go_ret
        exact ⟨true, rfl, ⟨fun _ => HT.out, fun _ => rfl⟩, Hhs.out⟩
  · have hne : ((xs.length : Int) != (ys.length : Int)) = true := by rw [bne_iff_ne]; omega
    have hne' : (xs.length != ys.length) = true := by rw [bne_iff_ne]; exact hl
    have hd : Hid (xs ≠ ys) := Lib.hid (fun e => hl (by rw [e]))
    clear hl
    go_enter Tryz.func36, Tryz.ntmps36
    go_wp2
    go_ret
    exact ⟨false, rfl, (Iff.intro (fun h => by cases h) (fun h => absurd h hd.out)), Dr.refl w⟩
theorem SameInts_any (w : World) (xs ys : List Int) (a b : Value) (ha : IntsS w xs a) (hb : IntsS w ys b) : Calls Tryz.prog 66 #[a, b] w (SamePost xs ys w) := (SameInts_dr w xs ys a b ha hb).mono fun _ _ h => h.post
theorem SameComps_any (w : World) (xs ys : List CompD) (a b : Value) (ha : CompsR w xs a) (hb : CompsR w ys b) : Calls Tryz.prog 36 #[a, b] w (SamePost xs ys w) := (SameComps_dr w xs ys a b ha hb).mono fun _ _ h => h.post
end Go.Proofs.YtkamhpbfebdhjaaGreatDoor.Same
