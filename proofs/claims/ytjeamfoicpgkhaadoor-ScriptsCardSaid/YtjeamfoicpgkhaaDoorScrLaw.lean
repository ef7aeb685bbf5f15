/- What the laws on scripts say beside the program: numbers, rows that are the same, copies. -/
import Derived.Test.YtjeamfoicpgkhaaDoorScrParse
import Derived.Test.YtjeamfoicpgkhaaDoorScrG
import Derived.Test.YtjeamfoicpgkhaaDoorEqs
namespace Go.Proofs.YtjeamfoicpgkhaaDoor.ScrW
open Go.RowKit Go.Lib Go.Proofs.YtjeamfoicpgkhaaDoor Go.Proofs.YtjeamfoicpgkhaaDoor.Mem Go.Proofs.YtjeamfoicpgkhaaDoor.Scr Go.Proofs.YtjeamfoicpgkhaaDoor.Read Go.Proofs.YtjeamfoicpgkhaaDoor.Env Go.Proofs.YtjeamfoicpgkhaaDoor.Take Go.Proofs.YtjeamfoicpgkhaaDoor.Taker
open Go.Proofs.YtjeamfoicpgkhaaDoor.Writer (EnvS)
set_option linter.unusedVariables false
set_option linter.unusedSimpArgs false
theorem num_any (n : Int) (w : World) : Calls Tryd.prog 12 #[.int .i64 n] w fun e w' => e = .returned (.int .i64 n) ∧ w = w' := by
  go_enter Tryd.func12, Tryd.ntmps12
  go_wp2
  go_ret
  exact ⟨rfl, rfl⟩
theorem str_eq {a b : ByteArray} : (a.toList == b.toList) = decide (a = b) := by
  rw [Bool.eq_iff_iff, beq_iff_eq, decide_eq_true_eq, ByteArray.toList_eq, ByteArray.toList_eq]
  exact ⟨fun e => ByteArray.ext (Array.toList_inj.1 e), fun e => by rw [e]⟩
def actEq (a b : ActD) : Bool := a.kind == b.kind && (a.client == b.client && (a.up == b.up && (a.at_ == b.at_ && (a.n == b.n && (a.text.toList == b.text.toList)))))
theorem actEq_iff {a b : ActD} : actEq a b = true ↔ a = b := by
  obtain ⟨k, c, u, p, n, t⟩ := a
  obtain ⟨k', c', u', p', n', t'⟩ := b
  simp only [actEq, Bool.and_eq_true, beq_iff_eq, ActD.mk.injEq, ByteArray.toList_eq]
  constructor
  · rintro ⟨h1, h2, h3, h4, h5, h6⟩; exact ⟨h1, h2, h3, h4, h5, ByteArray.ext (Array.toList_inj.1 h6)⟩
  · rintro ⟨h1, h2, h3, h4, h5, h6⟩; exact ⟨h1, h2, h3, h4, h5, by rw [h6]⟩
theorem eqAct (d : Nat) (w : World) (k k' c c' : Int) (u u' : Bool) (p p' n n' : Int) (t t' : ByteArray) :
    (Op.equalIn (d + 2) 37 (.agg #[.int .i64 k, .int .i64 c, .bool u, .int .i64 p, .int .i64 n, .string t]) (.agg #[.int .i64 k', .int .i64 c', .bool u', .int .i64 p', .int .i64 n', .string t'])).run Tryd.prog w = .ok (actEq ⟨k, c, u, p, n, t⟩ ⟨k', c', u', p', n', t'⟩) w := by
  have h : actEq ⟨k, c, u, p, n, t⟩ ⟨k', c', u', p', n', t'⟩ = (k == k' && (c == c' && (u == u' && (p == p' && (n == n' && (t.toList == t'.toList && true)))))) := by simp [actEq]
  rw [h]
  refine Eqs.struct_eq Tryd.underlying37 (by kernel_rfl) ?_
  refine Eqs.fields_cons (by decide) (by go_simp; rfl) (by go_simp; rfl) (by go_simp) ?_
  refine Eqs.fields_cons (by decide) (by go_simp; rfl) (by go_simp; rfl) (by go_simp) ?_
  refine Eqs.fields_cons (by decide) (by go_simp; rfl) (by go_simp; rfl) (by go_simp) ?_
  refine Eqs.fields_cons (by decide) (by go_simp; rfl) (by go_simp; rfl) (by go_simp) ?_
  refine Eqs.fields_cons (by decide) (by go_simp; rfl) (by go_simp; rfl) (by go_simp) ?_
  refine Eqs.fields_cons (by decide) (by go_simp; rfl) (by go_simp; rfl) (by go_simp) ?_
  exact Eqs.fields_nil
def SamePost (xs ys : List ActD) (w : World) (e : Ending) (w' : World) : Prop := ∃ r : Bool, e = .returned (.bool r) ∧ (r = true ↔ xs = ys) ∧ Step No w w'
set_option maxHeartbeats 4000000 in
set_option maxRecDepth 100000 in
theorem SameActs_any (w : World) (xs ys : List ActD) (a b : Value) (ha : ActS w xs a) (hb : ActS w ys b) : Calls Tryd.prog 13 #[a, b] w (SamePost xs ys w) := by
  obtain ⟨A, c, rfl, h1, h2⟩ := acts_len ha
  obtain ⟨B, d, rfl, h3, h4⟩ := acts_len hb
  unfold maxLen at h2 h4
  have HA := Lib.hid ha
  have HB := Lib.hid hb
  clear ha hb
  by_cases hl : xs.length = ys.length
  · have hne : ((xs.length : Int) != (ys.length : Int)) = false := by rw [hl]; exact bne_self_eq_false _
    have hne' : (xs.length != ys.length) = false := by rw [hl]; exact bne_self_eq_false _
    have HL := Lib.hid hl
    clear hl
    go_enter Tryd.func13, Tryd.ntmps13
    go_wp2
    go_loopw [5] (fun i wr => ∃ k : Nat, k ≤ xs.length ∧ i = .int .i64 k ∧ Step No w wr ∧ ∀ j, j < k → xs[j]? = ys[j]?) (fun i _ => xs.length - (RowKit.intOf i).toNat)
    case atStart => exact ⟨0, Nat.zero_le _, rfl, Step.refl _ _, fun j h => absurd h (Nat.not_lt_zero _)⟩
    case round =>
      obtain ⟨k, hk, rfl, hs, he⟩ := hrel
      by_cases hlt : k < xs.length
      · have hlt2 : k < ys.length := by rw [← HL.out]; exact hlt
        obtain ⟨p, rfl, -, c0, c1, c2, c3, c4, c5⟩ := acts_cells (show ActS wr xs _ from SlR.step (w' := wr) HA.out (fun _ _ h => h) hs) k hlt
        obtain ⟨q, rfl, -, d0, d1, d2, d3, d4, d5⟩ := acts_cells (show ActS wr ys _ from SlR.step (w' := wr) HB.out (fun _ _ h => h) hs) k hlt2
        have hi1 : (k : Int) < xs.length := by omega
        have hi2 : (k : Int) < ys.length := by omega
        have hi0 : (0 : Int) ≤ k := by omega
        have HX : Hid (xs[k]? = some xs[k]) := Lib.hid (List.getElem?_eq_getElem hlt)
        have HY : Hid (ys[k]? = some ys[k]) := Lib.hid (List.getElem?_eq_getElem hlt2)
        generalize xs[k] = s at *
        generalize ys[k] = t at *
        have Hhe := Lib.hid he
        have Hhs := Lib.hid hs
        clear he hs
        by_cases hst : s = t
        · subst hst
          obtain ⟨kd, cl, up, pl, n, t⟩ := s
          simp only at c0 c1 c2 c3 c4 c5 d0 d1 d2 d3 d4 d5
          go_wp2
          go_quiet (fail)
          go_wp2
          go_roundw
          case rel => exact ⟨k + 1, hlt, rfl, Hhs.out.drewN _, fun j hj => by
              rcases Nat.lt_succ_iff_lt_or_eq.1 hj with h | rfl
              · exact Hhe.out j h
              · rw [HX.out, HY.out]⟩
          case measure => simp [RowKit.intOf]; omega
        · have hb : actEq s t = false := by
            cases h : actEq s t
            · rfl
            · exact absurd (actEq_iff.1 h) hst
          have HF : Hid (xs ≠ ys) := Lib.hid (fun e => hst (by have := HX.out; rw [e, HY.out] at this; injection this with this; exact this.symm))
          clear hst
          obtain ⟨kd, cl, up, pl, n, t1⟩ := s
          obtain ⟨kd', cl', up', pl', n', t2⟩ := t
          simp only at c0 c1 c2 c3 c4 c5 d0 d1 d2 d3 d4 d5
          have hq := fun d w => eqAct d w kd kd' cl cl' up up' pl pl' n n' t1 t2
          rw [hb] at hq
          clear hb
          go_wp2
          go_quiet (fail)
          go_wp2
          go_ret
          exact ⟨false, rfl, (Iff.intro (fun h => by cases h) (fun h => absurd h HF.out)), Hhs.out.drewN _⟩
      · have hke : k = xs.length := by omega
        subst hke
        have HT : Hid (xs = ys) := Lib.hid (by
          apply List.ext_getElem?
          intro j
          by_cases hj : j < xs.length
          · exact he j hj
          · rw [List.getElem?_eq_none (by omega), List.getElem?_eq_none (by rw [← HL.out]; omega)])
        have Hhe := Lib.hid he
        have Hhs := Lib.hid hs
        clear he hs
        go_wp2
        go_ret
        exact ⟨true, rfl, ⟨fun _ => HT.out, fun _ => rfl⟩, Hhs.out⟩
  · have hne : ((xs.length : Int) != (ys.length : Int)) = true := by rw [bne_iff_ne]; omega
    have hne' : (xs.length != ys.length) = true := by rw [bne_iff_ne]; exact hl
    have hd : Hid (xs ≠ ys) := Lib.hid (fun e => hl (by rw [e]))
    clear hl
    go_enter Tryd.func13, Tryd.ntmps13
    go_wp2
    go_ret
    exact ⟨false, rfl, (Iff.intro (fun h => by cases h) (fun h => absurd h hd.out)), (by repeat' (first | exact Step.refl _ _ | with_reducible assumption | refine Step.drew ?_ | refine Step.drewN ?_ _ | refine Step.alloc ?_ _))⟩
end Go.Proofs.YtjeamfoicpgkhaaDoor.ScrW
