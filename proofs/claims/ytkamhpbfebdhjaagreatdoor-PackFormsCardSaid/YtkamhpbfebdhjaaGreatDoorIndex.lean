/- Where each id's node stands: parse.Index. -/
import Derived.Test.YtkamhpbfebdhjaaGreatDoorAlone
import Derived.Maps.OwnSet
import Derived.Maps.OwnOps
namespace Go.Proofs.YtkamhpbfebdhjaaGreatDoor.Index
open Go.RowKit Go.Lib Go.Maps Go.Proofs.YtkamhpbfebdhjaaGreatDoor.Mem Go.Proofs.YtkamhpbfebdhjaaGreatDoor.Read Go.Proofs.YtkamhpbfebdhjaaGreatDoor.Tree Go.Proofs.YtkamhpbfebdhjaaGreatDoor.Data Go.Proofs.YtkamhpbfebdhjaaGreatDoor.May Go.Proofs.YtkamhpbfebdhjaaGreatDoor.CompMay
set_option linter.unusedVariables false
set_option linter.unusedSimpArgs false
abbrev TI : TypeId := 3
abbrev TN : TypeId := 98
abbrev TMap : TypeId := 105
def Rng (x : Int) : Prop := -9223372036854775808 ≤ x ∧ x ≤ 9223372036854775807
theorem rng_wf {x : Int} (h : Rng x) : (Lit.int .i64 x).wf = true := by
  have h1 : (IntKind.i64.min : Int) = -9223372036854775808 := rfl
  have h2 : (IntKind.i64.max : Int) = 9223372036854775807 := rfl
  simp only [Lit.wf, Bool.and_eq_true, decide_eq_true_eq, h1, h2]
  exact h
def idxD (xs : List NodeD) : Nat → DataW Unit
  | 0 => .map []
  | k + 1 => match xs[k]? with
    | none => idxD xs k
    | some x => (idxD xs k).put (.int .i64 x.id) (.lit (.int .i64 k))
theorem idxD_succ {xs : List NodeD} {k : Nat} (h : k < xs.length) : idxD xs (k + 1) = (idxD xs k).put (.int .i64 xs[k].id) (.lit (.int .i64 k)) := by
  simp [idxD, List.getElem?_eq_getElem h]
theorem idx_isMap (xs : List NodeD) : ∀ k, IsMap (idxD xs k)
  | 0 => ⟨[], rfl⟩
  | k + 1 => by
    unfold idxD
    split
    · exact idx_isMap xs k
    · exact (idx_isMap xs k).put _ _
theorem int_ne {a b : Int} (h : a ≠ b) : Lit.int .i64 a ≠ Lit.int .i64 b := fun e => h (by injection e)
theorem int_key (a : Int) : WideAt.IsKeyLit (.int .i64 a) := by simp [WideAt.IsKeyLit]
/-- What a look-up finds. -/
theorem idx_look {xs : List NodeD} (hp : xs.Pairwise (fun a b => a.id < b.id)) (a : Int) (z : DataW Unit) : ∀ n, n ≤ xs.length →
    (∀ k, posOf xs a = some k → k < n → has (idxD xs n) (.int .i64 a) = true ∧ (idxD xs n).atKey (.int .i64 a) z = .lit (.int .i64 k)) ∧ ((∀ k, posOf xs a = some k → n ≤ k) → has (idxD xs n) (.int .i64 a) = false) := by
  intro n
  induction n with
  | zero => exact fun _ => ⟨fun k _ h => absurd h (Nat.not_lt_zero _), fun _ => rfl⟩
  | succ n ih =>
    intro hn
    obtain ⟨h1, h2⟩ := ih (by omega)
    rw [idxD_succ (by omega : n < xs.length)]
    by_cases e : a = xs[n].id
    · subst e
      have hpos : posOf xs xs[n].id = some n := by
        unfold posOf
        rw [List.findIdx?_eq_some_iff_getElem]
        refine ⟨by omega, by simp, fun j hj => ?_⟩
        have := List.pairwise_iff_getElem.1 hp j n (by omega) (by omega) hj
        simp only [beq_iff_eq]
        omega
      refine ⟨fun k hk hlt => ?_, fun h => ?_⟩
      · rw [hpos] at hk
        injection hk with hk
        subst hk
        exact ⟨has_put_same (idx_isMap _ _) (int_key _) _, atKey_put_same (idx_isMap _ _) (int_key _) _ _⟩
      · have := h n hpos
        omega
    · refine ⟨fun k hk hlt => ?_, fun h => ?_⟩
      · rw [has_put_other (int_ne e), atKey_put_other (int_ne e)]
        have hkn : k ≠ n := fun e' => by
          subst e'
          obtain ⟨y, hy, hid⟩ := posOf_some hk
          rw [List.getElem?_eq_getElem (by omega)] at hy
          injection hy with hy
          rw [hy] at e
          exact e hid.symm
        exact h1 k hk (by omega)
      · rw [has_put_other (int_ne e)]
        refine h2 fun k hk => ?_
        have := h k hk
        omega
theorem idx_some {xs : List NodeD} (hp : xs.Pairwise (fun a b => a.id < b.id)) {a : Int} {k : Nat} (h : posOf xs a = some k) (z : DataW Unit) : has (idxD xs xs.length) (.int .i64 a) = true ∧ (idxD xs xs.length).atKey (.int .i64 a) z = .lit (.int .i64 k) := by
  refine (idx_look hp a z xs.length (Nat.le_refl _)).1 k h ?_
  obtain ⟨y, hy, _⟩ := posOf_some h
  exact (List.getElem?_eq_some_iff.1 hy).1
theorem idx_none {xs : List NodeD} (hp : xs.Pairwise (fun a b => a.id < b.id)) {a : Int} (h : posOf xs a = none) : has (idxD xs xs.length) (.int .i64 a) = false :=
  (idx_look hp a .nil xs.length (Nat.le_refl _)).2 fun k hk => by rw [h] at hk; cases hk
abbrev IdxM (w : World) (B n : Nat) (D : DataW Unit) : Prop := w.ownsMap Tryz.prog TI (plainElem Tryz.prog TI) B n D
theorem IdxM.step {F : Nat → Prop} {w w' : World} {B n : Nat} {D : DataW Unit} (h : IdxM w B n D) (hs : Step F w w') (hF : ¬ F B) : IdxM w' B n D := by
  obtain ⟨es, clock, h1, h2⟩ := h
  exact ⟨es, clock, hs.blk h1 hF, h2⟩
theorem lawI : Keyed Tryz.prog TI := int_keyed Tryz.underlying3
theorem zeroI (w : World) : (zeroValue TI).run Tryz.prog w = .ok (.int .i64 0) w := by kernel_rfl
theorem makeMap_any (n : Int) (w : World) : (Instr.makeMap TMap (some (.int .i64 n))).run Tryz.prog w = .ok (.map (some w.heap.size)) (w.alloc (.map #[] 0)) := by
  simp [Instr.makeMap, run_underlying Tryz.underlying105, asInt, asIntOf]
def IR (w : World) (xs : List NodeD) (B : Nat) (i : Value) (wr : World) : Prop := ∃ k : Nat, k ≤ xs.length ∧ i = .int .i64 k ∧ IdxM wr B k (idxD xs k) ∧ w.heap.size ≤ B ∧ Step No w wr
set_option maxHeartbeats 2000000 in
theorem index_any (w : World) (b off : Nat) (xs : List NodeD) (nv : Value) (c2 : w.cell? ⟨b, off + 2, none⟩ = some nv) (hx : NodesR w xs nv) (hl : xs.length ≤ 4096) (hr : ∀ x ∈ xs, Rng x.id) :
    Calls Tryz.prog 49 #[.pointer (some ⟨b, off, none⟩)] w fun e w' => ∃ B, e = .returned (.map (some B)) ∧ IR w xs B (.int .i64 xs.length) w' := by
  obtain ⟨A, c, rfl, h1, h2⟩ := nodes_len hx
  unfold maxLen at h2
  have hmm := makeMap_any xs.length
  have HX := Lib.hid hx
  have HR := Lib.hid hr
  have d2 := (Step.alloc (Step.refl No w) (.map #[] 0)).cell c2 (fun f => f)
  have H0 : Hid (IR w xs w.heap.size (.int .i64 0) (w.alloc (.map #[] 0))) := Lib.hid ⟨0, Nat.zero_le _, rfl, World.ownsMap_made _ _ _ _, Nat.le_refl _, Step.alloc (Step.refl _ _) _⟩
  clear hx hr
  go_enter Tryz.func49, Tryz.ntmps49
  go_wp2
  go_loopw [17] (fun i wr => IR w xs w.heap.size i wr) (fun i _ => xs.length - (RowKit.intOf i).toNat)
  case atStart => exact H0.out
  case round =>
    obtain ⟨k, hk, rfl, hm, hb, hs⟩ := hrel
    by_cases hlt : k < xs.length
    · obtain ⟨ad, kv, rfl, hkv, e0, e1, e2, e3, e4⟩ := nodes_cells (HX.out.to hs) k hlt
      have hi1 : (k : Int) < xs.length := by omega
      have hi0 : (0 : Int) ≤ k := by omega
      have HD := Lib.hid (idxD_succ hlt)
      have HK : Hid (keyOf Tryz.prog TI (.int .i64 xs[k].id) = some (.int .i64 xs[k].id)) := Lib.hid (keyOf_int_mk Tryz.underlying3 (rng_wf (HR.out _ (List.getElem_mem hlt))))
      generalize xs[k] = x at *
      obtain ⟨id, kind, fr, up, ks⟩ := x
      simp only at hkv e0 e1 e2 e3 e4 HD HK
      obtain ⟨A', c', rfl, -, -⟩ := ints_len hkv
      have Hhm := Lib.hid hm
      have Hhs := Lib.hid hs
      have Hhb := Lib.hid hb
      have Hhkv := Lib.hid hkv
      clear hm hs hb hkv
      go_wp2_with (at_mapUpdate; refine wpList_mapUpdate_own _ rfl _ _ _ TMap rfl TI TI lawI Tryz.underlying105 _ w.heap.size k _ rfl (Hhm.out.alloc _) (by unfold maxLen; omega) _ _ _ rfl rfl HK.out _ [] (plainElem_int Tryz.underlying3 (rng_wf ⟨by omega, by omega⟩)) ?_; intro w1 hown1 hgrow1; rw [← HD.out] at hown1; have HO := Lib.hid hown1; have HG := Lib.hid hgrow1; clear hown1 hgrow1)
      go_roundw
      case rel => exact ⟨k + 1, hlt, rfl, HO.out, Hhb.out, (Hhs.out.alloc _).grown HG.out (fun j hj hlt => by injection hj with hj; omega)⟩
      case measure => simp [RowKit.intOf]; omega
    · obtain rfl : k = xs.length := by omega
      have Hhm := Lib.hid hm
      have Hhs := Lib.hid hs
      have Hhb := Lib.hid hb
      clear hm hs hb
      go_wp2
      go_ret
      exact ⟨_, rfl, xs.length, Nat.le_refl _, rfl, Hhm.out, Hhb.out, Hhs.out⟩
end Go.Proofs.YtkamhpbfebdhjaaGreatDoor.Index
