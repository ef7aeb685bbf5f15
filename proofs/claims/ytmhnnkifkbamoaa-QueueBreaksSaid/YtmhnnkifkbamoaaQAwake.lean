/- What every program answers that is one: the queue's package is awake. -/
import Derived.Test.YtmhnnkifkbamoaaQLaw
namespace Go.Proofs.Ytmhnnkifkbamoaa.QLaw
open Go.RowKit Go.Proofs.Ytmhnnkifkbamoaa.Mem Go.Proofs.Ytmhnnkifkbamoaa.Read Go.Proofs.Ytmhnnkifkbamoaa.NetQ
set_option linter.unusedVariables false
set_option linter.unusedSimpArgs false

abbrev PQ (B : Nat) (w : World) (Q : Nat) (xs : List Fr) : Prop := QRep 83 86 (fun k => B ≤ k) w Q xs
/-- One queue alone, all of it made since w0. -/
theorem one {w0 w w' : World} {Q : Nat} {v : Value} {xs : List Fr} {e : Ending} (hs : Step No w0 w) (h : QPost 83 86 (fun k => w0.heap.size ≤ k) w Q v xs e w') :
    e = .returned v ∧ PQ w0.heap.size w' Q xs ∧ Step No w0 w' :=
  ⟨h.1, h.2.1.mono (fun k _ o => o.elim id (fun o => Nat.le_trans hs.size o)), hs.trans h.2.2 (fun i hi hlt => by omega)⟩
theorem new_q (w : World) : PQ w.heap.size (w.alloc (.cells #[.slice none 0 0] 83)) w.heap.size [] ∧ Step No w (w.alloc (.cells #[.slice none 0 0] 83)) := ⟨QRep.new w, (by repeat' (first | exact Step.refl _ _ | with_reducible assumption | refine Step.drew ?_ | refine Step.drewN ?_ _ | refine Step.alloc ?_ _))⟩
def ab : ByteArray := ⟨#[97, 98]⟩
def aa : ByteArray := ⟨#[97, 97]⟩
theorem aw1 : fits [] ab = true ∧ putS [] (ab, false) = [(ab, false)] := by decide +kernel
theorem aw2 : copyS [(ab, false)] 0 = (true, 0, [(ab, false), (ab, false)]) := by decide +kernel
theorem aw3 : breakS [(ab, false), (ab, false)] 0 1 3 = (0, [(aa, true), (ab, false)]) := by decide +kernel
theorem aw4 : breakS [(aa, true), (ab, false)] 0 1 3 = (2200, [(aa, true), (ab, false)]) := by decide +kernel
theorem aw5 : takeS [(aa, true), (ab, false)] 0 = (aa, 0, [(ab, false)]) := by decide +kernel
theorem aw6 : takeS [(ab, false)] 5 = (⟨#[]⟩, 2201, [(ab, false)]) := by decide +kernel
theorem aw7 : ∀ x ∈ [(ab, false), (ab, false)], x.1.size ≤ 1000064 := by decide +kernel
theorem aw8 : ∀ x ∈ [(aa, true), (ab, false)], x.1.size ≤ 1000064 := by decide +kernel
/-- The answer of one of the queue's methods. -/
theorem ans {w0 w : World} {Q : Nat} {v v' : Value} {xs xs' : List Fr} {f : Nat} {args : Array Value} (hs : Step No w0 w) (h : Calls Try.prog f args w (QPost 83 86 (fun k => w0.heap.size ≤ k) w Q v xs)) (hv : v = v') (hx : xs = xs') :
    Calls Try.prog f args w fun e w' => e = .returned v' ∧ PQ w0.heap.size w' Q xs' ∧ Step No w0 w' := by
  subst hv hx
  exact h.mono fun e w' hp => one hs hp
theorem all_row {E : TypeId} {w w' : World} {ss : List ByteArray} {e : Ending} (h : AllPost E w ss e w') : ∃ v, e = .returned v ∧ Step No w w' ∧ ((∀ s ∈ ss, s.size ≤ maxLen) → StrS w' ss v) := by
  obtain ⟨v, he, hr, hs, _⟩ := h
  have hf : ∀ l : List ByteArray, l.flatMap (fun s => [Value.string s]) = l.map Value.string := fun l => by induction l <;> simp_all
  exact ⟨v, he, hs, fun hz => SlR.ofRow (enc := fun s => [Value.string s]) (by decide) (by rw [hf]; exact hr) (fun a _ => rfl) (fun a ha => ⟨rfl, hz a ha⟩)⟩
set_option maxHeartbeats 1000000 in
theorem awake_any (w : World) : Calls Try.prog 31 #[] w fun e w' => e = .returned (.bool true) ∧ Step No w w' := by
  obtain ⟨hq0, hs0⟩ := new_q w
  go_enter Try.func31, Try.ntmps31
  go_wp2_with fail
  refine (new_any _).mono ?_
  rintro e w1 ⟨rfl, h1⟩
  rw [← h1] at hq0 hs0
  clear h1
  have Hhq0 := Lib.hid hq0
  have Hhs0 := Lib.hid hs0
  clear hq0 hs0
  go_wp2_with fail
  refine (ans (w0 := w) (v' := .bool true) (xs' := [(ab, false)]) Hhs0.out (Put_any _ w1 w.heap.size [] ab Hhq0.out) (by rw [aw1.1]) aw1.2).mono ?_
  rintro e w2 ⟨rfl, hq1, hs1⟩
  have Hhq1 := Lib.hid hq1
  have Hhs1 := Lib.hid hs1
  clear hq1 hs1
  go_wp2_with fail
  refine (ans (w0 := w) (v' := .tuple #[.bool true, .int .i64 0]) (xs' := [(ab, false), (ab, false)]) Hhs1.out (Copy_any _ w2 w.heap.size _ 0 Hhq1.out) (by rw [aw2]) (by rw [aw2])).mono ?_
  rintro e w3 ⟨rfl, hq2, hs2⟩
  have Hhq2 := Lib.hid hq2
  have Hhs2 := Lib.hid hs2
  clear hq2 hs2
  go_wp2_with fail
  refine (ans (w0 := w) (v' := .int .i64 0) (xs' := [(aa, true), (ab, false)]) Hhs2.out (Break_any _ w3 w.heap.size _ 0 1 3 aw7 Hhq2.out) (by rw [aw3]) (by rw [aw3])).mono ?_
  rintro e w4 ⟨rfl, hq3, hs3⟩
  have Hhq3 := Lib.hid hq3
  have Hhs3 := Lib.hid hs3
  clear hq3 hs3
  go_wp2_with fail
  refine (ans (w0 := w) (v' := .int .i64 2200) (xs' := [(aa, true), (ab, false)]) Hhs3.out (Break_any _ w4 w.heap.size _ 0 1 3 aw8 Hhq3.out) (by rw [aw4]) (by rw [aw4])).mono ?_
  rintro e w5 ⟨rfl, hq4, hs4⟩
  have Hhq4 := Lib.hid hq4
  have Hhs4 := Lib.hid hs4
  clear hq4 hs4
  go_wp2_with fail
  refine (ans (w0 := w) (v' := .tuple #[.string aa, .int .i64 0]) (xs' := [(ab, false)]) Hhs4.out (Take_any _ w5 w.heap.size _ 0 (by decide) Hhq4.out) (by rw [aw5]) (by rw [aw5])).mono ?_
  rintro e w6 ⟨rfl, hq5, hs5⟩
  have Hhq5 := Lib.hid hq5
  have Hhs5 := Lib.hid hs5
  clear hq5 hs5
  go_wp2_with fail
  refine (ans (w0 := w) (v' := .tuple #[.string ⟨#[]⟩, .int .i64 2201]) (xs' := [(ab, false)]) Hhs5.out (Take_any _ w6 w.heap.size _ 5 (by decide) Hhq5.out) (by rw [aw6]) (by rw [aw6])).mono ?_
  rintro e w7 ⟨rfl, hq6, hs6⟩
  have Hhq6 := Lib.hid hq6
  have Hhs6 := Lib.hid hs6
  clear hq6 hs6
  go_wp2_with fail
  refine (All_any _ w7 w.heap.size _ (by decide) Hhq6.out).mono ?_
  rintro e w8 h8
  obtain ⟨v, rfl, hs7, hr⟩ := all_row h8
  have hr1 := hr (by decide +kernel)
  obtain ⟨A, c, rfl, -, -⟩ := sl_len hr1
  obtain ⟨ad, rfl, hc⟩ := str_cell hr1 0 (by decide)
  have hs8 := Hhs6.out.trans hs7 (fun _ f _ => f)
  clear hr h8 hs7 hr1
  have Hhs8 := Lib.hid hs8
  clear hs8
  have hc1 : w8.cell? ad = some (.string ⟨#[97, 98]⟩) := hc
  have hc2 : w8.cell? (ad.add 0) = some (.string ⟨#[97, 98]⟩) := hc
  clear hc
  go_upto_region 12 with (fail)
  unfold aa
  go_wp2_with fail
  refine (num_any _ _).mono ?_
  rintro e w' ⟨rfl, rfl⟩
  go_wp2_with fail
  refine (num_any _ _).mono ?_
  rintro e w' ⟨rfl, rfl⟩
  go_wp2_with fail
  refine (num_any _ _).mono ?_
  rintro e w' ⟨rfl, rfl⟩
  go_wp2_with fail
  refine (num_any _ _).mono ?_
  rintro e w' ⟨rfl, rfl⟩
  go_wp2_with fail
  refine (num_any _ _).mono ?_
  rintro e w' ⟨rfl, rfl⟩
  go_wp2_with fail
  refine (put_nil _ _).mono ?_
  rintro e w' ⟨rfl, rfl⟩
  go_wp2_with fail
  refine (All_nil _).mono ?_
  rintro e w' ⟨rfl, rfl⟩
  go_wp2_with fail
  go_ret
  exact ⟨rfl, Hhs8.out⟩
end Go.Proofs.Ytmhnnkifkbamoaa.QLaw
