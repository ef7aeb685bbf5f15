/- The law that scripts come back. -/
import Derived.Test.YtjeamfoicpgkhaaDoorScrAwake
namespace Go.Proofs.YtjeamfoicpgkhaaDoor.ScrW
open Go.RowKit Go.Lib Go.Proofs.YtjeamfoicpgkhaaDoor Go.Proofs.YtjeamfoicpgkhaaDoor.Mem Go.Proofs.YtjeamfoicpgkhaaDoor.Scr Go.Proofs.YtjeamfoicpgkhaaDoor.Read Go.Proofs.YtjeamfoicpgkhaaDoor.Env Go.Proofs.YtjeamfoicpgkhaaDoor.Take Go.Proofs.YtjeamfoicpgkhaaDoor.Taker
open Go.Proofs.YtjeamfoicpgkhaaDoor.Writer (EnvS)
set_option linter.unusedVariables false
set_option linter.unusedSimpArgs false
theorem show_size {xs : List ActD} (h : Scr.Good xs) : (⟨(showActs xs).toArray⟩ : ByteArray).size ≤ 409600 := by
  rw [t_size]
  have := showActs_len xs h.2
  have := h.1
  omega
/-- Both ways of a text that is read. -/
theorem reads_ways {s : ByteArray} {acts : List ActD} {err : Int} (h : Reads s (acts, err)) : (err = 0 ∧ showS acts = (s, 0)) ∨ (err = 2300 ∧ acts = []) := by
  rcases h with ⟨h1, h2, h3⟩ | ⟨h1, -⟩
  · refine .inl ⟨h1, ?_⟩
    unfold showS
    simp only at h2 h3
    rw [if_pos h2, h3]
  · injection h1 with h1 h2
    exact .inr ⟨h2, h1⟩
theorem show_ways (xs : List ActD) : (Scr.Good xs ∧ ∃ U : ByteArray, showS xs = (U, 0) ∧ Reads U (xs, 0) ∧ U.size ≤ 409600) ∨ (¬ Scr.Good xs ∧ showS xs = (⟨#[]⟩, 2300)) := by
  by_cases h : Scr.Good xs
  · exact .inl ⟨h, ⟨(showActs xs).toArray⟩, by unfold showS; rw [if_pos h], .inl ⟨rfl, h, rfl⟩, show_size h⟩
  · exact .inr ⟨h, by unfold showS; rw [if_neg h]⟩
theorem acts_of_post {w' : World} {acts : List ActD} {v : Value} (hrow : w'.ownsRow 0 TA 6 v acts.length (acts.flatMap actCells)) (htx : ∀ a ∈ acts, a.text.size ≤ maxLen) : ActS w' acts v :=
  SlR.ofRow (by decide) hrow (fun a _ => rfl) (fun a ha => ⟨rfl, htx a ha⟩)
theorem ActS.to {w w' : World} {xs : List ActD} {v : Value} (h : ActS w xs v) (hs : Step No w w') : ActS w' xs v := SlR.step h (fun _ _ h => h) hs
set_option maxHeartbeats 4000000 in
set_option maxRecDepth 100000 in
theorem ScriptBack_any (s : ByteArray) (w : World) (hz : s.size ≤ 140737488351232) (v : Value) (xs : List ActD) (hx : ActS w xs v) (hE : Env w) :
    Calls Tryd.prog 4 #[v, .string s] w fun e w' => e = .returned (.bool true) ∧ Step No w w' := by
  have HE := Lib.hid hE
  have HX := Lib.hid hx
  have HZ : Hid (s.size ≤ 140737488355328) := Lib.hid (by omega)
  obtain ⟨A, c, rfl, -, -⟩ := acts_len hx
  clear hE hx hz
  go_enter Tryd.func4, Tryd.ntmps4
  go_wp2_with fail
  refine (awake_any _ HE.out).mono ?_
  rintro e w0 ⟨rfl, h0⟩
  have H0 := Lib.hid h0
  clear h0
  have HX0 := Lib.hid (HX.out.to H0.out)
  go_wp2_with fail
  refine (Show_any _ _ xs HX0.out (HE.out.step H0.out)).mono ?_
  rintro e w1 ⟨rfl, hs1⟩
  have H1 := Lib.hid (H0.out.trans hs1 (fun _ f _ => f))
  have HX1 := Lib.hid (HX0.out.to hs1)
  clear hs1 H0 HX0
  rcases show_ways xs with ⟨-, U, h1, h2, h3⟩ | ⟨-, h1⟩
  · rw [h1]
    have HR := Lib.hid h2
    have HU : Hid (U.size ≤ 140737488355328) := Lib.hid (by omega)
    clear h1 h2 h3
    go_wp2_with fail
    refine (num_any _ _).mono ?_
    rintro e w' ⟨rfl, rfl⟩
    go_wp2_with fail
    refine (Parse_any _ U HU.out (HE.out.step H1.out)).mono ?_
    rintro e w2 ⟨v2, acts, err, rfl, hr, hrow, hk, htx, hs2⟩
    have h1 := reads_one hr HR.out
    injection h1 with h2 h3
    subst h2 h3
    have HA2 := Lib.hid (acts_of_post hrow htx)
    have HX2 := Lib.hid (HX1.out.to hs2)
    have H2 := Lib.hid (H1.out.trans hs2 (fun _ f _ => f))
    clear hr hrow hk htx hs2 H1 HX1
    go_wp2_with fail
    refine (num_any _ _).mono ?_
    rintro e w' ⟨rfl, rfl⟩
    go_wp2_with fail
    refine (SameActs_any _ acts acts _ _ HX2.out HA2.out).mono ?_
    rintro e w3 ⟨r, rfl, hr, hs3⟩
    obtain rfl : r = true := hr.2 rfl
    have H3 := Lib.hid (H2.out.trans hs3 (fun _ f _ => f))
    clear hr hs3 HX2 HA2 H2
    go_wp2_with fail
    refine (Parse_any _ s HZ.out (HE.out.step H3.out)).mono ?_
    rintro e w4 ⟨v4, acts, err, rfl, hr, hrow, hk, htx, hs4⟩
    have HA4 := Lib.hid (acts_of_post hrow htx)
    have H4 := Lib.hid (H3.out.trans hs4 (fun _ f _ => f))
    obtain ⟨A4, c4, rfl⟩ : ∃ A c, v4 = .slice A acts.length c := by obtain ⟨A, c, h, _⟩ := acts_len HA4.out; exact ⟨A, c, h⟩
    clear hrow hk htx hs4
    rcases reads_ways hr with ⟨rfl, h5⟩ | ⟨rfl, rfl⟩
    · have HS5 := Lib.hid h5
      clear h5 hr
      go_wp2_with fail
      refine (num_any _ _).mono ?_
      rintro e w' ⟨rfl, rfl⟩
      go_wp2_with fail
      refine (Show_any _ _ acts HA4.out (HE.out.step H4.out)).mono ?_
      rintro e w5 ⟨rfl, hs5⟩
      rw [HS5.out]
      have H5 := Lib.hid (H4.out.trans hs5 (fun _ f _ => f))
      clear hs5
      go_wp2_with fail
      refine (num_any _ _).mono ?_
      rintro e w' ⟨rfl, rfl⟩
      have hb : (s.toList == s.toList) = true := beq_self_eq_true _
      go_wp2
      go_ret
      exact ⟨rfl, H5.out⟩
    · clear hr
      go_wp2_with fail
      refine (num_any _ _).mono ?_
      rintro e w' ⟨rfl, rfl⟩
      go_wp2
      go_ret
      exact ⟨rfl, H4.out⟩
  · rw [h1]
    clear h1
    go_wp2_with fail
    refine (num_any _ _).mono ?_
    rintro e w' ⟨rfl, rfl⟩
    go_wp2_with fail
    refine (Parse_any _ s HZ.out (HE.out.step H1.out)).mono ?_
    rintro e w4 ⟨v4, acts, err, rfl, hr, hrow, hk, htx, hs4⟩
    have HA4 := Lib.hid (acts_of_post hrow htx)
    have H4 := Lib.hid (H1.out.trans hs4 (fun _ f _ => f))
    obtain ⟨A4, c4, rfl⟩ : ∃ A c, v4 = .slice A acts.length c := by obtain ⟨A, c, h, _⟩ := acts_len HA4.out; exact ⟨A, c, h⟩
    clear hrow hk htx hs4
    rcases reads_ways hr with ⟨rfl, h5⟩ | ⟨rfl, rfl⟩
    · have HS5 := Lib.hid h5
      clear h5 hr
      go_wp2_with fail
      refine (num_any _ _).mono ?_
      rintro e w' ⟨rfl, rfl⟩
      go_wp2_with fail
      refine (Show_any _ _ acts HA4.out (HE.out.step H4.out)).mono ?_
      rintro e w5 ⟨rfl, hs5⟩
      rw [HS5.out]
      have H5 := Lib.hid (H4.out.trans hs5 (fun _ f _ => f))
      clear hs5
      go_wp2_with fail
      refine (num_any _ _).mono ?_
      rintro e w' ⟨rfl, rfl⟩
      have hb : (s.toList == s.toList) = true := beq_self_eq_true _
      go_wp2
      go_ret
      exact ⟨rfl, H5.out⟩
    · clear hr
      go_wp2_with fail
      refine (num_any _ _).mono ?_
      rintro e w' ⟨rfl, rfl⟩
      go_wp2
      go_ret
      exact ⟨rfl, H4.out⟩
theorem ScriptBack_fin (s : ByteArray) (w : World) (hz : s.size ≤ 140737488351232) (v : Value) (xs : List ActD) (hx : ActS w xs v) (hE : Env w) :
    Calls Tryd.prog 4 #[v, .string s] w fun e w' => e = .returned (.bool true) ∧ Below w.heap.size w w' :=
  (ScriptBack_any s w hz v xs hx hE).mono fun _ _ h => ⟨h.1, h.2.below⟩
end Go.Proofs.YtjeamfoicpgkhaaDoor.ScrW
