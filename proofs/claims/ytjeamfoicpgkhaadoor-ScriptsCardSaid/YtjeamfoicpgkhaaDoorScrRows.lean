/- The law that a text of two scripts is both, one behind the other. -/
import Derived.Test.YtjeamfoicpgkhaaDoorScrBack
import Derived.Test.YtjeamfoicpgkhaaDoorAppSl
namespace Go.Proofs.YtjeamfoicpgkhaaDoor.ScrW
open Go.RowKit Go.Lib Go.Proofs.YtjeamfoicpgkhaaDoor Go.Proofs.YtjeamfoicpgkhaaDoor.Mem Go.Proofs.YtjeamfoicpgkhaaDoor.Scr Go.Proofs.YtjeamfoicpgkhaaDoor.Read Go.Proofs.YtjeamfoicpgkhaaDoor.Env Go.Proofs.YtjeamfoicpgkhaaDoor.Take Go.Proofs.YtjeamfoicpgkhaaDoor.Taker Go.Proofs.YtjeamfoicpgkhaaDoor.AppSl
open Go.Proofs.YtjeamfoicpgkhaaDoor.Writer (EnvS)
set_option linter.unusedVariables false
set_option linter.unusedSimpArgs false
/-- A new row of one's own that holds xs. -/
def OwnA (w : World) (xs : List ActD) (v : Value) (w' : World) : Prop := w'.ownsRow 0 TA 6 v xs.length (xs.flatMap actCells) ∧ (∀ k, v.ownBlock = some k → w.heap.size ≤ k) ∧ Step No w w'
def OwnPost (xs : List ActD) (w : World) (e : Ending) (w' : World) : Prop := ∃ v, e = .returned v ∧ OwnA w xs v w'
theorem OwnA.next {w w1 w2 : World} {xs ys : List ActD} {v v1 : Value} (h : OwnA w xs v w1) (ho : w2.ownsRow 0 TA 6 v1 (xs.length + ys.length) (xs.flatMap actCells ++ ys.flatMap actCells)) {w0 : World} (hs : Step No w1 w0) (hg : w0.grownBy w2 v.ownBlock) (hat : v1.ownBlock = v.ownBlock ∨ v1.ownBlock = some w0.heap.size) :
    OwnA w (xs ++ ys) v1 w2 := by
  obtain ⟨h1, h2, h3⟩ := h
  refine ⟨by rw [List.length_append, List.flatMap_append]; exact ho, fun k hk => ?_, (h3.trans hs (fun _ f _ => f)).grown hg (fun k hk hlt => absurd (h2 k hk) (by omega))⟩
  rcases hat with hat | hat
  · exact h2 k (by rw [← hat, hk])
  · rw [hk] at hat
    injection hat with hat
    rw [hat]
    exact (h3.trans hs (fun _ f _ => f)).size
theorem acts_one {xs : List ActD} : ∀ u ∈ xs.flatMap actCells, u.oneCell' = true := by
  intro u hu
  obtain ⟨a, -, ha⟩ := List.mem_flatMap.1 hu
  simp only [actCells, List.mem_cons, List.not_mem_nil, or_false] at ha
  rcases ha with rfl | rfl | rfl | rfl | rfl | rfl <;> rfl
theorem acts_news {w : World} {xs : List ActD} {A : Option Addr} {n c : Nat} (h : ActS w xs (.slice A n c)) :
    (A = none → xs.length = 0) ∧ (xs.flatMap actCells).length = xs.length * 6 ∧ ∀ ad, A = some ad → ∀ j u, (xs.flatMap actCells)[j]? = some u → w.cell? (ad.add j) = some u :=
  sl_news (by decide) (fun _ _ _ h => h.1) h
set_option maxHeartbeats 1000000 in
theorem CopyActs_any (w : World) (xs : List ActD) (v : Value) (hx : ActS w xs v) (hl : xs.length * 56 ≤ 140737488355328) : Calls Tryd.prog 19 #[v] w (OwnPost xs w) := by
  obtain ⟨A, c, rfl, h1, h2⟩ := acts_len hx
  have HL : Hid (xs.length * 56 ≤ 140737488355328) := Lib.hid hl
  have HX := Lib.hid (hx.to (Step.alloc (Step.refl No w) (.cells #[] TA)))
  have H0 := Lib.hid (show OwnA w [] (.slice (some ⟨w.heap.size, 0, none⟩) 0 0) (w.alloc (.cells #[] TA)) from ⟨World.ownsRow_lit w #[] 0 (Nat.zero_le _) (Nat.zero_le _) rfl, fun k hk => by simp [Value.ownBlock] at hk; omega, Step.alloc (Step.refl _ _) _⟩)
  clear hx hl
  go_enter Tryd.func19, Tryd.ntmps19
  go_wp2_with (at_builtin; refine list_append_sl _ rfl (.tmp 3) (.tmp 4) 22 37 _ 6 56 rfl Tryd.underlying22 infoA rfl (by decide) (.slice (some ⟨w.heap.size, 0, none⟩) 0 0) 0 [] rfl (by exact H0.out.1) A xs.length c (xs.flatMap actCells) rfl (acts_news HX.out).1 (acts_news HX.out).2.1 (acts_news HX.out).2.2 acts_one (by have := HL.out; unfold maxLen; omega) (by have := HL.out; omega) ?_; intro v1 w2 hown hg hat; have HQ := Lib.hid (H0.out.next (ys := xs) (v1 := v1) (by simpa using hown) (Step.refl _ _) hg hat); clear hown hg hat)
  go_ret
  exact ⟨_, rfl, HQ.out⟩
theorem reads_two {U V : ByteArray} {xs ys : List ActD} (h : Reads U (xs, 0)) (k : Reads V (ys, 0)) (hl : xs.length + ys.length ≤ 1024) : Reads (U ++ V) (xs ++ ys, 0) := by
  rcases h with ⟨-, h1, h2⟩ | ⟨h1, -⟩
  · rcases k with ⟨-, k1, k2⟩ | ⟨k1, -⟩
    · refine .inl ⟨rfl, ⟨by rw [List.length_append]; exact hl, fun a ha => ?_⟩, ?_⟩
      · rcases List.mem_append.1 ha with ha | ha
        · exact h1.2 a ha
        · exact k1.2 a ha
      · simp only at h2 k2
        rw [showActs_app, h2, k2, ByteArray.data_append, Array.toList_append]
    · cases k1
  · cases h1
theorem OwnA.acts {w w' : World} {xs : List ActD} {v : Value} (h : OwnA w xs v w') (ht : ∀ a ∈ xs, a.text.size ≤ maxLen) : ActS w' xs v := acts_of_post h.1 ht
theorem ActS.text {w : World} {xs : List ActD} {v : Value} (h : ActS w xs v) : ∀ a ∈ xs, a.text.size ≤ maxLen := by
  intro a ha
  obtain ⟨A, c, -, -, -, h3⟩ := h
  obtain ⟨j, hj, rfl⟩ := List.getElem_of_mem ha
  obtain ⟨ad, cs, -, -, hr, -⟩ := h3 j hj
  exact hr.2
set_option maxHeartbeats 8000000 in
set_option maxRecDepth 100000 in
theorem ScriptRows_any (w : World) (v1 : Value) (xs : List ActD) (hx : ActS w xs v1) (v2 : Value) (ys : List ActD) (hy : ActS w ys v2) (hE : Env w) :
    Calls Tryd.prog 6 #[v1, v2] w fun e w' => e = .returned (.bool true) ∧ Step No w w' := by
  have HE := Lib.hid hE
  have HX := Lib.hid hx
  have HY := Lib.hid hy
  obtain ⟨A, c, rfl, hc1, hc2⟩ := acts_len hx
  obtain ⟨B, d, rfl, hd1, hd2⟩ := acts_len hy
  unfold maxLen at hc2 hd2
  clear hE hx hy
  go_enter Tryd.func6, Tryd.ntmps6
  go_wp2_with fail
  refine (awake_any _ HE.out).mono ?_
  rintro e w0 ⟨rfl, h0⟩
  have H0 := Lib.hid h0
  clear h0
  have HX0 := Lib.hid (HX.out.to H0.out)
  have HY0 := Lib.hid (HY.out.to H0.out)
  go_wp2_with fail
  refine (Show_any _ _ xs HX0.out (HE.out.step H0.out)).mono ?_
  rintro e w1 ⟨rfl, hs1⟩
  have H1 := Lib.hid (H0.out.trans hs1 (fun _ f _ => f))
  have HX1 := Lib.hid (HX0.out.to hs1)
  have HY1 := Lib.hid (HY0.out.to hs1)
  clear hs1 H0 HX0 HY0
  go_wp2_with fail
  refine (Show_any _ _ ys HY1.out (HE.out.step H1.out)).mono ?_
  rintro e w2 ⟨rfl, hs2⟩
  have H2 := Lib.hid (H1.out.trans hs2 (fun _ f _ => f))
  have HX2 := Lib.hid (HX1.out.to hs2)
  have HY2 := Lib.hid (HY1.out.to hs2)
  clear hs2 H1 HX1 HY1
  rcases show_ways xs with ⟨hgx, U, h1, h2, h3⟩ | ⟨-, h1⟩
  · rcases show_ways ys with ⟨hgy, V, k1, k2, k3⟩ | ⟨-, k1⟩
    · rw [h1, k1]
      have HLx : Hid (xs.length * 56 ≤ 140737488355328) := Lib.hid (by have := hgx.1; omega)
      have hlx : xs.length ≤ 1024 := hgx.1
      have hly : ys.length ≤ 1024 := hgy.1
      clear h1 k1 hgx hgy
      go_wp2_with fail
      refine (num_any _ _).mono ?_
      rintro e w' ⟨rfl, rfl⟩
      go_wp2_with fail
      refine (num_any _ _).mono ?_
      rintro e w' ⟨rfl, rfl⟩
      by_cases hlen : 1024 < xs.length + ys.length
      · have hb : decide ((1024 : Int) < (xs.length : Int) + ys.length) = true := decide_eq_true (by omega)
        clear h2 k2
        go_wp2_with fail
        refine (num_any _ _).mono ?_
        rintro e w' ⟨rfl, rfl⟩
        go_wp2_with fail
        refine (num_any _ _).mono ?_
        rintro e w' ⟨rfl, rfl⟩
        go_wp2
        go_ret
        exact ⟨rfl, H2.out⟩
      · have hb : decide ((1024 : Int) < (xs.length : Int) + ys.length) = false := decide_eq_false (by omega)
        have HR := Lib.hid (reads_two h2 k2 (by omega))
        have hUV : U.size + V.size ≤ 9223372036854775807 := by omega
        have HZ : Hid ((U ++ V).size ≤ 140737488355328) := Lib.hid (by rw [ByteArray.size_append]; omega)
        clear h2 k2
        go_wp2_with fail
        refine (Parse_any _ (U ++ V) HZ.out (HE.out.step H2.out)).mono ?_
        rintro e w3 ⟨v3, acts, err, rfl, hr, hrow, hk, htx, hs3⟩
        have h1 := reads_one hr HR.out
        injection h1 with h2 h3'
        subst h3'
        clear hr
        obtain ⟨zs, HZS⟩ : ∃ zs, Hid (xs ++ ys = zs) := ⟨_, Lib.hid rfl⟩
        rw [HZS.out] at h2
        subst h2
        have HA3 := Lib.hid (acts_of_post hrow htx)
        have HX3 := Lib.hid (HX2.out.to hs3)
        have HY3 := Lib.hid (HY2.out.to hs3)
        have H3 := Lib.hid (H2.out.trans hs3 (fun _ f _ => f))
        obtain ⟨A3, c3, rfl⟩ : ∃ A c, v3 = .slice A acts.length c := by obtain ⟨A, c, h, _⟩ := acts_len HA3.out; exact ⟨A, c, h⟩
        clear hrow hk htx hs3 H2 HX2 HY2
        go_wp2_with fail
        refine (CopyActs_any _ xs _ HX3.out HLx.out).mono ?_
        rintro e w4 ⟨v4, rfl, ho⟩
        have HO := Lib.hid ho
        clear ho
        go_wp2_with fail
        go_loopw [11, 12] (fun v i wr => ∃ k : Nat, k ≤ ys.length ∧ i = .int .i64 k ∧ OwnA w3 (xs ++ ys.take k) v wr) (fun _ i _ => ys.length - (RowKit.intOf i).toNat)
        case atStart => exact ⟨0, Nat.zero_le _, rfl, by simpa using HO.out⟩
        case round =>
          obtain ⟨k, hk, rfl, ho⟩ := hrel
          by_cases hlt : k < ys.length
          · obtain ⟨ad, rfl, -, d0, d1, d2, d3, d4, d5⟩ := acts_cells (HY3.out.to ho.2.2) k hlt
            have hi1 : (k : Int) < ys.length := by omega
            have hi0 : (0 : Int) ≤ k := by omega
            have HT : Hid (ys.take (k + 1) = ys.take k ++ [ys[k]]) := Lib.hid (List.take_succ_eq_append_getElem hlt)
            obtain ⟨zk, HZk, hzk⟩ : ∃ zk, Hid (xs ++ ys.take k = zk) ∧ zk.length ≤ 1024 := ⟨_, Lib.hid rfl, by rw [List.length_append, List.length_take]; omega⟩
            have HLk := Lib.hid hzk
            clear hzk
            rw [HZk.out] at ho
            generalize ys[k] = a at *
            obtain ⟨kd, cl, up, pl, n, t⟩ := a
            simp only at d0 d1 d2 d3 d4 d5
            obtain ⟨g4, k4, rfl, -⟩ := row_slice ho.1
            have HP := Lib.hid ho
            clear ho
            go_wp2_with (at_builtin; refine list_append_own _ rfl (.tmp 72) (.tmp 77) 22 37 _ 6 56 rfl Tryd.underlying22 infoA rfl (by decide) (.slice g4 zk.length k4) zk.length (zk.flatMap actCells) rfl (by exact row_move HP.out.1 (fun k hk => (Step.alloc (Step.refl No wr) _).block k (HP.out.1.lt k hk).2 (fun f => f))) ⟨wr.heap.size, 0, none⟩ 1 1 [.int .i64 kd, .int .i64 cl, .bool up, .int .i64 pl, .int .i64 n, .string t] rfl rfl (by exact cells_new wr #[.int .i64 kd, .int .i64 cl, .bool up, .int .i64 pl, .int .i64 n, .string t] 37) (by simp [Value.oneCell']) (by have := HLk.out; unfold maxLen; omega) (by have := HLk.out; omega) ?_; intro v5 w5 hown hg hat; have HQ := Lib.hid (HP.out.next (ys := [⟨kd, cl, up, pl, n, t⟩]) (by simpa [actCells] using hown) (Step.alloc (Step.refl No wr) _) hg hat); clear hown hg hat)
            go_roundw
            case rel => exact ⟨k + 1, hlt, rfl, by rw [HT.out, ← List.append_assoc, HZk.out]; have h := HQ.out; exact h⟩
            case measure => simp [RowKit.intOf]; omega
          · obtain rfl : k = ys.length := by omega
            rw [List.take_length, HZS.out] at ho
            have HF := Lib.hid (ho.acts (fun a ha => HA3.out.text a ha))
            have HG := Lib.hid (HA3.out.to ho.2.2)
            have H5 := Lib.hid (H3.out.trans ho.2.2 (fun _ f _ => f))
            obtain ⟨g4, k4, rfl, -⟩ := row_slice ho.1
            clear ho
            go_wp2_with fail
            refine (num_any _ _).mono ?_
            rintro e w' ⟨rfl, rfl⟩
            go_wp2_with fail
            refine (SameActs_any _ _ _ _ _ HG.out HF.out).mono ?_
            rintro e w6 ⟨r, rfl, hr, hs6⟩
            obtain rfl : r = true := hr.2 rfl
            have H6 := Lib.hid (H5.out.trans hs6 (fun _ f _ => f))
            clear hr hs6
            go_wp2
            go_ret
            exact ⟨rfl, H6.out⟩
    · rw [h1, k1]
      clear h1 k1 h2 h3 hgx
      go_wp2_with fail
      refine (num_any _ _).mono ?_
      rintro e w' ⟨rfl, rfl⟩
      go_wp2_with fail
      refine (num_any _ _).mono ?_
      rintro e w' ⟨rfl, rfl⟩
      go_wp2_with fail
      refine (num_any _ _).mono ?_
      rintro e w' ⟨rfl, rfl⟩
      go_wp2_with fail
      refine (num_any _ _).mono ?_
      rintro e w' ⟨rfl, rfl⟩
      go_wp2
      go_ret
      exact ⟨rfl, H2.out⟩
  · rcases show_ways ys with ⟨hgy, V, k1, k2, k3⟩ | ⟨-, k1⟩
    · rw [h1, k1]
      clear h1 k1 k2 k3 hgy
      go_wp2_with fail
      refine (num_any _ _).mono ?_
      rintro e w' ⟨rfl, rfl⟩
      go_wp2_with fail
      refine (num_any _ _).mono ?_
      rintro e w' ⟨rfl, rfl⟩
      go_wp2_with fail
      refine (num_any _ _).mono ?_
      rintro e w' ⟨rfl, rfl⟩
      go_wp2
      go_ret
      exact ⟨rfl, H2.out⟩
    · rw [h1, k1]
      clear h1 k1
      go_wp2_with fail
      refine (num_any _ _).mono ?_
      rintro e w' ⟨rfl, rfl⟩
      go_wp2_with fail
      refine (num_any _ _).mono ?_
      rintro e w' ⟨rfl, rfl⟩
      go_wp2_with fail
      refine (num_any _ _).mono ?_
      rintro e w' ⟨rfl, rfl⟩
      go_wp2
      go_ret
      exact ⟨rfl, H2.out⟩
theorem ScriptRows_fin (w : World) (v1 : Value) (xs : List ActD) (hx : ActS w xs v1) (v2 : Value) (ys : List ActD) (hy : ActS w ys v2) (hE : Env w) :
    Calls Tryd.prog 6 #[v1, v2] w fun e w' => e = .returned (.bool true) ∧ Below w.heap.size w w' :=
  (ScriptRows_any w v1 xs hx v2 ys hy hE).mono fun _ _ h => ⟨h.1, h.2.below⟩
end Go.Proofs.YtjeamfoicpgkhaaDoor.ScrW
