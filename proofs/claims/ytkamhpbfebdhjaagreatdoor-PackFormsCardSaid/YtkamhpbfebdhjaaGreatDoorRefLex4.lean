/- The document's tokens of a text, all of them. -/
import Derived.Test.YtkamhpbfebdhjaaGreatDoorRefLex3
namespace Go.Proofs.YtkamhpbfebdhjaaGreatDoor.RefLex4
open Go.RowKit Go.Lib Go.Proofs.YtkamhpbfebdhjaaGreatDoor.Mem Go.Proofs.YtkamhpbfebdhjaaGreatDoor.Read Go.Proofs.YtkamhpbfebdhjaaGreatDoor.Tree Go.Proofs.YtkamhpbfebdhjaaGreatDoor.Data Go.Proofs.YtkamhpbfebdhjaaGreatDoor.OwnR Go.Proofs.YtkamhpbfebdhjaaGreatDoor.Tr Go.Proofs.YtkamhpbfebdhjaaGreatDoor.ParS Go.Proofs.YtkamhpbfebdhjaaGreatDoor.LexS Go.Proofs.YtkamhpbfebdhjaaGreatDoor.RefLex Go.Proofs.YtkamhpbfebdhjaaGreatDoor.RefLex2 Go.Proofs.YtkamhpbfebdhjaaGreatDoor.RefLex3
set_option linter.unusedVariables false
set_option linter.unusedSimpArgs false
def encTk (t : TokD) : List Value := [.int .i64 t.kind, .int .i64 t.fr, .int .i64 t.up]
abbrev TksW (base : Nat) : World → List TokD → Value → Prop := RowO TTk 3 base encTk (fun _ _ => True)
theorem stabTk (base : Nat) : Stable (fun _ => True) base (fun (_ : World) (_ : TokD) => True) := stable_true _ _
theorem toks_go {S : ByteArray} {z f : Nat} {ds : List TokD} (hf : S.size ≤ z + f) (h : ds ++ toksF S f z = toksS S) (hz : z < S.size) : ∃ g, f = g + 1 ∧ S.size ≤ (tokenS S z).2 + g ∧ (ds ++ [⟨(tokenS S z).1, z, ((tokenS S z).2 : Nat)⟩]) ++ toksF S g (tokenS S z).2 = toksS S := by
  obtain ⟨g, rfl⟩ : ∃ g, f = g + 1 := ⟨f - 1, by omega⟩
  have h1 := token_le hz
  refine ⟨g, rfl, by omega, ?_⟩
  rw [← h]
  simp only [toksF]
  rw [if_pos hz]
  simp
theorem toks_end {S : ByteArray} {z f : Nat} {ds : List TokD} (h : ds ++ toksF S f z = toksS S) (hz : ¬ z < S.size) : ds = toksS S := by
  rw [← h]
  cases f with
  | zero => simp [toksF]
  | succ f => simp only [toksF]; rw [if_neg hz]; simp
def ToksPost (S : ByteArray) (w : World) (e : Ending) (w' : World) : Prop := ∃ v, e = .returned (.tuple #[v, .int .i64 0]) ∧ TksW w.heap.size w' (toksS S) v ∧ Step No w w'
theorem Tokens_long (S : ByteArray) (hS : 300 < S.size) (w : World) : Calls Tryz.prog 12 #[.string S] w fun e w' => e = .returned (.tuple #[.slice none 0 0, .int .i64 900]) ∧ w = w' := by
  go_enter Tryz.func12, Tryz.ntmps12
  go_wp2
  go_ret2
  exact ⟨rfl, rfl⟩
set_option maxHeartbeats 4000000 in
theorem Tokens_any (S : ByteArray) (hS : S.size ≤ 300) (w : World) : Calls Tryz.prog 12 #[.string S] w (ToksPost S w) := by
  go_enter Tryz.func12, Tryz.ntmps12
  go_wp2
  go_loopw [4, 5] (fun o i wr => ∃ (k f : Nat) (ds : List TokD), k ≤ S.size ∧ S.size ≤ k + f ∧ ds.length ≤ k ∧ i = .int .i64 k ∧ Hid (ds ++ toksF S f k = toksS S) ∧ TksW w.heap.size wr ds o ∧ Step No w wr) (fun _ i _ => S.size - (RowKit.intOf i).toNat)
  case atStart => exact ⟨0, S.size, [], Nat.zero_le _, by omega, Nat.le_refl _, rfl, Lib.hid (by simp [toksS]), RowO.nil _, Step.refl _ _⟩
  case round =>
    obtain ⟨k, f, ds, hk, hf, hdl, rfl, hq, ho, hs⟩ := hrel
    obtain ⟨A, c, rfl, -, -⟩ := row_slice ho.1
    have HO := Lib.hid ho
    have HS := Lib.hid hs
    clear ho hs
    by_cases hlt : k < S.size
    · have htl := token_le hlt
      obtain ⟨g, rfl, hg, hq2⟩ := toks_go hf hq.out hlt
      have hq2 := Lib.hid hq2
      clear hq
      obtain ⟨n, hn⟩ : ∃ n, ds.length = n := ⟨_, rfl⟩
      have HN := Lib.hid hn
      rw [hn] at hdl ⊢
      clear hn
      go_wp2_with fail
      refine (token_any S (by omega) k hlt _).mono ?_
      unfold TokPost
      generalize tokenS S k = tr at *
      obtain ⟨tk, te⟩ := tr
      simp only at htl hg
      rintro e w2 ⟨rfl, hs2⟩
      simp only
      have HO2 := Lib.hid (RowO.no (stabTk _) HO.out hs2)
      have HS2 : Hid (Step No w w2) := Lib.hid (HS.out.trans hs2 (fun _ f _ => f))
      clear hs2 HO HS
      go_upto_region 7 with (fail)
      have hX := blk_new w2 (.cells #[.int .i64 tk, .int .i64 (k : Nat), .int .i64 (te : Nat)] TTk)
      have hs3 : Step No w2 (w2.alloc (.cells #[.int .i64 tk, .int .i64 (k : Nat), .int .i64 (te : Nat)] TTk)) := (Step.refl No w2).alloc _
      have HLt : Hid (∀ j, (Value.slice A n c).ownBlock = some j → j < w2.heap.size) := Lib.hid fun j hj => (HO2.out.1.lt j (by rw [HN.out]; exact hj)).2
      generalize hW : World.alloc w2 _ = w3 at *
      generalize w2.heap.size = X at *
      clear hW
      have HX := Lib.hid hX
      have HO3 := Lib.hid (RowO.no (stabTk _) HO2.out hs3)
      have HS3 : Hid (Step No w w3) := Lib.hid (HS2.out.trans hs3 (fun _ f _ => f))
      have x0 := blk_cell HX.out 0
      have x1 := blk_cell HX.out 1
      have x2 := blk_cell HX.out 2
      simp at x0 x1 x2
      have HO4 := Lib.hid (RowO.no (stabTk _) HO3.out (Step.alloc (Step.refl No w3) (.cells #[.int .i64 tk, .int .i64 (k : Nat), .int .i64 (te : Nat)] TTk)))
      have HZ4 : Hid (w.heap.size ≤ (w3.alloc (.cells #[.int .i64 tk, .int .i64 (k : Nat), .int .i64 (te : Nat)] TTk)).heap.size) := Lib.hid (Nat.le_trans HS3.out.size (by simp))
      have hm9 : n + 1 ≤ maxLen := by unfold maxLen; omega
      have hb9 : (n + 1) * 24 ≤ 140737488355328 := by omega
      rw [HN.out] at HO4
      clear hX hs3 HO2 HS2
      go_upto_region 8 with (at_builtin; go_loud (refine list_append_own _ rfl (.tmp 17) (.tmp 19) 51 58 _ 3 24 rfl Tryz.underlying51 infoTk rfl (by decide) (.slice A n c) n (ds.flatMap encTk) rfl (by have := HO4.out.1; rw [HN.out] at this; exact this) ⟨w3.heap.size, 0, none⟩ 1 1 [.int .i64 tk, .int .i64 (k : Nat), .int .i64 (te : Nat)] rfl rfl (by exact cells_new w3 #[.int .i64 tk, .int .i64 (k : Nat), .int .i64 (te : Nat)] TTk) (by simp [Value.oneCell']) hm9 hb9 ?_; intro v5 w5 hown hg hat; have HR5 := Lib.hid (RowO.next (stabTk _) (x := ⟨tk, k, (te : Nat)⟩) trivial HO4.out HZ4.out trivial (by rw [HN.out]; exact hown) hg hat); have HS5 : Hid (Step No w w5) := Lib.hid ((HS3.out.alloc _).grown hg (fun j hj hlt => absurd (HO4.out.2.1 j hj) (by omega))); have hX5 := ((hg.block X (by have := blk_lt HX.out; simp; omega) (fun e => absurd (HLt.out X e.symm) (Nat.lt_irrefl _))).trans (blk_alloc HX.out _)); have y2 := blk_cell hX5 2; simp at y2; clear hown hg hat hX5))
      go_wp2
      go_roundw
      case rel => exact ⟨te, g, ds ++ [⟨tk, k, (te : Nat)⟩], by omega, by omega, by simp [HN.out]; omega, rfl, hq2, HR5.out, HS5.out⟩
      case measure => simp [RowKit.intOf]; omega
    · have HE := Lib.hid (toks_end hq.out hlt)
      clear hq
      go_wp2
      go_ret2
      exact ⟨_, rfl, by rw [← HE.out]; exact HO.out, HS.out⟩
end Go.Proofs.YtkamhpbfebdhjaaGreatDoor.RefLex4
