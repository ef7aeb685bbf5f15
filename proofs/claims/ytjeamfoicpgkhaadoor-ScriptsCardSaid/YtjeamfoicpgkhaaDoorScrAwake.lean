/- The first questions of the laws on scripts. -/
import Derived.Test.YtjeamfoicpgkhaaDoorScrLaw
namespace Go.Proofs.YtjeamfoicpgkhaaDoor.ScrW
open Go.RowKit Go.Lib Go.Proofs.YtjeamfoicpgkhaaDoor Go.Proofs.YtjeamfoicpgkhaaDoor.Mem Go.Proofs.YtjeamfoicpgkhaaDoor.Scr Go.Proofs.YtjeamfoicpgkhaaDoor.Read Go.Proofs.YtjeamfoicpgkhaaDoor.Env Go.Proofs.YtjeamfoicpgkhaaDoor.Take Go.Proofs.YtjeamfoicpgkhaaDoor.Taker
open Go.Proofs.YtjeamfoicpgkhaaDoor.Writer (EnvS)
set_option linter.unusedVariables false
set_option linter.unusedSimpArgs false
theorem row_of_block {w : World} {g n sz : Nat} {cs : Array Value} {e : TypeId} (h : w.heap[g]? = some (.cells cs e (0, 0))) (hs : cs.size = n * sz) (hm : n ≤ maxLen) : w.ownsRow 0 e sz (.slice (some ⟨g, 0, none⟩) n n) n cs.toList :=
  ⟨by rw [Array.length_toList, hs], .inr ⟨g, n, cs, rfl, Nat.zero_le _, h, Nat.le_refl _, hm, hs, by rw [List.take_of_length_le (by rw [Array.length_toList, hs]; exact Nat.le_refl _)]⟩⟩
theorem acts_of_block {w : World} {g n : Nat} {cs : Array Value} {xs : List ActD} (h : w.heap[g]? = some (.cells cs TA (0, 0))) (hcs : cs = (xs.flatMap actCells).toArray) (hn : xs.length = n) (hm : n ≤ maxLen) (ht : ∀ a ∈ xs, a.text.size ≤ maxLen) : ActS w xs (.slice (some ⟨g, 0, none⟩) n n) := by
  subst hcs hn
  have h6 : ∀ ys : List ActD, (ys.flatMap actCells).length = ys.length * 6 := by
    intro ys
    induction ys with
    | nil => rfl
    | cons y ys ih => rw [List.flatMap_cons, List.length_append, ih, List.length_cons]; simp [actCells]; omega
  have := row_of_block (n := xs.length) (sz := 6) h (by rw [List.size_toArray, h6]) hm
  exact SlR.ofRow (by decide) this (fun a _ => rfl) (fun a ha => ⟨rfl, ht a ha⟩)
def badAct : ActD := ⟨9, 0, false, 0, 0, ⟨#[]⟩⟩
theorem bad_show : showS [badAct] = (⟨#[]⟩, 2300) := by
  unfold showS
  rw [if_neg (by decide)]
theorem awake_showS : showS awakeActs = (⟨awakeText.toArray⟩, 0) := by
  unfold showS
  rw [if_pos awake_show.1, awake_show.2]
theorem t0_reads : Reads ⟨#[116, 48]⟩ ([], 2300) := .inr ⟨rfl, none_of 20 _ (by decide +kernel)⟩
theorem awake_reads : Reads ⟨awakeText.toArray⟩ (awakeActs, 0) := .inl ⟨rfl, awake_show.1, awake_show.2⟩
theorem awake_text : ∀ a ∈ awakeActs, a.text.size ≤ maxLen := by
  intro a ha
  have : awakeActs.all (fun a => decide (a.text.size ≤ 300)) = true := by decide +kernel
  have := List.all_eq_true.1 this a ha
  have := of_decide_eq_true this
  unfold maxLen
  omega
set_option maxHeartbeats 4000000 in
set_option maxRecDepth 100000 in
theorem awake_any (w : World) (hE : Env w) : Calls Tryd.prog 18 #[] w fun e w' => e = .returned (.bool true) ∧ Step No w w' := by
  have HE := Lib.hid hE
  have HA := Lib.hid (acts_of_block (xs := awakeActs) (blk_new w (.cells (awakeActs.flatMap actCells).toArray TA)) rfl rfl (by decide) awake_text)
  obtain ⟨S, HS, hS, hSz⟩ : ∃ S : ByteArray, Hid ((⟨awakeText.toArray⟩ : ByteArray) = S) ∧ (S.toList == [101, 49, 64, 50, 44, 51, 44, 50, 58, 97, 59, 59, 116, 48, 59, 100, 50, 117, 49, 44, 59, 98, 48, 100, 52, 44, 53, 44, 49, 58, 120, 59, 106, 49, 59]) = true ∧ S.size ≤ 140737488355328 := ⟨_, Lib.hid rfl, by rw [ByteArray.toList_eq]; decide, by decide⟩
  clear hE
  go_enter Tryd.func18, Tryd.ntmps18
  go_wp2_with fail
  refine (Show_any _ _ awakeActs HA.out (HE.out.step (by repeat' (first | exact Step.refl _ _ | with_reducible assumption | refine Step.drew ?_ | refine Step.drewN ?_ _ | refine Step.alloc ?_ _)))).mono ?_
  rintro e w1 ⟨rfl, hs1⟩
  rw [awake_showS, HS.out]
  have hs : Step No w w1 := (Step.alloc (Step.refl No w) _).trans hs1 (fun _ f _ => f)
  have HA1 := Lib.hid (show ActS w1 awakeActs _ from SlR.step HA.out (fun _ _ h => h) hs1)
  clear hs1 HA
  have H1 := Lib.hid hs
  clear hs
  go_wp2_with fail
  refine (Parse_any _ S hSz (HE.out.step H1.out)).mono ?_
  rintro e w2 ⟨v, acts, err, rfl, hr, hrow, hk, htx, hs2⟩
  have h1 := reads_one hr (HS.out ▸ awake_reads)
  injection h1 with h2 h3
  subst h2 h3
  have HA2 := Lib.hid (show ActS w2 awakeActs _ from SlR.step HA1.out (fun _ _ h => h) hs2)
  have HV2 := Lib.hid (show ActS w2 awakeActs v from SlR.ofRow (by decide) hrow (fun a _ => rfl) (fun a ha => ⟨rfl, htx a ha⟩))
  have H2 := Lib.hid (H1.out.trans hs2 (fun _ f _ => f))
  obtain ⟨A, c, rfl⟩ : ∃ A c, v = .slice A awakeActs.length c := by obtain ⟨A, c, h, _⟩ := acts_len HV2.out; exact ⟨A, c, h⟩
  clear hr hrow hk htx hs2 HA1 H1
  go_wp2_with fail
  refine (Parse_any _ ⟨#[116, 48]⟩ (by decide) (HE.out.step H2.out)).mono ?_
  rintro e w3 ⟨v, acts, err, rfl, hr, hrow, hk, htx, hs2⟩
  have h1 := reads_one hr t0_reads
  injection h1 with h2 h3
  subst h2 h3
  have HA3 := Lib.hid (show ActS w3 awakeActs _ from SlR.step HA2.out (fun _ _ h => h) hs2)
  have HV3 := Lib.hid (show ActS w3 awakeActs _ from SlR.step HV2.out (fun _ _ h => h) hs2)
  have H3 := Lib.hid (H2.out.trans hs2 (fun _ f _ => f))
  clear hr hrow hk htx hs2 HA2 HV2 H2
  go_wp2_with fail
  have HB := Lib.hid (acts_of_block (xs := [badAct]) (blk_new w3 (.cells ([badAct].flatMap actCells).toArray TA)) rfl rfl (by decide) (by intro a ha; rw [List.mem_singleton] at ha; subst ha; exact Nat.zero_le _))
  refine (Show_any _ _ [badAct] HB.out (HE.out.step (H3.out.alloc _))).mono ?_
  rintro e w4 ⟨rfl, hs4⟩
  rw [bad_show]
  have HA4 := Lib.hid (show ActS w4 awakeActs _ from SlR.step HA3.out (fun _ _ h => h) ((Step.alloc (Step.refl No w3) _).trans hs4 (fun _ f _ => f)))
  have HV4 := Lib.hid (show ActS w4 awakeActs _ from SlR.step HV3.out (fun _ _ h => h) ((Step.alloc (Step.refl No w3) _).trans hs4 (fun _ f _ => f)))
  have H4 := Lib.hid ((H3.out.alloc _).trans hs4 (fun _ f _ => f))
  clear hs4 HB H3 HA3 HV3
  go_wp2_with fail
  refine (num_any _ _).mono ?_
  rintro e w' ⟨rfl, rfl⟩
  go_wp2_with fail
  refine (SameActs_any _ awakeActs awakeActs _ _ HA4.out HV4.out).mono ?_
  rintro e w5 ⟨r, rfl, hr, hs5⟩
  obtain rfl : r = true := hr.2 rfl
  have HA5 := Lib.hid (show ActS w5 awakeActs _ from SlR.step HA4.out (fun _ _ h => h) hs5)
  have H5 := Lib.hid (H4.out.trans hs5 (fun _ f _ => f))
  clear hr hs5 HA4 HV4 H4
  go_wp2_with fail
  refine (num_any _ _).mono ?_
  rintro e w' ⟨rfl, rfl⟩
  go_wp2_with fail
  refine (num_any _ _).mono ?_
  rintro e w' ⟨rfl, rfl⟩
  go_wp2_with fail
  refine (num_any _ _).mono ?_
  rintro e w' ⟨rfl, rfl⟩
  obtain ⟨c0, c1, c2, c3, c4, c5⟩ : w5.cell? ⟨w.heap.size, 0, none⟩ = some (.int .i64 0) ∧ w5.cell? ⟨w.heap.size, 1, none⟩ = some (.int .i64 1) ∧ w5.cell? ⟨w.heap.size, 2, none⟩ = some (.bool false) ∧ w5.cell? ⟨w.heap.size, 3, none⟩ = some (.int .i64 2) ∧ w5.cell? ⟨w.heap.size, 4, none⟩ = some (.int .i64 3) ∧ w5.cell? ⟨w.heap.size, 5, none⟩ = some (.string ⟨#[97, 59]⟩) := by
    obtain ⟨ad, had, -, c0, c1, c2, c3, c4, c5⟩ := acts_cells HA5.out 0 (by decide)
    injection had with had
    subst had
    exact ⟨c0, c1, c2, c3, c4, c5⟩
  go_wp2_with fail
  refine (May_any ⟨0, 1, false, 2, 3, ⟨#[97, 59]⟩⟩ _ (by decide)).mono ?_
  rintro e w6 ⟨rfl, hs6⟩
  rw [show actMay ⟨0, 1, false, 2, 3, ⟨#[97, 59]⟩⟩ = true from by decide]
  have H6 := Lib.hid (H5.out.trans hs6 (fun _ f _ => f))
  clear hs6 c0 c1 c2 c3 c4 c5
  go_wp2_with fail
  refine (May_any ⟨1, 0, false, 1, 0, ⟨#[]⟩⟩ _ (by decide)).mono ?_
  rintro e w7 ⟨rfl, hs7⟩
  rw [show actMay ⟨1, 0, false, 1, 0, ⟨#[]⟩⟩ = false from by decide]
  have H7 := Lib.hid (H6.out.trans hs7 (fun _ f _ => f))
  clear hs7
  go_wp2
  go_ret
  exact ⟨rfl, H7.out⟩
end Go.Proofs.YtjeamfoicpgkhaaDoor.ScrW
