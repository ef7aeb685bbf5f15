/- The law on acts that may not be, and on texts that are none. -/
import Derived.Test.YtjeamfoicpgkhaaDoorScrBack
import Derived.Test.YtjeamfoicpgkhaaDoorBytes
import Derived.Laws.Bits128
namespace Go.Proofs.YtjeamfoicpgkhaaDoor.ScrW
open Go.RowKit Go.Lib Go.Proofs.YtjeamfoicpgkhaaDoor Go.Proofs.YtjeamfoicpgkhaaDoor.Mem Go.Proofs.YtjeamfoicpgkhaaDoor.Scr Go.Proofs.YtjeamfoicpgkhaaDoor.Read Go.Proofs.YtjeamfoicpgkhaaDoor.Env Go.Proofs.YtjeamfoicpgkhaaDoor.Take Go.Proofs.YtjeamfoicpgkhaaDoor.Taker
open Go.Proofs.YtjeamfoicpgkhaaDoor.Writer (EnvS)
set_option linter.unusedVariables false
set_option linter.unusedSimpArgs false
def formsActs (d : Int) : List ActD := [⟨-d, 0, false, 0, 0, ⟨#[]⟩⟩, ⟨7 + d, 0, false, 0, 0, ⟨#[]⟩⟩, ⟨0, 2 + d, false, 0, 0, ⟨#[]⟩⟩, ⟨0, -d, false, 0, 0, ⟨#[]⟩⟩, ⟨0, 0, false, -d, 0, ⟨#[]⟩⟩, ⟨0, 0, false, 4096 + d, 0, ⟨#[]⟩⟩, ⟨0, 0, false, 0, -d, ⟨#[]⟩⟩, ⟨0, 0, true, 0, 0, ⟨#[]⟩⟩,
  ⟨1, 0, false, d, 0, ⟨#[]⟩⟩, ⟨1, 0, false, 0, 0, ⟨#[97]⟩⟩, ⟨2, 0, false, 0, d, ⟨#[]⟩⟩, ⟨2, 0, false, -d, 0, ⟨#[]⟩⟩, ⟨3, 0, false, 0, 0, ⟨#[97]⟩⟩, ⟨5, 0, false, 0, 0, ⟨#[]⟩⟩, ⟨5, 0, false, 0, 0, ⟨#[97, 98]⟩⟩, ⟨5, 0, false, 0, 0, ⟨#[0]⟩⟩, ⟨6, 0, true, 0, 0, ⟨#[]⟩⟩, ⟨4, 0, false, 0, d, ⟨#[]⟩⟩]
def formsTexts : List (List UInt8) := [[116], [116, 48], [116, 48, 59, 116], [116, 51, 59], [84, 48, 59], [116, 48, 44, 59], [100, 48, 44, 59], [100, 48, 117, 59], [100, 48, 117, 48, 49, 44, 59], [101, 48, 64, 48, 44, 48, 44, 49, 58, 59], [101, 48, 64, 48, 44, 48, 44, 48, 58, 97, 59], [101, 48, 117, 48, 44, 48, 44, 48, 58, 59], [98, 48, 117, 48, 44, 48, 44, 48, 58, 59], [98, 48, 117, 48, 44, 48, 44, 49, 58, 0, 59], [120, 48, 59, 59], [32, 116, 48, 59], [116, 48, 59, 32], [100, 48, 117, 57, 57, 57, 57, 57, 44, 59]]
theorem forms_bad (d : Int) (h1 : 1 ≤ d) (h2 : d ≤ 1024) : ∀ a ∈ formsActs d, actMay a = false ∧ a.text.size ≤ maxLen := by
  intro a ha
  simp only [formsActs, List.mem_cons, List.not_mem_nil, or_false] at ha
  rcases ha with rfl | rfl | rfl | rfl | rfl | rfl | rfl | rfl | rfl | rfl | rfl | rfl | rfl | rfl | rfl | rfl | rfl | rfl <;> refine ⟨?_, Nat.le_trans (show _ ≤ 2 by first | exact Nat.zero_le _ | decide) (by decide)⟩ <;> first | decide | (apply may_out; simp only; omega) | (unfold actMay; simp [isEdit, isBreak, isMove]; omega)
theorem forms_none : ∀ s ∈ formsTexts, Reads ⟨s.toArray⟩ ([], 2300) ∧ s.length ≤ 100 := by
  intro s hs
  have h1 : formsTexts.all (fun s => noneB 20 s && decide (s.length ≤ 100)) = true := by decide +kernel
  have := List.all_eq_true.1 h1 s hs
  rw [Bool.and_eq_true, decide_eq_true_eq] at this
  exact ⟨.inr ⟨rfl, none_of 20 _ this.1⟩, this.2⟩
theorem i64_and1023 (n : Int) : bits .and .i64 n 1023 = n % 1024 := by
  have h127 : (BitVec.ofInt 64 1023).toNat = 2 ^ 10 - 1 := by decide
  have key : (BitVec.ofInt 64 n &&& BitVec.ofInt 64 1023).toNat = (n % ((2 ^ 64 : Nat) : Int)).toNat % 2 ^ 10 := by
    rw [BitVec.toNat_and, BitVec.toNat_ofInt, h127, Nat.and_two_pow_sub_one_eq_mod]
  show IntKind.i64.wrap ((BitVec.ofInt 64 n &&& BitVec.ofInt 64 1023).toNat : Nat) = n % 1024
  rw [key, IntKind.wrap_i64]
  omega
theorem bad_showS (a : ActD) (h : actMay a = false) : showS [⟨1, 0, false, 0, 0, ⟨#[]⟩⟩, a] = (⟨#[]⟩, 2300) := by
  unfold showS
  rw [if_neg (fun hg => by have := hg.2 a (by simp); rw [h] at this; cases this)]
theorem blk_new2 (w : World) (o o' : Obj) : ((w.alloc o).alloc o').heap[w.heap.size + 1]? = some o' := by
  have := blk_new (w.alloc o) o'
  simpa using this
theorem formsTexts_cell (w : World) (i : Nat) (hi : i < 18) : ∃ l ∈ formsTexts, (w.alloc (.cells (formsTexts.map fun l => Value.string ⟨l.toArray⟩).toArray 9)).cell? ⟨w.heap.size, i, none⟩ = some (.string ⟨l.toArray⟩) := by
  refine ⟨formsTexts[i], List.getElem_mem _, ?_⟩
  rw [blk_cell (blk_new w _)]
  rw [List.getElem?_toArray, List.getElem?_map, List.getElem?_eq_getElem hi]
  rfl
set_option maxHeartbeats 8000000 in
set_option maxRecDepth 100000 in
theorem ScriptForms_any (which x : Int) (w : World) (hE : Env w) :
    Calls Tryd.prog 5 #[.int .i64 which, .int .i64 x] w fun e w' => e = .returned (.bool true) ∧ Step No w w' := by
  have HE := Lib.hid hE
  clear hE
  obtain ⟨d, hd, hd0, hd1⟩ : ∃ d : Int, 1 + bits .and .i64 x 1023 = d ∧ 1 ≤ d ∧ d ≤ 1024 := ⟨_, rfl, by rw [i64_and1023]; omega, by rw [i64_and1023]; omega⟩
  obtain ⟨i, hpl, hi⟩ : ∃ j : Nat, wrap64 ((IntKind.u64.wrap which).tmod 18) = (j : Int) ∧ j < 18 := Bytes.place_is which 18 (by decide) (by decide)
  have HBAD := Lib.hid (forms_bad d hd0 hd1)
  go_enter Tryd.func5, Tryd.ntmps5
  go_wp2_with fail
  refine (awake_any _ HE.out).mono ?_
  rintro e w0 ⟨rfl, h0⟩
  have H0 := Lib.hid h0
  clear h0
  go_upto_region 5 with (fail)
  generalize hW : World.alloc w0 _ = w1
  have HB := Lib.hid (show ActS w1 (formsActs d) (.slice (some ⟨w0.heap.size, 0, none⟩) 18 18) by rw [← hW]; exact acts_of_block (blk_new w0 _) rfl rfl (by decide) (fun a ha => (HBAD.out a ha).2))
  have H1 := Lib.hid (show Step No w w1 by rw [← hW]; exact H0.out.alloc _)
  clear hW H0
  obtain ⟨ad, had, hz, c0, c1, c2, c3, c4, c5⟩ := acts_cells HB.out i hi
  injection had with had
  have HF : Hid (actMay ((formsActs d)[i]'hi) = false) := Lib.hid (HBAD.out _ (List.getElem_mem _)).1
  generalize (formsActs d)[i]'hi = b at *
  have hi0 : (0 : Int) ≤ i := by omega
  have hi1 : (i : Int) < 18 := by omega
  obtain ⟨kd, cl, up, pl, n, t⟩ := b
  simp only at c0 c1 c2 c3 c4 c5 hz
  have Hhz := Lib.hid hz
  clear hz
  clear HB HBAD
  go_wp2_with fail
  have HBL := acts_of_block (xs := [⟨1, 0, false, 0, 0, ⟨#[]⟩⟩, ⟨kd, cl, up, pl, n, t⟩]) (n := 2) (blk_new2 w1 (.cells #[.int .i64 kd, .int .i64 cl, .bool up, .int .i64 pl, .int .i64 n, .string t] TA) (.cells #[.int .i64 1, .int .i64 0, .bool false, .int .i64 0, .int .i64 0, .string ⟨#[]⟩, .int .i64 kd, .int .i64 cl, .bool up, .int .i64 pl, .int .i64 n, .string t] TA)) rfl rfl (by decide) (by intro a ha; simp only [List.mem_cons, List.not_mem_nil, or_false] at ha; rcases ha with rfl | rfl; exact Nat.zero_le _; exact Hhz.out)
  refine (Show_any _ _ [⟨1, 0, false, 0, 0, ⟨#[]⟩⟩, ⟨kd, cl, up, pl, n, t⟩] HBL (HE.out.step ((H1.out.alloc _).alloc _))).mono ?_
  clear HBL
  rintro e w2 ⟨rfl, hs2⟩
  rw [bad_showS _ HF.out]
  have hb := hs2.blk (blk_alloc (blk_new w1 (.cells #[.int .i64 kd, .int .i64 cl, .bool up, .int .i64 pl, .int .i64 n, .string t] TA)) _) (fun f => f)
  have HBK := Lib.hid hb
  have H2 := Lib.hid (((H1.out.alloc _).alloc _).trans hs2 (fun _ f _ => f))
  clear hs2 c0 c1 c2 c3 c4 c5 had hb H1
  go_upto_region 8 with (fail)
  generalize hW : World.alloc w2 _ = w3
  obtain ⟨l, hl, ht⟩ : ∃ l ∈ formsTexts, w3.cell? ⟨w2.heap.size, i, none⟩ = some (.string ⟨l.toArray⟩) := by
    rw [← hW]
    exact formsTexts_cell w2 i hi
  have hs3 : Step No w2 w3 := by rw [← hW]; exact Step.alloc (Step.refl _ _) _
  have HBK3 := Lib.hid (hs3.blk HBK.out (fun f => f))
  have H3 := Lib.hid (H2.out.trans hs3 (fun _ f _ => f))
  have HR := Lib.hid (forms_none l hl)
  clear hW hs3 HBK H2 hl
  obtain ⟨L, hL⟩ : ∃ L : ByteArray, Hid ((⟨l.toArray⟩ : ByteArray) = L) := ⟨_, Lib.hid rfl⟩
  have HL : Hid (L.size ≤ 140737488355328) := Lib.hid (by rw [← hL.out, t_size]; have := HR.out.2; omega)
  rw [hL.out] at ht
  go_wp2_with fail
  refine (Parse_any _ L HL.out (HE.out.step H3.out)).mono ?_
  rintro e w4 ⟨v4, acts, err, rfl, hr, hrow, hk, htx, hs4⟩
  have h1 := reads_one hr (hL.out ▸ HR.out.1)
  injection h1 with h2 h3
  subst h2 h3
  have hb := hs4.blk HBK3.out (fun f => f)
  obtain ⟨A4, c4', rfl, -⟩ := row_slice hrow
  have H4 := Lib.hid (H3.out.trans hs4 (fun _ f _ => f))
  obtain ⟨c0, c1, c2, c3, c4, c5⟩ : w4.cell? ⟨w1.heap.size, 0, none⟩ = some (.int .i64 kd) ∧ w4.cell? ⟨w1.heap.size, 1, none⟩ = some (.int .i64 cl) ∧ w4.cell? ⟨w1.heap.size, 2, none⟩ = some (.bool up) ∧ w4.cell? ⟨w1.heap.size, 3, none⟩ = some (.int .i64 pl) ∧ w4.cell? ⟨w1.heap.size, 4, none⟩ = some (.int .i64 n) ∧ w4.cell? ⟨w1.heap.size, 5, none⟩ = some (.string t) :=
    ⟨blk_cell hb 0, blk_cell hb 1, blk_cell hb 2, blk_cell hb 3, blk_cell hb 4, blk_cell hb 5⟩
  clear hr hrow hk htx hs4 hb ht HBK3 H3
  go_wp2_with fail
  refine (May_any ⟨kd, cl, up, pl, n, t⟩ _ Hhz.out).mono ?_
  rintro e w5 ⟨rfl, hs5⟩
  rw [HF.out]
  have H5 := Lib.hid (H4.out.trans hs5 (fun _ f _ => f))
  clear hs5 c0 c1 c2 c3 c4 c5
  go_wp2_with fail
  refine (num_any _ _).mono ?_
  rintro e w' ⟨rfl, rfl⟩
  go_wp2_with fail
  refine (num_any _ _).mono ?_
  rintro e w' ⟨rfl, rfl⟩
  go_wp2
  go_ret
  exact ⟨rfl, H5.out⟩
theorem ScriptForms_fin (which x : Int) (w : World) (hE : Env w) :
    Calls Tryd.prog 5 #[.int .i64 which, .int .i64 x] w fun e w' => e = .returned (.bool true) ∧ Below w.heap.size w w' :=
  (ScriptForms_any which x w hE).mono fun _ _ h => ⟨h.1, h.2.below⟩
end Go.Proofs.YtjeamfoicpgkhaaDoor.ScrW
