/- The queue's methods: what each does to the frames that lie in memory. -/
import Derived.Test.YtmhnnkifkbamoaaProg
import Derived.Test.YtmhnnkifkbamoaaMem
namespace Go.Proofs.Ytmhnnkifkbamoaa.NetQ
open Go.RowKit Go.Proofs.Ytmhnnkifkbamoaa.Mem
set_option linter.unusedVariables false
set_option linter.unusedSimpArgs false

abbrev Fr := ByteArray × Bool
def frs (xs : List Fr) : List Value := xs.flatMap fun x => [.string x.1, .bool x.2]
theorem frs_length (xs : List Fr) : (frs xs).length = xs.length * 2 := by
  induction xs with
  | nil => rfl
  | cons x xs ih => simp [frs] at ih ⊢; omega
theorem frs_append (xs ys : List Fr) : frs (xs ++ ys) = frs xs ++ frs ys := by simp [frs]
theorem frs_one (xs : List Fr) : ∀ u ∈ frs xs, u.oneCell' = true := by
  intro u hu
  simp only [frs, List.mem_flatMap, List.mem_cons, List.not_mem_nil, or_false] at hu
  obtain ⟨x, _, rfl | rfl⟩ := hu <;> rfl
/-- Queue Q (its struct's type T, its frames' type E) holds xs, in blocks that are ok. -/
def QRep (T E : TypeId) (ok : Nat → Prop) (w : World) (Q : Nat) (xs : List Fr) : Prop :=
  ∃ v, w.heap[Q]? = some (.cells #[v] T (0, 0)) ∧ ok Q ∧ w.ownsRow 0 E 2 v xs.length (frs xs) ∧ ∀ k, v.ownBlock = some k → ok k
def fits (xs : List Fr) (s : ByteArray) : Bool := decide (xs.length < 8) && decide (s.size ≤ 1000064)
theorem infoF : (Try.prog.info? 86).map (fun i => (i.zero, i.size, i.bytes)) = some (some (.agg #[.string ⟨#[]⟩, .bool false]), 2, 24) := by kernel_rfl
/-- What a Put leaves: the frame stands last, if there was room. -/
def PutPost (T E : TypeId) (ok : Nat → Prop) (w : World) (Q : Nat) (xs : List Fr) (s : ByteArray) (b : Bool) (e : Ending) (w' : World) : Prop :=
  e = .returned (.bool (fits xs s)) ∧ QRep T E (fun k => ok k ∨ w.heap.size ≤ k) w' Q (if fits xs s then xs ++ [(s, b)] else xs) ∧ Step ok w w'
theorem QRep.step {T E : TypeId} {ok F : Nat → Prop} {w w' : World} {Q : Nat} {xs : List Fr} (h : QRep T E ok w Q xs) (hs : Step F w w') (hF : ∀ k, ok k → k < w.heap.size → ¬ F k) : QRep T E ok w' Q xs := by
  obtain ⟨v, hQ, hok, hrow, hv⟩ := h
  exact ⟨v, hs.blk hQ (hF Q hok (blk_lt hQ)), hok, row_step hrow hs (fun k hk => hF k (hv k hk) (hrow.lt k hk).2), hv⟩
theorem QRep.mono {T E : TypeId} {ok ok' : Nat → Prop} {w : World} {Q : Nat} {xs : List Fr} (h : QRep T E ok w Q xs) (hF : ∀ k, k < w.heap.size → ok k → ok' k) : QRep T E ok' w Q xs := by
  obtain ⟨v, hQ, hok, hrow, hv⟩ := h
  exact ⟨v, hQ, hF Q (blk_lt hQ) hok, hrow, fun k hk => hF k (hrow.lt k hk).2 (hv k hk)⟩
theorem put_no {T E : TypeId} {ok : Nat → Prop} {w w' : World} {Q : Nat} {xs : List Fr} {s : ByteArray} {b : Bool} (h : QRep T E ok w Q xs) (hf : fits xs s = false) (hs : Step No w w') : PutPost T E ok w Q xs s b (.returned (.bool false)) w' := by
  refine ⟨by rw [hf], ?_, hs.none⟩
  rw [hf]
  exact (h.step hs (fun _ _ _ f => f)).mono (fun _ _ o => .inl o)
theorem put_yes {T E : TypeId} (hTE : E ≠ T) {ok : Nat → Prop} {w w0 w1 : World} {Q : Nat} {xs : List Fr} {s : ByteArray} {b : Bool} {v v1 : Value} (hQ : w.heap[Q]? = some (.cells #[v] T (0, 0))) (hok : ok Q) (hrow : w.ownsRow 0 E 2 v xs.length (frs xs)) (hv : ∀ k, v.ownBlock = some k → ok k)
    (hf : fits xs s = true) (h0 : Step No w w0) (hown : w1.ownsRow 0 E 2 v1 (xs.length + 1) (frs xs ++ [.string s, .bool b])) (hg : w0.grownBy w1 v.ownBlock) (hat : v1.ownBlock = v.ownBlock ∨ v1.ownBlock = some w0.heap.size) :
    PutPost T E ok w Q xs s b (.returned (.bool true)) (w1.setCell ⟨Q, 0, none⟩ v1) := by
  have hs1 : Step ok w w1 := h0.none.grown hg (fun k hk _ => hv k hk)
  have hne : v.ownBlock ≠ some Q := row_ne hrow hQ hTE
  have hq1 : w1.heap[Q]? = some (.cells #[v] T (0, 0)) := (hg.block Q (Nat.lt_of_lt_of_le (blk_lt hQ) h0.size) (fun e => hne e.symm)).trans (h0.blk hQ (fun f => f))
  have hne1 : v1.ownBlock ≠ some Q := row_ne hown hq1 hTE
  refine ⟨by rw [hf], ⟨v1, ?_, .inl hok, ?_, ?_⟩, hs1.setCell (fun _ => hok) _⟩
  · exact blk_set hq1 0 v1
  · rw [hf, if_pos rfl, frs_append, List.length_append]
    exact row_move hown (fun k hk => Below.heap_setCell _ _ _ _ (fun e => hne1 (by rw [hk, e])))
  · intro k hk
    rcases hat with hat | hat
    · exact .inl (hv k (by rw [← hat, hk]))
    · rw [hk] at hat
      injection hat with hat
      exact .inr (by rw [hat]; exact h0.size)
set_option maxHeartbeats 400000 in
theorem put_any (ok : Nat → Prop) (w : World) (Q : Nat) (xs : List Fr) (s : ByteArray) (b : Bool) (h : QRep 83 86 ok w Q xs) :
    Calls Try.prog 43 #[.pointer (some ⟨Q, 0, none⟩), .agg #[.string s, .bool b]] w (PutPost 83 86 ok w Q xs s b) := by
  have HH := Lib.hid h
  obtain ⟨v, hQ, hok, hrow, hv⟩ := h
  obtain ⟨A, c, rfl, hnc, hcm⟩ := row_slice hrow
  unfold maxLen at hcm
  have hc0 : w.cell? ⟨Q, 0, none⟩ = some (.slice A xs.length c) := by rw [blk_cell hQ]; rfl
  have hlt : Q < w.heap.size := blk_lt hQ
  have HQ := Lib.hid hQ
  have HR := Lib.hid hrow
  have HV := Lib.hid hv
  have HO := Lib.hid hok
  clear hQ hrow hv hok
  by_cases h1 : xs.length < 8
  · have h1' : decide ((xs.length : Int) < 8) = true := decide_eq_true (by omega)
    by_cases h2 : s.size ≤ 1000064
    · have HF : Hid (fits xs s = true) := Lib.hid (by simp [fits, h1, h2])
      have h2' : decide ((s.size : Int) ≤ 1000064) = true := decide_eq_true (by omega)
      have hl7 : xs.length ≤ 7 := by omega
      clear h1 h2
      go_enter Try.func43, Try.ntmps43
      go_wp2
      go_region_law (refine step_append_own rfl (.tmp 23) (.tmp 25) 81 86 (.agg #[.string ⟨#[]⟩, .bool false]) 2 24 rfl Try.underlying81 infoF rfl (by decide) (.slice A xs.length c) xs.length (frs xs) (by simp [Act.eval, Act.put]) (by exact (HR.out.alloc _).alloc _) ⟨w.heap.size + 1, 0, none⟩ 1 1 [.string s, .bool b] (by simp [Act.eval, Act.put]) rfl (by simpa using cells_new (w.alloc (.cells #[.string s, .bool b] 86)) #[.string s, .bool b] 86) (by simp [Value.oneCell']) (by simp only [maxLen]; omega) (by omega) ?_; (intro v1 w1 hown hg hat; obtain ⟨A1, c1, rfl, -, -⟩ := row_slice hown; have hq1 : w1.heap[Q]? = some (.cells #[.slice A xs.length c] 83 (0, 0)) := (hg.block Q (by simp; omega) (fun e => row_ne HR.out HQ.out (by decide) e.symm)).trans (blk_alloc (blk_alloc HQ.out _) _); have hc1 := blk_cell hq1 0; have hf1 := blk_free hq1 0; have H1 := Lib.hid hown; have H2 := Lib.hid hg; have H3 := Lib.hid hat; clear hown hg hat hq1; simp at hc1))
      all_goals
        go_wp2
        go_ret
        exact put_yes (by decide) HQ.out HO.out HR.out HV.out HF.out (by repeat' (first | exact Step.refl _ _ | with_reducible assumption | refine Step.drew ?_ | refine Step.drewN ?_ _ | refine Step.alloc ?_ _)) H1.out H2.out H3.out
    · have HF : Hid (fits xs s = false) := Lib.hid (by simp [fits, h2])
      have h2' : decide ((s.size : Int) ≤ 1000064) = false := decide_eq_false (by omega)
      clear h1 h2
      go_enter Try.func43, Try.ntmps43
      go_wp2
      go_ret
      exact put_no HH.out HF.out (by repeat' (first | exact Step.refl _ _ | with_reducible assumption | refine Step.drew ?_ | refine Step.drewN ?_ _ | refine Step.alloc ?_ _))
  · have HF : Hid (fits xs s = false) := Lib.hid (by simp [fits, h1])
    have h1' : decide ((xs.length : Int) < 8) = false := decide_eq_false (by omega)
    clear h1
    go_enter Try.func43, Try.ntmps43
    go_wp2
    go_ret
    exact put_no HH.out HF.out (by repeat' (first | exact Step.refl _ _ | with_reducible assumption | refine Step.drew ?_ | refine Step.drewN ?_ _ | refine Step.alloc ?_ _))

theorem frs_getElem (xs : List Fr) (i : Nat) (h : i < xs.length) : (frs xs)[i * 2]? = some (.string xs[i].1) ∧ (frs xs)[i * 2 + 1]? = some (.bool xs[i].2) := by
  induction xs generalizing i with
  | nil => simp at h
  | cons x xs ih =>
    cases i with
    | zero => simp [frs]
    | succ i =>
      have := ih i (by simpa using h)
      simp only [frs, List.flatMap_cons] at this ⊢
      rw [show (i + 1) * 2 = i * 2 + 2 from by omega, show i * 2 + 2 + 1 = (i * 2 + 1) + 2 from by omega]
      exact this
theorem frs_take (xs : List Fr) (i : Nat) : (frs xs).take (i * 2) = frs (xs.take i) := by
  induction xs generalizing i with
  | nil => simp [frs]
  | cons x xs ih =>
    cases i with
    | zero => simp [frs]
    | succ i =>
      have := ih i
      simp only [frs, List.flatMap_cons, List.take_succ_cons] at this ⊢
      rw [show (i + 1) * 2 = i * 2 + 2 from by omega, ← this]
      rfl
theorem frs_drop (xs : List Fr) (i : Nat) : (frs xs).drop (i * 2) = frs (xs.drop i) := by
  induction xs generalizing i with
  | nil => simp [frs]
  | cons x xs ih =>
    cases i with
    | zero => simp [frs]
    | succ i =>
      have := ih i
      simp only [frs, List.flatMap_cons, List.drop_succ_cons] at this ⊢
      rw [show (i + 1) * 2 = i * 2 + 2 from by omega, ← this]
      rfl
def DelPost (E : TypeId) (w : World) (g n c : Nat) (xs : List Fr) (i : Nat) (e : Ending) (w' : World) : Prop :=
  e = .returned (.slice (some ⟨g, 0, none⟩) (n - 1) c) ∧ w'.ownsRow 0 E 2 (.slice (some ⟨g, 0, none⟩) (n - 1) c) (n - 1) (frs (xs.eraseIdx i)) ∧ Step (· = g) w w'
theorem del_close {E : TypeId} {w w0 : World} {g n c i : Nat} {xs : List Fr} {cur : Array Value} (hh : w.heap[g]? = some (.cells cur E (0, 0))) (hs0 : Step No w w0) (hn : n ≤ c) (hc : c ≤ maxLen) (hcs : cur.size = c * 2) (ht : cur.toList.take (n * 2) = frs xs) (hi : i < n) (hl : xs.length = n)
    {cur1 : Array Value} (h1 : cur1 = (cur.toList.take (i * 2) ++ frs (xs.drop (i + 1)) ++ cur.toList.drop (i * 2 + (frs (xs.drop (i + 1))).length)).toArray)
    {zs : List Value} (hz : zs.length = 2) {cur2 : Array Value} (h2 : cur2 = (cur1.toList.take ((n - 1) * 2) ++ zs ++ cur1.toList.drop ((n - 1) * 2 + 2)).toArray) :
    DelPost E w g n c xs i (.returned (.slice (some ⟨g, 0, none⟩) (n - 1) c)) ((w0.setRow g cur1).setRow g cur2) := by
  have hw0 : w0.heap[g]? = some (.cells cur E (0, 0)) := hs0.blk hh (fun f => f)
  have hcl : cur.toList.length = c * 2 := by rw [Array.length_toList, hcs]
  have hdl : (frs (xs.drop (i + 1))).length = (n - (i + 1)) * 2 := by rw [frs_length, List.length_drop, hl]
  have hl1 : cur1.toList.length = c * 2 := by
    rw [h1]; simp only [List.length_append, List.length_take, List.length_drop, hcl, hdl]; omega
  refine ⟨rfl, ⟨?_, .inr ⟨g, c, cur2, rfl, Nat.zero_le _, setRow_heap _ _ _ _ _ _ (setRow_heap _ _ _ _ _ _ hw0), by omega, hc, ?_, ?_⟩⟩, step_setRow (step_setRow (hs0.none : Step (fun k => k = g) w w0) (fun _ => rfl) _) (fun _ => rfl) _⟩
  · rw [frs_length, List.length_eraseIdx, if_pos (by omega), hl]
  · rw [← Array.length_toList, h2]; simp only [List.length_append, List.length_take, List.length_drop, hl1, hz]; omega
  · rw [h2]
    simp only [List.append_assoc]
    rw [List.take_append_of_le_length (by rw [List.length_take, hl1]; omega), List.take_take, Nat.min_self, h1]
    simp only []
    rw [List.take_append_of_le_length (by simp only [List.length_append, List.length_take, hcl, hdl]; omega), List.take_of_length_le (by simp only [List.length_append, List.length_take, hcl, hdl]; omega)]
    have h3 : cur.toList.take (i * 2) = frs (xs.take i) := by
      rw [← frs_take, ← ht, List.take_take, Nat.min_eq_left (by omega)]
    rw [h3, ← frs_append, List.eraseIdx_eq_take_drop_succ]
theorem zeroF : ∀ w, (zeroValue 86).run Try.prog w = .ok (.agg #[.string ⟨#[]⟩, .bool false]) w := fun w => by kernel_rfl
theorem zc : (Builtin.zeroCells (Value.agg #[.string ⟨#[]⟩, .bool false]).cells 1).toList = [.string ⟨#[]⟩, .bool false] := by kernel_rfl
theorem zc1 : ∀ u ∈ (Builtin.zeroCells (Value.agg #[.string ⟨#[]⟩, .bool false]).cells 1).toList, u.oneCell' = true := by rw [zc]; simp [Value.oneCell']
set_option maxHeartbeats 1000000 in
theorem delete_any (w : World) (g n c i : Nat) (xs : List Fr) (hi : i < n) (hl : xs.length = n) (hn8 : n ≤ 8) (h : w.ownsRow 0 86 2 (.slice (some ⟨g, 0, none⟩) n c) n (frs xs)) :
    Calls Try.prog 46 #[.slice (some ⟨g, 0, none⟩) n c, .int .i64 i, .int .i64 (i + 1 : Nat)] w (DelPost 86 w g n c xs i) := by
  have hrow := h
  obtain ⟨h0, h | ⟨g', c', cur, he, _, hh, hnc, hcm, hcs, htake⟩⟩ := h
  · simp at h
  · injection he with he1 he2 he3
    injection he1 with he1
    injection he1 with he1 _ _
    subst he1 he3
    unfold maxLen at hcm
    have hcl : cur.toList.length = c * 2 := by rw [Array.length_toList, hcs]
    have hne : ((i : Int) == ((i + 1 : Nat) : Int)) = false := beq_eq_false_iff_ne.2 (by omega)
    have hnews : ∀ j u, (frs (xs.drop (i + 1)))[j]? = some u → w.cell? ⟨g, (i + 1) * 2 + j, none⟩ = some u := by
      intro j u hu
      rw [← frs_drop, List.getElem?_drop, ← htake] at hu
      rw [blk_cell hh, ← Array.getElem?_toList]
      rw [List.getElem?_take] at hu
      split at hu
      · exact hu
      · cases hu
    have HN := Lib.hid hnews
    have HH := Lib.hid hh
    have HT := Lib.hid htake
    have HCS := Lib.hid hcs
    have HL := Lib.hid hl
    have HCL := Lib.hid hcl
    clear hnews hh htake hcs hl hcl hrow h0
    by_cases hcap : c = i + 1
    · obtain rfl : n = i + 1 := by omega
      subst hcap
      have HN2 : Hid (∀ j u, (frs (xs.drop (i + 1)))[j]? = some u → w.cell? ((⟨g, 0, none⟩ : Addr).add j) = some u) := Lib.hid (by
        intro j u hu
        rw [List.drop_eq_nil_of_le (by have := HL.out; omega)] at hu
        simp [frs] at hu)
      have b1 : i ≤ (i + 1) := by omega
      have b5 : (i : Int) ≤ (i : Int) + 1 := by omega
      have b2 : (i : Int) + 1 ≤ ((i + 1) : Int) := by omega
      have b3 : 0 ≤ (i : Int) + 1 := by omega
      have b4 : ((i : Int) + 1).toNat = i + 1 := by omega
      go_enter Try.func46, Try.ntmps46
      go_wp2
      go_region_law (refine step_append_fit rfl (.tmp 22) (.tmp 25) 81 86 (.agg #[.string ⟨#[]⟩, .bool false]) 2 24 rfl Try.underlying81 infoF g i (i + 1) cur (by exact HH.out) (by simp [Act.eval, Act.put]) ⟨g, 0, none⟩ ((i + 1) - (i + 1)) ((i + 1) - (i + 1)) (frs (xs.drop (i + 1))) (by simp [Act.eval, Act.put]) (by rw [frs_length, List.length_drop, HL.out]) HN2.out (frs_one _) (by omega) (by rw [frs_length, List.length_drop, HL.out, HCS.out]; omega) ?_; intro cur1 hcu)
      all_goals
        have hw1 := Lib.hid (setRow_heap w g cur cur1 _ _ HH.out)
        have HL1 : Hid (cur1.size = (i + 1) * 2) := Lib.hid (by
          rw [hcu.out]; simp only [List.size_toArray, List.length_append, List.length_take, List.length_drop, frs_length, HCL.out, HL.out]; omega)
        have hk : i + ((i + 1) - (i + 1)) = (i + 1) - 1 := by omega
        try rw [hk]
        clear hk
        go_wp2_with (refine wpList_clear_row _ rfl (.tmp 31) 81 86 1 (.agg #[.string ⟨#[]⟩, .bool false]) rfl Try.underlying81 zeroF zc1 g (i * 2) 1 cur1 (by simp [Act.eval, Act.put]) (by exact hw1.out) (by omega) (by show i * 2 + 1 * 2 ≤ cur1.size; rw [HL1.out]; omega) ?_; intro cur2 hcu2)
        go_ret
        exact del_close HH.out (by repeat' (first | exact Step.refl _ _ | with_reducible assumption | refine Step.drew ?_ | refine Step.drewN ?_ _ | refine Step.alloc ?_ _)) hnc (by unfold maxLen; omega) HCS.out HT.out (by omega) HL.out hcu.out (zs := [.string ⟨#[]⟩, .bool false]) rfl (by rw [hcu2.out, zc]; rfl)
    · have HN2 : Hid (∀ j u, (frs (xs.drop (i + 1)))[j]? = some u → w.cell? ((⟨g, (i + 1) * 2, none⟩ : Addr).add j) = some u) := Lib.hid (by
        intro j u hu
        have := HN.out j u hu
        unfold Addr.add
        split
        · rename_i e; subst e; exact this
        · exact this)
      have b1 : i ≤ c := by omega
      have b5 : (i : Int) ≤ (i : Int) + 1 := by omega
      have b2 : (i : Int) + 1 ≤ (n : Int) := by omega
      have b3 : 0 ≤ (i : Int) + 1 := by omega
      have b4 : ((i : Int) + 1).toNat = i + 1 := by omega
      go_enter Try.func46, Try.ntmps46
      go_wp2
      go_region_law (refine step_append_fit rfl (.tmp 22) (.tmp 25) 81 86 (.agg #[.string ⟨#[]⟩, .bool false]) 2 24 rfl Try.underlying81 infoF g i c cur (by exact HH.out) (by simp [Act.eval, Act.put]) ⟨g, (i + 1) * 2, none⟩ (n - (i + 1)) (c - (i + 1)) (frs (xs.drop (i + 1))) (by simp [Act.eval, Act.put]) (by rw [frs_length, List.length_drop, HL.out]) HN2.out (frs_one _) (by omega) (by rw [frs_length, List.length_drop, HL.out, HCS.out]; omega) ?_; intro cur1 hcu)
      all_goals
        have hw1 := Lib.hid (setRow_heap w g cur cur1 _ _ HH.out)
        have HL1 : Hid (cur1.size = c * 2) := Lib.hid (by
          rw [hcu.out]; simp only [List.size_toArray, List.length_append, List.length_take, List.length_drop, frs_length, HCL.out, HL.out]; omega)
        have hk : i + (n - (i + 1)) = n - 1 := by omega
        try rw [hk]
        clear hk
        go_wp2_with (refine wpList_clear_row _ rfl (.tmp 31) 81 86 1 (.agg #[.string ⟨#[]⟩, .bool false]) rfl Try.underlying81 zeroF zc1 g ((n - 1) * 2) (c - (n - 1)) cur1 (by simp [Act.eval, Act.put]; omega) (by exact hw1.out) (by omega) (by show (n - 1) * 2 + 1 * 2 ≤ cur1.size; rw [HL1.out]; omega) ?_; intro cur2 hcu2)
        go_ret
        exact del_close HH.out (by repeat' (first | exact Step.refl _ _ | with_reducible assumption | refine Step.drew ?_ | refine Step.drewN ?_ _ | refine Step.alloc ?_ _)) hnc (by unfold maxLen; omega) HCS.out HT.out (by omega) HL.out hcu.out (zs := [.string ⟨#[]⟩, .bool false]) rfl (by rw [hcu2.out, zc]; rfl)
end Go.Proofs.Ytmhnnkifkbamoaa.NetQ
