/- Acts lent with marked room behind them, kept, spoiled. -/
import Derived.Test.YtjeamfoicpgkhaaDoorScrRows
namespace Go.Proofs.YtjeamfoicpgkhaaDoor.ScrW
open Go.RowKit Go.Lib Go.Proofs.YtjeamfoicpgkhaaDoor Go.Proofs.YtjeamfoicpgkhaaDoor.Mem Go.Proofs.YtjeamfoicpgkhaaDoor.Scr Go.Proofs.YtjeamfoicpgkhaaDoor.Read Go.Proofs.YtjeamfoicpgkhaaDoor.AppSl
set_option linter.unusedVariables false
set_option linter.unusedSimpArgs false
def room : ActD := ⟨0, 0, false, 77777, 0, ⟨#[]⟩⟩
def LendPost (xs : List ActD) (w : World) (e : Ending) (w' : World) : Prop :=
  ∃ g c, e = .returned (.slice (some ⟨g, 0, none⟩) xs.length c) ∧ w'.ownsRow 0 TA 6 (.slice (some ⟨g, 0, none⟩) (xs.length + 2) c) (xs.length + 2) ((xs ++ [room, room]).flatMap actCells) ∧ w.heap.size ≤ g ∧ Step No w w'
theorem lend_form {w : World} {n : Nat} {v : Value} {cs : List Value} (h : w.ownsRow 0 TA 6 v (n + 2) cs) : ∃ g c, v = .slice (some ⟨g, 0, none⟩) (n + 2) c ∧ n + 2 ≤ c ∧ (n : Int) ≤ c ∧ (c : Int) ≤ 9223372036854775807 := by
  obtain ⟨g, c, h1, h2, h3⟩ := row_form h (by omega)
  unfold maxLen at h3
  exact ⟨g, c, h1, h2, by omega, by omega⟩
set_option maxHeartbeats 1000000 in
set_option maxRecDepth 100000 in
theorem LendActs_any (w : World) (xs : List ActD) (v : Value) (hx : ActS w xs v) (hl : xs.length * 56 ≤ 140737488351232) : Calls Tryd.prog 7 #[v] w (LendPost xs w) := by
  obtain ⟨A, c, rfl, h1, h2⟩ := acts_len hx
  have HX := Lib.hid hx
  have HL := Lib.hid hl
  have hn : (xs.length : Int) ≤ 9223372036854775807 := by omega
  have hn0 : (0 : Int) ≤ xs.length := by omega
  clear hx hl h1 h2
  go_enter Tryd.func7, Tryd.ntmps7
  go_wp2_with fail
  refine (CopyActs_any _ xs _ HX.out (by have := HL.out; omega)).mono ?_
  rintro e w1 ⟨v1, rfl, ho⟩
  have HO := Lib.hid ho
  clear ho
  obtain ⟨A1, c1, rfl, -, -⟩ := row_slice HO.out.1
  go_wp2_with (at_builtin; refine list_append_own _ rfl (.tmp 5) (.tmp 8) 22 37 (.agg #[.int .i64 0, .int .i64 0, .bool false, .int .i64 0, .int .i64 0, .string ⟨#[]⟩]) 6 56 rfl Tryd.underlying22 infoA rfl (by decide) (.slice A1 xs.length c1) xs.length (xs.flatMap actCells) rfl (by exact row_move HO.out.1 (fun k hk => (Step.alloc (Step.refl No w1) _).block k (HO.out.1.lt k hk).2 (fun f => f))) ⟨w1.heap.size, 0, none⟩ 2 2 ([room, room].flatMap actCells) rfl rfl (by exact cells_new w1 ([room, room].flatMap actCells).toArray 37) acts_one (by have := HL.out; unfold maxLen; omega) (by have := HL.out; omega) ?_; intro v5 w5 hown hg hat; have HQ := Lib.hid (HO.out.next (ys := [room, room]) (by simpa using hown) (Step.alloc (Step.refl No w1) _) hg hat); have hrf := lend_form hown; clear hown hg hat; obtain ⟨g, c5, rfl, hc5, hc7, hc9⟩ := hrf)
  go_ret
  have h := HQ.out.1
  rw [show (xs ++ [room, room]).length = xs.length + 2 by simp] at h
  exact ⟨g, c5, rfl, h, HQ.out.2.1 g rfl, HQ.out.2.2⟩
theorem acts_prefix {w : World} {xs ys : List ActD} {A : Option Addr} {n c : Nat} (h : ActS w (xs ++ ys) (.slice A n c)) : ActS w xs (.slice A xs.length c) := by
  obtain ⟨A', c', he, h1, h2, h3⟩ := h
  injection he with he1 he2 he3
  subst he1 he3
  rw [List.length_append] at h1
  refine ⟨A, c, rfl, by omega, h2, fun j hj => ?_⟩
  obtain ⟨ad, cs, e, hl, hr, hc⟩ := h3 j (by rw [List.length_append]; omega)
  rw [List.getElem_append_left hj] at hr
  exact ⟨ad, cs, e, hl, hr, hc⟩
theorem room_cells {w : World} {xs : List ActD} {g c : Nat} (h : w.ownsRow 0 TA 6 (.slice (some ⟨g, 0, none⟩) (xs.length + 2) c) (xs.length + 2) ((xs ++ [room, room]).flatMap actCells)) (r : Nat) (hr : r < 2) :
    w.cell? ⟨g, (xs.length + r) * 6, none⟩ = some (.int .i64 0) ∧ w.cell? ⟨g, (xs.length + r) * 6 + 1, none⟩ = some (.int .i64 0) ∧ w.cell? ⟨g, (xs.length + r) * 6 + 2, none⟩ = some (.bool false) ∧ w.cell? ⟨g, (xs.length + r) * 6 + 3, none⟩ = some (.int .i64 77777) ∧ w.cell? ⟨g, (xs.length + r) * 6 + 4, none⟩ = some (.int .i64 0) ∧ w.cell? ⟨g, (xs.length + r) * 6 + 5, none⟩ = some (.string ⟨#[]⟩) := by
  have h6 : ∀ ys : List ActD, (ys.flatMap actCells).length = ys.length * 6 := by
    intro ys
    induction ys with
    | nil => rfl
    | cons y ys ih => rw [List.flatMap_cons, List.length_append, ih, List.length_cons]; simp [actCells]; omega
  have key : ∀ i, i < 6 → w.cell? ⟨g, (xs.length + r) * 6 + i, none⟩ = (actCells room)[i]? := by
    intro i hi
    rw [h.cellAt _ (by omega), List.flatMap_append, List.getElem?_append_right (by rw [h6]; omega), h6]
    rcases (by omega : r = 0 ∨ r = 1) with rfl | rfl
    · rw [show (xs.length + 0) * 6 + i - xs.length * 6 = i by omega]
      rw [List.flatMap_cons, List.getElem?_append_left (by simp [actCells]; omega)]
    · rw [show (xs.length + 1) * 6 + i - xs.length * 6 = i + 6 by omega]
      rw [List.flatMap_cons, List.getElem?_append_right (by simp [actCells]), show i + 6 - (actCells room).length = i by simp [actCells]]
      rw [List.flatMap_cons, List.getElem?_append_left (by simp [actCells]; omega)]
  exact ⟨key 0 (by omega), key 1 (by omega), key 2 (by omega), key 3 (by omega), key 4 (by omega), key 5 (by omega)⟩
set_option maxHeartbeats 2000000 in
set_option maxRecDepth 100000 in
theorem KeptActs_any (w : World) (xs : List ActD) (g c : Nat) (v : Value) (ho : w.ownsRow 0 TA 6 (.slice (some ⟨g, 0, none⟩) (xs.length + 2) c) (xs.length + 2) ((xs ++ [room, room]).flatMap actCells)) (hx : ActS w xs v) :
    Calls Tryd.prog 14 #[.slice (some ⟨g, 0, none⟩) xs.length c, v] w fun e w' => e = .returned (.bool true) ∧ Step No w w' := by
  obtain ⟨B, d, rfl, h3, h4⟩ := acts_len hx
  obtain ⟨g', c', he, hc1, hc2⟩ := row_form ho (by omega)
  injection he with he _ he2
  injection he with he
  injection he with he _
  subst he he2
  have hl : ActS w xs (.slice (some ⟨g, 0, none⟩) xs.length c) := acts_prefix (ys := [room, room]) (acts_of_post (by rw [show (xs ++ [room, room]).length = xs.length + 2 by simp]; exact ho) (by
    intro a ha
    rcases List.mem_append.1 ha with ha | ha
    · exact hx.text a ha
    · simp only [List.mem_cons, List.not_mem_nil, or_false] at ha
      rcases ha with rfl | rfl <;> exact Nat.zero_le _))
  have HLS := Lib.hid hl
  have HX := Lib.hid hx
  have HO := Lib.hid ho
  unfold maxLen at hc2
  have hn0 : (0 : Int) ≤ xs.length := by omega
  have hn1 : (xs.length : Int) + 2 ≤ c := by omega
  have hn2 : xs.length + 2 ≤ c := hc1
  have hn3 : (c : Int) ≤ 9223372036854775807 := by omega
  clear hl hx ho h3 h4 hc1 hc2
  go_enter Tryd.func14, Tryd.ntmps14
  go_wp2_with fail
  refine (SameActs_any _ xs xs _ _ HLS.out HX.out).mono ?_
  rintro e w1 ⟨r, rfl, hr, hs1⟩
  obtain rfl : r = true := hr.2 rfl
  have hO1 := row_step HO.out hs1 (fun _ _ f => f)
  obtain ⟨a0, a1, a2, a3, a4, a5⟩ := room_cells hO1 0 (by decide)
  obtain ⟨b0, b1, b2, b3, b4, b5⟩ := room_cells hO1 1 (by decide)
  simp only [Nat.add_zero] at a0 a1 a2 a3 a4 a5
  have H1 := Lib.hid hs1
  clear hr hs1 hO1
  go_wp2
  go_ret
  exact ⟨rfl, H1.out⟩
set_option maxHeartbeats 1000000 in
set_option maxRecDepth 100000 in
theorem SpoilActs_any (w : World) (xs : List ActD) (v : Value) (ho : w.ownsRow 0 TA 6 v xs.length (xs.flatMap actCells)) : Calls Tryd.prog 17 #[v] w fun e w' => e = .returned (.tuple #[]) ∧ Step (fun k => v.ownBlock = some k) w w' := by
  obtain ⟨A, c, rfl, h1, h2⟩ := row_slice ho
  unfold maxLen at h2
  have h6 : ∀ ys : List ActD, ∀ j, j < ys.length → ∃ z, (ys.flatMap actCells)[j * 6 + 3]? = some (.int .i64 z) := by
    intro ys
    induction ys with
    | nil => intro j hj; simp at hj
    | cons y ys ih =>
      intro j hj
      rw [List.flatMap_cons]
      cases j with
      | zero => exact ⟨y.at_, by rw [List.getElem?_append_left (by simp [actCells])]; rfl⟩
      | succ j =>
        obtain ⟨z, hz⟩ := ih j (by simpa using hj)
        exact ⟨z, by rw [List.getElem?_append_right (by simp [actCells]; omega), show (j + 1) * 6 + 3 - (actCells y).length = j * 6 + 3 by simp [actCells]; omega]; exact hz⟩
  have H6 := Lib.hid (h6 xs)
  have HO := Lib.hid ho
  clear h6 ho
  go_enter Tryd.func17, Tryd.ntmps17
  go_wp2
  go_loopw [2] (fun i wr => ∃ (k : Nat) (cs : List Value), k ≤ xs.length ∧ i = .int .i64 k ∧ wr.ownsRow 0 TA 6 (.slice A xs.length c) xs.length cs ∧ (∀ j, j < xs.length → ∃ z, cs[j * 6 + 3]? = some (.int .i64 z)) ∧ Step (fun k => (Value.slice A xs.length c).ownBlock = some k) w wr) (fun i _ => xs.length - (RowKit.intOf i).toNat)
  case atStart => exact ⟨0, _, Nat.zero_le _, rfl, HO.out, H6.out, Step.refl _ _⟩
  case round =>
    obtain ⟨k, cs, hk, rfl, ho, hz, hs⟩ := hrel
    by_cases hlt : k < xs.length
    · obtain ⟨g, c', he, -, -⟩ := row_form ho (by omega)
      injection he with he _ he2
      subst he he2
      obtain ⟨z, hzk⟩ := hz k hlt
      have c0 : wr.cell? ⟨g, k * 6 + 3, none⟩ = some (.int .i64 z) := by rw [ho.cellAt _ (by omega)]; exact hzk
      have f0 : wr.frozen? ⟨g, k * 6 + 3, none⟩ = false := by
        obtain ⟨cur, hcur⟩ := row_block ho (k := g) rfl
        exact blk_free hcur _
      have hi1 : (k : Int) < xs.length := by omega
      have hi0 : (0 : Int) ≤ k := by omega
      have HN : Hid (∀ u : Int, (wr.setCell ⟨g, k * 6 + 3, none⟩ (.int .i64 u)).ownsRow 0 TA 6 (.slice (some ⟨g, 0, none⟩) xs.length c) xs.length (cs.set (k * 6 + 3) (.int .i64 u)) ∧ (∀ j, j < xs.length → ∃ z, (cs.set (k * 6 + 3) (.int .i64 u))[j * 6 + 3]? = some (.int .i64 z)) ∧ Step (fun k => (Value.slice (some ⟨g, 0, none⟩) xs.length c).ownBlock = some k) w (wr.setCell ⟨g, k * 6 + 3, none⟩ (.int .i64 u))) := Lib.hid (fun u => ⟨(ho.stored _ _).1, fun j hj => by
          rw [List.getElem?_set]
          split
          · split
            · exact ⟨_, rfl⟩
            · rename_i hx
              obtain ⟨z', hz'⟩ := hz k hlt
              have := (List.getElem?_eq_some_iff.1 hz').1
              exact absurd this hx
          · exact hz j hj, hs.setCell (p := ⟨g, k * 6 + 3, none⟩) (fun _ => rfl) _⟩)
      clear ho hz hs hzk
      go_wp2
      go_roundw
      case rel => exact ⟨k + 1, _, hlt, by go_num, (HN.out _).1, (HN.out _).2.1, (HN.out _).2.2⟩
      case measure => simp [RowKit.intOf]; omega
    · obtain rfl : k = xs.length := by omega
      have HS := Lib.hid hs
      clear ho hz hs
      go_wp2
      go_end0
      exact ⟨rfl, HS.out⟩
end Go.Proofs.YtjeamfoicpgkhaaDoor.ScrW
