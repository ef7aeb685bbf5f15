/- Several of my texts in one file: Build, Build2, Writer, Writer2, Writer3. -/
import Derived.Test.YtkamhpbfebdhjaaGreatDoorLumpA
import Derived.Test.YtkamhpbfebdhjaaGreatDoorProg
import Derived.Test.YtkamhpbfebdhjaaGreatDoorChecked
import Derived.Lib.Builder
import Derived.Shelf.Strings.Builder1
import Derived.Test.YtkamhpbfebdhjaaGreatDoorLumpB
import Derived.Test.YtkamhpbfebdhjaaGreatDoorLumpM
/- A strings.Builder that lies in a writer of packed texts: what its methods do. -/
namespace Go.Proofs.YtkamhpbfebdhjaaGreatDoor.Build
open Go.RowKit Go.Lib Go.Proofs.YtkamhpbfebdhjaaGreatDoor.Mem Go.Proofs.YtkamhpbfebdhjaaGreatDoor.AppStr
set_option linter.unusedVariables false
set_option linter.unusedSimpArgs false
abbrev TW : TypeId := 76
/-- A writer in block b holds the bytes l; its blocks are among ok. -/
def WRep (ok : Nat → Prop) (w : World) (b : Nat) (l : List UInt8) : Prop :=
  ∃ p v, w.heap[b]? = some (.cells #[p, v] TW (0, 0)) ∧ (p = .pointer none ∨ p = .pointer (some ⟨b, 0, none⟩)) ∧ ok b ∧ w.ownsRow 0 5 1 v l.length (byteCells l) ∧ ∀ k, v.ownBlock = some k → ok k
theorem WRep.step {ok F : Nat → Prop} {w w' : World} {b : Nat} {l : List UInt8} (h : WRep ok w b l) (hs : Step F w w') (hF : ∀ k, ok k → k < w.heap.size → ¬ F k) : WRep ok w' b l := by
  obtain ⟨p, v, h1, h2, h3, h4, h5⟩ := h
  exact ⟨p, v, hs.blk h1 (hF b h3 (blk_lt h1)), h2, h3, row_step h4 hs (fun k hk => hF k (h5 k hk) (h4.lt k hk).2), h5⟩
theorem WRep.mono {ok ok' : Nat → Prop} {w : World} {b : Nat} {l : List UInt8} (h : WRep ok w b l) (hF : ∀ k, k < w.heap.size → ok k → ok' k) : WRep ok' w b l := by
  obtain ⟨p, v, h1, h2, h3, h4, h5⟩ := h
  exact ⟨p, v, h1, h2, hF b (blk_lt h1) h3, h4, fun k hk => hF k (h4.lt k hk).2 (h5 k hk)⟩
theorem WRep.new (w : World) : WRep (fun k => k = w.heap.size) (w.alloc (.cells #[.pointer none, .slice none 0 0] TW)) w.heap.size [] :=
  ⟨.pointer none, .slice none 0 0, blk_new w _, .inl rfl, rfl, World.ownsRow_nil _ _ _ _, fun k hk => by simp [Value.ownBlock] at hk⟩
def WPost (ok : Nat → Prop) (w : World) (b : Nat) (r : Value) (l : List UInt8) (e : Ending) (w' : World) : Prop :=
  e = .returned r ∧ WRep (fun k => ok k ∨ w.heap.size ≤ k) w' b l ∧ Step ok w w'
theorem lies : liesAt Tryz.prog Tryz.prog.depth TW (2 / Tryz.prog.cellsOf TW) 0 74 1 = true := by kernel_rfl
theorem infoB : (Tryz.prog.info? 5).map (fun i => (i.zero, i.size, i.bytes)) = some (some (.int .u8 0), 1, 1) := by kernel_rfl
theorem infoSB : (Tryz.prog.info? 74).map (·.size) = some 2 := by kernel_rfl
set_option maxHeartbeats 1000000 in
set_option maxRecDepth 100000 in
theorem copyCheck_any (ok : Nat → Prop) (w : World) (b : Nat) (l : List UInt8) (h : WRep ok w b l) :
    Calls Tryz.prog 51 #[.pointer (some ⟨b, 0, none⟩)] w fun e w' => e = .returned (.tuple #[]) ∧ w'.heap.size = w.heap.size ∧ Step (fun k => k = b) w w' ∧
      ∃ v, w'.heap[b]? = some (.cells #[.pointer (some ⟨b, 0, none⟩), v] TW (0, 0)) ∧ w'.ownsRow 0 5 1 v l.length (byteCells l) ∧ (∀ k, v.ownBlock = some k → ok k) := by
  obtain ⟨p, v, h1, h2, h3, h4, h5⟩ := h
  obtain ⟨j, hj, hjs⟩ := Option.map_eq_some_iff.1 infoSB
  have hf := blk_free h1 0
  have hsh : w.shape? b = some (TW, 2) := by simp [World.shape?, h1]
  have hne : v.ownBlock ≠ some b := row_ne h4 h1 (by decide)
  rcases h2 with rfl | rfl
  · have hc : w.cell? ⟨b, 0, none⟩ = some (.pointer none) := by rw [blk_cell h1]; rfl
    have Hh1 := Lib.hid h1
    have Hh4 := Lib.hid h4
    have Hh5 := Lib.hid h5
    have Hhj := Lib.hid hj
    have Hhjs := Lib.hid hjs
    have Hhne := Lib.hid hne
    have Hhsh := Lib.hid hsh
    clear h1 h4 h5 hj hjs hne hsh
    go_enter Tryz.func51, Tryz.ntmps51
    go_wp2
    rw [Lib.run_to_unsafe w ⟨b, 0, none⟩ Tryz.underlying71 Tryz.underlying134 Hhj.out (by rw [Hhjs.out]; decide) Hhsh.out (Nat.zero_lt_succ 1)]
    simp only [Result.andThen]
    rw [Oper.upon_value]
    go_wp2
    rw [run_callFunc_extern Tryz.func78 (by kernel_rfl) (by kernel_rfl) (by kernel_rfl) (e := Extern.AbiNoEscape.same) (by kernel_rfl)]
    rw [Lib.run_noEscape]
    simp only [Result.andThen]
    rw [Oper.upon_value]
    go_wp2
    rw [Lib.run_from_unsafe w ⟨b, 0, none⟩ Tryz.underlying134 Tryz.underlying71 Hhj.out Hhsh.out lies]
    simp only [Result.andThen]
    rw [Oper.upon_value]
    go_wp2
    go_end0
    have hst : Step (fun k => k = b) w (w.setCell ⟨b, 0, none⟩ (.pointer (some ⟨b, 0, none⟩))) := (Step.refl (fun k => k = b) w).setCell (p := ⟨b, 0, none⟩) (fun _ => rfl) _
    refine ⟨rfl, by simp [World.setCell], hst, v, blk_set Hh1.out 0 _, ?_, Hh5.out⟩
    exact row_step Hh4.out hst (fun k hk e => Hhne.out (by rw [← e]; exact hk))
  · have hc : w.cell? ⟨b, 0, none⟩ = some (.pointer (some ⟨b, 0, none⟩)) := by rw [blk_cell h1]; rfl
    have Hh1 := Lib.hid h1
    have Hh4 := Lib.hid h4
    have Hh5 := Lib.hid h5
    have Hhj := Lib.hid hj
    have Hhjs := Lib.hid hjs
    have Hhne := Lib.hid hne
    have Hhsh := Lib.hid hsh
    clear h1 h4 h5 hj hjs hne hsh
    go_enter Tryz.func51, Tryz.ntmps51
    go_wp2
    rw [Lib.run_neq_ptr_same w _ Tryz.underlying71 Hhj.out]
    go_wp2
    go_end0
    exact ⟨rfl, rfl, Step.refl _ _, v, Hh1.out, Hh4.out, Hh5.out⟩
theorem w_close {ok : Nat → Prop} {w w1 w2 : World} {b n : Nat} {v v1 : Value} {xs : List Value} {l : List UInt8} (hsz : w1.heap.size = w.heap.size) (hs : Step (fun k => k = b) w w1) (hok : ok b)
    (h1 : w1.heap[b]? = some (.cells #[.pointer (some ⟨b, 0, none⟩), v] TW (0, 0))) (h0 : w1.ownsRow 0 5 1 v n xs) (h5 : ∀ k, v.ownBlock = some k → ok k)
    {w0 : World} (hd : Step No w1 w0) (hsz0 : w0.heap.size = w1.heap.size ∨ True)
    {m : Nat} (hm : m = l.length) (ho : w2.ownsRow 0 5 1 v1 m (byteCells l)) (hg : w0.grownBy w2 v.ownBlock) (hat : v1.ownBlock = v.ownBlock ∨ v1.ownBlock = some w0.heap.size) :
    WRep (fun k => ok k ∨ w.heap.size ≤ k) (w2.setCell ⟨b, 1, none⟩ v1) b l ∧ Step ok w (w2.setCell ⟨b, 1, none⟩ v1) := by
  subst hm
  have hne : v.ownBlock ≠ some b := row_ne h0 h1 (by decide)
  have hb : w2.heap[b]? = some (.cells #[.pointer (some ⟨b, 0, none⟩), v] TW (0, 0)) := by
    rw [hg.block b (Nat.lt_of_lt_of_le (blk_lt h1) hd.size) (fun e => hne e.symm)]
    exact hd.blk h1 (fun f => f)
  have hne1 : v1.ownBlock ≠ some b := row_ne ho hb (by decide)
  have hst : Step ok w w2 := ((hs.mono (fun k _ e => e ▸ hok)).trans hd (fun _ f _ => f.elim)).grown hg (fun k hk _ => h5 k hk)
  refine ⟨⟨_, v1, blk_set hb 1 _, .inr rfl, .inl hok, ?_, fun k hk => ?_⟩, hst.setCell (p := ⟨b, 1, none⟩) (fun _ => hok) _⟩
  · exact row_move ho (fun k hk => Below.heap_setCell _ _ _ _ (fun e => hne1 (by rw [hk, e])))
  · rcases hat with hat | hat
    · exact .inl (h5 k (by rw [← hat, hk]))
    · rw [hk] at hat
      injection hat with hat
      have := hd.size
      exact .inr (by omega)
theorem w_blk {w1 w0 w2 : World} {b n : Nat} {v : Value} {xs : List Value} (h1 : w1.heap[b]? = some (.cells #[.pointer (some ⟨b, 0, none⟩), v] TW (0, 0))) (h0 : w1.ownsRow 0 5 1 v n xs) (hd : Step No w1 w0) (hg : w0.grownBy w2 v.ownBlock) :
    w2.cell? ⟨b, 1, none⟩ = some v ∧ w2.frozen? ⟨b, 1, none⟩ = false := by
  have hne : v.ownBlock ≠ some b := row_ne h0 h1 (by decide)
  have hb : w2.heap[b]? = some (.cells #[.pointer (some ⟨b, 0, none⟩), v] TW (0, 0)) := by
    rw [hg.block b (Nat.lt_of_lt_of_le (blk_lt h1) hd.size) (fun e => hne e.symm)]
    exact hd.blk h1 (fun f => f)
  exact ⟨by rw [blk_cell hb]; rfl, blk_free hb 1⟩
set_option maxHeartbeats 1000000 in
set_option maxRecDepth 100000 in
theorem WriteString_any (ok : Nat → Prop) (w : World) (b : Nat) (l : List UInt8) (s : ByteArray) (h : WRep ok w b l) (hlen : l.length + s.size ≤ 140737488355328) :
    Calls Tryz.prog 52 #[.pointer (some ⟨b, 0, none⟩), .string s] w (WPost ok w b (.tuple #[.int .i64 s.size, .nilIface]) (l ++ s.data.toList)) := by
  have hok : ok b := by obtain ⟨p, v, _, _, h3, _⟩ := h; exact h3
  have HH := Lib.hid h
  clear h
  go_enter Tryz.func52, Tryz.ntmps52
  go_wp2_with fail
  refine (copyCheck_any ok _ b l HH.out).mono ?_
  rintro e w1 ⟨rfl, hsz, hs, v, h1, h4, h5⟩
  have hc : w1.cell? ⟨b, 1, none⟩ = some v := by rw [blk_cell h1]; rfl
  have Hhsz := Lib.hid hsz
  have Hhs := Lib.hid hs
  have Hh1 := Lib.hid h1
  have Hh4 := Lib.hid h4
  have Hh5 := Lib.hid h5
  clear hsz hs h1 h4 h5
  go_wp2_with (at_builtin; refine list_append_str _ rfl (.tmp 12) (.tmp 13) 72 9 5 rfl Tryz.underlying72 Tryz.underlying9 infoB v l.length _ rfl Hh4.out s rfl hlen ?_; intro v1 w2 hown hg hat; obtain ⟨hc5, hf5⟩ := w_blk Hh1.out Hh4.out (Step.refl _ _) hg; rw [strCells_eq, ← byteCells_append] at hown; obtain ⟨A1, k1, rfl, -, -⟩ := row_slice hown; have H1 := Lib.hid hown; have H2 := Lib.hid hg; have H3 := Lib.hid hat; clear hown hg hat)
  go_ret2
  exact ⟨rfl, w_close Hhsz.out Hhs.out hok Hh1.out Hh4.out Hh5.out (Step.refl _ _) (.inr trivial) (by rw [List.length_append, Array.length_toList]; rfl) H1.out H2.out H3.out⟩
set_option maxHeartbeats 1000000 in
set_option maxRecDepth 100000 in
theorem WriteByte_any (ok : Nat → Prop) (w : World) (b : Nat) (l : List UInt8) (c : UInt8) (h : WRep ok w b l) (hlen : l.length + 1 ≤ 140737488355328) :
    Calls Tryz.prog 27 #[.pointer (some ⟨b, 0, none⟩), .int .u8 c.toNat] w (WPost ok w b (.nilIface) (l ++ [c])) := by
  have hok : ok b := by obtain ⟨p, v, _, _, h3, _⟩ := h; exact h3
  have HH := Lib.hid h
  clear h
  go_enter Tryz.func27, Tryz.ntmps27
  go_wp2_with fail
  refine (copyCheck_any ok _ b l HH.out).mono ?_
  rintro e w1 ⟨rfl, hsz, hs, v, h1, h4, h5⟩
  have hc : w1.cell? ⟨b, 1, none⟩ = some v := by rw [blk_cell h1]; rfl
  have Hhsz := Lib.hid hsz
  have Hhs := Lib.hid hs
  have Hh1 := Lib.hid h1
  have Hh4 := Lib.hid h4
  have Hh5 := Lib.hid h5
  clear hsz hs h1 h4 h5
  have hn : ((c.toNat : Nat) : Int) = ((c.toNat : Nat) : Int) := rfl
  go_wp2_with (at_builtin; refine list_append_own _ rfl (.tmp 11) (.tmp 13) 72 5 (.int .u8 0) 1 1 rfl Tryz.underlying72 infoB rfl (by decide) v l.length _ rfl (by exact Hh4.out.alloc _) ⟨w1.heap.size, 0, none⟩ 1 1 [.int .u8 c.toNat] rfl rfl (by exact cells_new w1 #[.int .u8 c.toNat] 5) (by simp [Value.oneCell']) (by simp only [maxLen]; omega) (by omega) ?_; intro v1 w2 hown hg hat; obtain ⟨hc5, hf5⟩ := w_blk Hh1.out Hh4.out (w0 := w1.alloc (.cells #[.int .u8 c.toNat] 5)) (by repeat' (first | exact Step.refl _ _ | with_reducible assumption | refine Step.drew ?_ | refine Step.drewN ?_ _ | refine Step.alloc ?_ _)) hg; rw [show byteCells l ++ [Value.int .u8 c.toNat] = byteCells (l ++ [c]) by simp [byteCells]] at hown; obtain ⟨A1, k1, rfl, -, -⟩ := row_slice hown; have H1 := Lib.hid hown; have H2 := Lib.hid hg; have H3 := Lib.hid hat; clear hown hg hat)
  go_ret
  exact ⟨rfl, w_close Hhsz.out Hhs.out hok Hh1.out Hh4.out Hh5.out (w0 := w1.alloc (.cells #[.int .u8 c.toNat] 5)) (by repeat' (first | exact Step.refl _ _ | with_reducible assumption | refine Step.drew ?_ | refine Step.drewN ?_ _ | refine Step.alloc ?_ _)) (.inr trivial) (by simp) H1.out H2.out H3.out⟩
end Go.Proofs.YtkamhpbfebdhjaaGreatDoor.Build

/- What a writer of packed texts holds, as a string. -/
namespace Go.Proofs.YtkamhpbfebdhjaaGreatDoor.Build
open Go.RowKit Go.Lib Go.Proofs.YtkamhpbfebdhjaaGreatDoor.Mem Go.Proofs.YtkamhpbfebdhjaaGreatDoor.AppStr
set_option linter.unusedVariables false
set_option linter.unusedSimpArgs false
theorem cells_u8 : Tryz.prog.cellsOf 5 = 1 := by kernel_rfl
theorem step_freeze {ok : Nat → Prop} {w w1 : World} {g : Nat} (h : Step ok w w1) (hg : ok g) (n : Nat) : Step ok w (w1.freeze ⟨g, 0, none⟩ n) := by
  have hb := Lib.below_freeze (Below.refl g w1) (p := ⟨g, 0, none⟩) (Nat.le_refl g) n
  refine ⟨hb.os.trans h.os, hb.tape.trans h.tape, hb.output.trans h.output, Nat.le_trans h.size hb.size, fun i hi hF => ?_⟩
  rw [← h.block i hi hF]
  have hne : i ≠ g := fun e => hF (e ▸ hg)
  simp only [World.freeze]
  split <;> simp_all [Array.getElem?_modify]
  intro e
  exact absurd e.symm hne
set_option maxHeartbeats 2000000 in
set_option maxRecDepth 100000 in
theorem String_any (ok : Nat → Prop) (w : World) (b : Nat) (l : List UInt8) (h : WRep ok w b l) :
    Calls Tryz.prog 34 #[.pointer (some ⟨b, 0, none⟩)] w fun e w' => e = .returned (.string ⟨l.toArray⟩) ∧ Step ok w w' := by
  obtain ⟨p, v, hbk, _, hok, hown, hv⟩ := h
  have hlt := blk_lt hbk
  rcases hown.2 with ⟨rfl, h0⟩ | ⟨g, cap, cur, rfl, _, hg, hnc, hcm, hcs, htake⟩
  · obtain rfl : l = [] := List.eq_nil_of_length_eq_zero h0
    have hUS : ∀ (W : World) (q : Option Addr), (Builtin.unsafeString_ #[115, 3] 9 #[.pointer q, .int .i64 0]).run Tryz.prog W = .ok (.string .empty) W := fun W q => Lib.run_unsafeString_none W _ _ _ q
    have c1 : w.drew.cell? ⟨b, 1, none⟩ = some (.slice none 0 0) := by
      have : w.drew.heap[b]? = some (.cells #[p, .slice none 0 0] TW (0, 0)) := hbk
      rw [blk_cell this]; rfl
    have hSD : (Builtin.unsafeSliceData_ #[72] 115 #[.slice none 0 0]).run Tryz.prog w.drew = .ok (.pointer none) w.drew := rfl
    have Hhbk := Lib.hid hbk
    have Hhown := Lib.hid hown
    have Hhv := Lib.hid hv
    clear hbk hown hv
    clear hlt
    go_enter Tryz.func34, Tryz.ntmps34
    go_wp2
    go_region
    all_goals (go_wp2; go_ret; exact ⟨rfl, (by repeat' (first | exact Step.refl _ _ | with_reducible assumption | refine Step.drew ?_ | refine Step.drewN ?_ _ | refine Step.alloc ?_ _))⟩)
  · by_cases hl0 : l = []
    · subst hl0
      have hUS : ∀ (W : World) (q : Option Addr), (Builtin.unsafeString_ #[115, 3] 9 #[.pointer q, .int .i64 0]).run Tryz.prog W = .ok (.string .empty) W := fun W q => Lib.run_unsafeString_none W _ _ _ q
      have c1 : w.drew.cell? ⟨b, 1, none⟩ = some (.slice (some ⟨g, 0, none⟩) 0 cap) := by
        have : w.drew.heap[b]? = some (.cells #[p, .slice (some ⟨g, 0, none⟩) 0 cap] TW (0, 0)) := hbk
        rw [blk_cell this]; rfl
      by_cases hc0 : cap = 0
      · subst hc0
        have hSD : (Builtin.unsafeSliceData_ #[72] 115 #[.slice (some ⟨g, 0, none⟩) 0 0]).run Tryz.prog w.drew = .ok (.pointer (some ⟨w.drew.heap.size, 0, none⟩)) (w.drew.alloc (.view ⟨g, 0, none⟩ 5)) :=
          Lib.run_unsafeSliceData_zero w.drew _ _ 5 Tryz.underlying115 ⟨g, 0, none⟩ 0 (5, cur.size) (by have hg' : w.drew.heap[g]? = some (.cells cur 5 (0, 0)) := hg; simp [World.shape?, hg'])
        have c2 : (w.drew.alloc (.view ⟨g, 0, none⟩ 5)).cell? ⟨b, 1, none⟩ = some (.slice (some ⟨g, 0, none⟩) 0 0) := by
          have : (w.drew.alloc (.view ⟨g, 0, none⟩ 5)).heap[b]? = _ := (Lib.alloc_old w.drew _ b hlt).trans hbk
          rw [blk_cell this]; rfl
        have c3 : (w.alloc (.view ⟨g, 0, none⟩ 5)).drew.cell? ⟨b, 1, none⟩ = some (.slice (some ⟨g, 0, none⟩) 0 0) := c2
        have c0 : w.cell? ⟨b, 1, none⟩ = some (.slice (some ⟨g, 0, none⟩) 0 0) := c1
        have Hhbk := Lib.hid hbk
        have Hhown := Lib.hid hown
        have Hhv := Lib.hid hv
        have Hhg := Lib.hid hg
        clear hbk hown hv hg
        clear hlt hcs htake hnc hcm
        go_enter Tryz.func34, Tryz.ntmps34
        go_wp2
        go_region
        all_goals (go_wp2; go_ret; exact ⟨rfl, (by repeat' (first | exact Step.refl _ _ | with_reducible assumption | refine Step.drew ?_ | refine Step.drewN ?_ _ | refine Step.alloc ?_ _))⟩)
      · have hSD : (Builtin.unsafeSliceData_ #[72] 115 #[.slice (some ⟨g, 0, none⟩) 0 cap]).run Tryz.prog w.drew = .ok (.pointer (some ⟨g, 0, none⟩)) w.drew :=
          Lib.run_unsafeSliceData_row _ _ _ _ _ _ hc0
        have Hhbk := Lib.hid hbk
        have Hhown := Lib.hid hown
        have Hhv := Lib.hid hv
        have Hhg := Lib.hid hg
        clear hbk hown hv hg
        clear hc0 hlt hcs htake hnc hcm
        go_enter Tryz.func34, Tryz.ntmps34
        go_wp2
        go_region
        all_goals (go_wp2; go_ret; exact ⟨rfl, (by repeat' (first | exact Step.refl _ _ | with_reducible assumption | refine Step.drew ?_ | refine Step.drewN ?_ _ | refine Step.alloc ?_ _))⟩)
    · have hn0 : l.length ≠ 0 := fun e => hl0 (List.eq_nil_of_length_eq_zero e)
      have c1 : w.drew.cell? ⟨b, 1, none⟩ = some (.slice (some ⟨g, 0, none⟩) l.length cap) := by
        have : w.drew.heap[b]? = some (.cells #[p, .slice (some ⟨g, 0, none⟩) l.length cap] TW (0, 0)) := hbk
        rw [blk_cell this]; rfl
      have hSD : (Builtin.unsafeSliceData_ #[72] 115 #[.slice (some ⟨g, 0, none⟩) l.length cap]).run Tryz.prog w.drew = .ok (.pointer (some ⟨g, 0, none⟩)) w.drew :=
        Lib.run_unsafeSliceData_row _ _ _ _ _ _ (by omega)
      have hUS : (Builtin.unsafeString_ #[115, 3] 9 #[.pointer (some ⟨g, 0, none⟩), .int .i64 l.length]).run Tryz.prog w.drew = .ok (.string ⟨l.toArray⟩) (w.drew.freeze ⟨g, 0, none⟩ l.length) := by
        refine Lib.run_unsafeString_row w.drew 115 3 9 5 Tryz.underlying115 cells_u8 g cur.size (by have hg' : w.drew.heap[g]? = some (.cells cur 5 (0, 0)) := hg; simp [World.shape?, hg']) l hl0 (by omega) (by unfold maxLen at hcm; omega) ?_
        intro j x hx
        have := hown.cells (g := g) rfl j (.int .u8 x.toNat) (by simp [Lib.byteCells, hx])
        exact this
      have hokg := hv g rfl
      have Hhbk := Lib.hid hbk
      have Hhown := Lib.hid hown
      have Hhv := Lib.hid hv
      have Hhg := Lib.hid hg
      clear hbk hown hv hg
      clear hn0 hlt hcs htake hnc hcm
      go_enter Tryz.func34, Tryz.ntmps34
      go_wp2
      go_region
      all_goals (go_wp2; go_ret; exact ⟨rfl, step_freeze (by repeat' (first | exact Step.refl _ _ | with_reducible assumption | refine Step.drew ?_ | refine Step.drewN ?_ _ | refine Step.alloc ?_ _)) hokg _⟩)
end Go.Proofs.YtkamhpbfebdhjaaGreatDoor.Build

/- A writer of packed texts: numbers and texts. -/
namespace Go.Proofs.YtkamhpbfebdhjaaGreatDoor.Writer
open Go.RowKit Go.Lib Go.Proofs.YtkamhpbfebdhjaaGreatDoor.Mem Go.Proofs.YtkamhpbfebdhjaaGreatDoor.Build Go.Proofs.YtkamhpbfebdhjaaGreatDoor.Env Go.Proofs.YtkamhpbfebdhjaaGreatDoor.Take Go.Proofs.YtkamhpbfebdhjaaGreatDoor.Read
set_option linter.unusedVariables false
set_option linter.unusedSimpArgs false
def EnvS (ok : Nat → Prop) (w : World) : Prop := ∀ w', Step ok w w' → Env w'
def Rng (x : Int) : Prop := -9223372036854775808 ≤ x ∧ x ≤ 9223372036854775807
theorem Itoa_any (n : Int) (hn : Rng n) (w : World) (hE : Env w) : Calls Tryz.prog 53 #[.int .i64 n] w fun e w' => e = .returned (.string ⟨(itoa n).toArray⟩) ∧ Step No w w' := by
  refine (Tryz.strconv_Itoa n hn.1 hn.2 w hE.1).mono ?_
  rintro e w' ⟨rfl, k, os, rfl⟩
  exact ⟨rfl, grow_step k os⟩
/-- A writer that has been written since w. -/
def WS (ok : Nat → Prop) (w wr : World) (b : Nat) (l : List UInt8) : Prop := WRep (fun k => ok k ∨ w.heap.size ≤ k) wr b l ∧ Step ok w wr
theorem WS.start {ok : Nat → Prop} {w : World} {b : Nat} {l : List UInt8} (h : WRep ok w b l) : WS ok w w b l := ⟨h.mono (fun _ _ => .inl), Step.refl _ _⟩
theorem WS.same {ok : Nat → Prop} {w wr w' : World} {b : Nat} {l : List UInt8} (h : WS ok w wr b l) (hs : Step No wr w') : WS ok w w' b l :=
  ⟨h.1.step hs (fun _ _ _ f => f), h.2.trans hs (fun _ f _ => f.elim)⟩
theorem WS.write {ok : Nat → Prop} {w wr w' : World} {b : Nat} {l l' : List UInt8} {r : Value} {e : Ending} (h : WS ok w wr b l) (hp : WPost (fun k => ok k ∨ w.heap.size ≤ k) wr b r l' e w') : e = .returned r ∧ WS ok w w' b l' :=
  ⟨hp.1, hp.2.1.mono (fun k _ o => o.elim id (fun o => .inr (Nat.le_trans h.2.size o))), h.2.trans hp.2.2 (fun i o hlt => o.elim id (fun o => absurd hlt (Nat.not_lt.2 o)))⟩
theorem WS.post {ok : Nat → Prop} {w w' : World} {b : Nat} {l : List UInt8} {r : Value} (h : WS ok w w' b l) : WPost ok w b r l (.returned r) w' := ⟨rfl, h.1, h.2⟩
theorem itoa_le {n : Int} (h : Rng n) : (itoa n).length ≤ 21 := itoa_length_le n h.1 h.2
theorem ints_cell {w : World} {xs : List Int} {A : Option Addr} {n c : Nat} (h : SlR 1 intR w xs (.slice A n c)) (k : Nat) (hk : k < xs.length) : ∃ ad, A = some ad ∧ w.cell? (ad.add k) = some (.int .i64 xs[k]) := by
  obtain ⟨A', c', he, _, _, h3⟩ := h
  injection he with he1 _ _
  subst he1
  obtain ⟨ad, cs, e, _, rfl, hc⟩ := h3 k hk
  exact ⟨ad, e, by simpa using hc 0 _ rfl⟩
theorem nums_snoc (xs : List Int) (k : Nat) (h : k < xs.length) : nums (xs.take (k + 1)) = nums (xs.take k) ++ num xs[k] := by
  unfold nums
  rw [List.take_succ_eq_append_getElem h, List.flatMap_append, List.flatMap_cons, List.flatMap_nil, List.append_nil]
theorem nums_len (xs : List Int) (h : ∀ x ∈ xs, Rng x) : (nums xs).length ≤ 22 * xs.length := by
  induction xs with
  | nil => simp [nums]
  | cons x xs ih =>
    have h1 := itoa_le (h x (by simp))
    have h2 := ih (fun y hy => h y (by simp [hy]))
    simp only [nums, List.flatMap_cons, List.length_append, List.length_cons, num, List.length_nil] at h2 ⊢
    omega
set_option maxHeartbeats 4000000 in
set_option maxRecDepth 100000 in
theorem Num_any (ok : Nat → Prop) (w : World) (b : Nat) (l : List UInt8) (xs : List Int) (A : Option Addr) (c : Nat) (h : WRep ok w b l) (hE : EnvS ok w) (hx : ∀ w', Step ok w w' → SlR 1 intR w' xs (.slice A xs.length c)) (hr : ∀ x ∈ xs, Rng x)
    (hl : l.length + 22 * xs.length ≤ 140737488355328) :
    Calls Tryz.prog 28 #[.pointer (some ⟨b, 0, none⟩), .slice A xs.length c] w (WPost ok w b (.tuple #[]) (l ++ nums xs)) := by
  have HW := Lib.hid (WS.start h)
  have Hh := Lib.hid h
  have HhE := Lib.hid hE
  have Hhx := Lib.hid hx
  have Hhr := Lib.hid hr
  clear h hE hx hr
  go_enter Tryz.func28, Tryz.ntmps28
  go_wp2
  go_loopw [8] (fun i wr => ∃ k : Nat, k ≤ xs.length ∧ i = .int .i64 k ∧ WS ok w wr b (l ++ nums (xs.take k))) (fun i _ => xs.length - (RowKit.intOf i).toNat)
  case atStart => exact ⟨0, Nat.zero_le _, rfl, by simpa [nums] using HW.out⟩
  case round =>
    obtain ⟨k, hk, rfl, hw⟩ := hrel
    by_cases hlt : k < xs.length
    · obtain ⟨ad, rfl, c0⟩ := ints_cell (Hhx.out wr hw.2) k hlt
      have hi0 : (0 : Int) ≤ k := by omega
      have hi1 : (k : Int) < xs.length := by omega
      have HR : Hid (Rng xs[k]) := Lib.hid (Hhr.out _ (List.getElem_mem hlt))
      have HN : Hid (l ++ nums (xs.take (k + 1)) = (l ++ nums (xs.take k)) ++ (itoa xs[k] ++ [44])) := Lib.hid (by rw [nums_snoc xs k hlt, List.append_assoc]; rfl)
      have HL : Hid ((l ++ nums (xs.take k)).length + 22 ≤ 140737488355328) := Lib.hid (by
        have := nums_len (xs.take k) (fun x hx => Hhr.out x (List.mem_of_mem_take hx))
        rw [List.length_take] at this
        rw [List.length_append]
        omega)
      generalize xs[k] = x at *
      generalize l ++ nums (xs.take k) = m at *
      have Hhw := Lib.hid hw
      clear hw
      go_upto_region 3 with (fail)
      have HWd := Lib.hid (Hhw.out.same ((Step.refl No _).drew))
      go_region_held3 (fun w' => True) (first | trivial) (first | (go_at_call 53; refine (Itoa_any x HR.out _ (HhE.out _ HWd.out.2)).mono ?_; rintro e w2 ⟨rfl, hs⟩; have HW2 := Lib.hid (HWd.out.same hs); clear hs) | (go_at_call 52; refine (WriteString_any _ _ b m ⟨(itoa x).toArray⟩ HW2.out.1 (by have := itoa_le HR.out; have := HL.out; rw [show (⟨(itoa x).toArray⟩ : ByteArray).size = (itoa x).length from by show (itoa x).toArray.size = _; simp]; omega)).mono ?_; rintro e w3 hp; obtain ⟨rfl, hw3⟩ := HW2.out.write hp; have HW3 := Lib.hid hw3; clear hp hw3))
      all_goals
        go_wp2_with fail
        refine (WriteByte_any _ _ b _ 44 HW3.out.1 (by have := itoa_le HR.out; have := HL.out; rw [List.length_append]; omega)).mono ?_
        rintro e w4 hp
        obtain ⟨rfl, hw4⟩ := HW3.out.write hp
        have HW4 := Lib.hid hw4
        clear hp hw4
        go_wp2
        go_roundw
        case rel => exact ⟨k + 1, hlt, rfl, by rw [HN.out, ← List.append_assoc]; exact HW4.out⟩
        case measure => simp [RowKit.intOf]; omega
    · obtain rfl : k = xs.length := by omega
      rw [List.take_length] at hw
      have Hhw := Lib.hid hw
      clear hw
      go_wp2
      go_end0
      exact Hhw.out.post
set_option maxHeartbeats 4000000 in
set_option maxRecDepth 100000 in
theorem Str_any (ok : Nat → Prop) (w : World) (b : Nat) (l : List UInt8) (s : ByteArray) (h : WRep ok w b l) (hE : EnvS ok w) (hl : l.length + s.size + 22 ≤ 140737488355328) :
    Calls Tryz.prog 31 #[.pointer (some ⟨b, 0, none⟩), .string s] w (WPost ok w b (.tuple #[]) (l ++ str s.data.toList)) := by
  have Hhw := Lib.hid (WS.start h)
  have HhE := Lib.hid hE
  have hs1 : s.data.toList.length = s.size := Array.length_toList
  have HN : Hid (l ++ str s.data.toList = ((l ++ itoa s.size) ++ [58]) ++ s.data.toList) := Lib.hid (by simp [str, hs1])
  have HR : Hid (Rng (s.size : Int)) := Lib.hid ⟨by omega, by omega⟩
  have HL : Hid (l.length + 22 ≤ 140737488355328) := Lib.hid (by omega)
  have HL2 : Hid (((l ++ itoa s.size) ++ [58]).length + s.size ≤ 140737488355328) := Lib.hid (by
    have := itoa_le HR.out
    rw [List.length_append, List.length_append, List.length_singleton]
    omega)
  clear h hE hl hs1
  rw [HN.out]
  clear HN
  obtain ⟨x, hx⟩ : ∃ x : Int, (s.size : Int) = x := ⟨_, rfl⟩
  rw [hx] at HR HL2 ⊢
  go_enter Tryz.func31, Tryz.ntmps31
  go_upto_region 0 with (fail)
  have HWd := Lib.hid (Hhw.out.same ((Step.refl No _).drew))
  go_region_held3 (fun w' => True) (first | trivial) (first | (go_at_call 53; refine (Itoa_any x HR.out _ (HhE.out _ HWd.out.2)).mono ?_; rintro e w2 ⟨rfl, hs⟩; have HW2 := Lib.hid (HWd.out.same hs); clear hs) | (go_at_call 52; refine (WriteString_any _ _ b l ⟨(itoa x).toArray⟩ HW2.out.1 (by have := itoa_le HR.out; have := HL.out; rw [show (⟨(itoa x).toArray⟩ : ByteArray).size = (itoa x).length from by show (itoa x).toArray.size = _; simp]; omega)).mono ?_; rintro e w3 hp; obtain ⟨rfl, hw3⟩ := HW2.out.write hp; have HW3 := Lib.hid hw3; clear hp hw3))
  all_goals
    go_wp2_with fail
    refine (WriteByte_any _ _ b _ 58 HW3.out.1 (by have := itoa_le HR.out; have := HL.out; rw [List.length_append]; omega)).mono ?_
    rintro e w4 hp
    obtain ⟨rfl, hw4⟩ := HW3.out.write hp
    have HW4 := Lib.hid hw4
    clear hp hw4
    go_wp2_with fail
    refine (WriteString_any _ _ b _ s HW4.out.1 HL2.out).mono ?_
    rintro e w5 hp
    obtain ⟨rfl, hw5⟩ := HW4.out.write hp
    have HW5 := Lib.hid hw5
    clear hp hw5
    go_wp2
    go_end0
    exact HW5.out.post
end Go.Proofs.YtkamhpbfebdhjaaGreatDoor.Writer

/- A writer of packed texts: rows of numbers, pieces of edits. -/
namespace Go.Proofs.YtkamhpbfebdhjaaGreatDoor.Writer
open Go.RowKit Go.Lib Go.Proofs.YtkamhpbfebdhjaaGreatDoor.Mem Go.Proofs.YtkamhpbfebdhjaaGreatDoor.Build Go.Proofs.YtkamhpbfebdhjaaGreatDoor.Env Go.Proofs.YtkamhpbfebdhjaaGreatDoor.Take Go.Proofs.YtkamhpbfebdhjaaGreatDoor.Read Go.Proofs.YtkamhpbfebdhjaaGreatDoor.Tree Go.Proofs.YtkamhpbfebdhjaaGreatDoor.Data Go.Proofs.YtkamhpbfebdhjaaGreatDoor.CompR Go.Proofs.YtkamhpbfebdhjaaGreatDoor.MsgR Go.Proofs.YtkamhpbfebdhjaaGreatDoor.Pk
set_option linter.unusedVariables false
set_option linter.unusedSimpArgs false
abbrev TI : TypeId := 3
/-- What a call may turn that is made where wr was, with what was laid since kept. -/
def Snap (ok : Nat → Prop) (w : World) (n : Nat) (k : Nat) : Prop := (ok k ∨ w.heap.size ≤ k) ∧ k < n
theorem WS.rep {ok : Nat → Prop} {w wr wa : World} {b : Nat} {l : List UInt8} (h : WS ok w wr b l) (ha : Step No wr wa) : WRep (Snap ok w wr.heap.size) wa b l :=
  (h.1.mono (ok' := Snap ok w wr.heap.size) (fun k hk o => ⟨o, hk⟩)).step ha (fun _ _ _ f => f)
theorem WS.to {ok : Nat → Prop} {w wr wa w' : World} {b : Nat} {l : List UInt8} (h : WS ok w wr b l) (ha : Step No wr wa) (hs : Step (Snap ok w wr.heap.size) wa w') : Step ok w w' :=
  (h.2.trans ha (fun _ f _ => f.elim)).trans hs (fun i o hlt => o.1.elim id (fun o => absurd hlt (Nat.not_lt.2 o)))
theorem WS.env {ok : Nat → Prop} {w wr wa : World} {b : Nat} {l : List UInt8} (h : WS ok w wr b l) (hE : EnvS ok w) (ha : Step No wr wa) : EnvS (Snap ok w wr.heap.size) wa := fun w' hs => hE w' (h.to ha hs)
theorem WS.back {ok : Nat → Prop} {w wr wa w' : World} {b : Nat} {l l' : List UInt8} {r : Value} {e : Ending} (h : WS ok w wr b l) (ha : Step No wr wa) (hp : WPost (Snap ok w wr.heap.size) wa b r l' e w') : e = .returned r ∧ WS ok w w' b l' :=
  ⟨hp.1, hp.2.1.mono (fun k _ o => o.elim (fun o => o.1) (fun o => .inr (Nat.le_trans h.2.size (Nat.le_trans ha.size o)))), h.to ha hp.2.2⟩
theorem snap_far {ok : Nat → Prop} {w : World} {n k : Nat} (h : n ≤ k) : ¬ Snap ok w n k := fun e => absurd e.2 (Nat.not_lt.2 h)
theorem ints_blk {w : World} {g : Nat} {xs : List Int} {T : TypeId} (h : w.heap[g]? = some (.cells (ints xs).toArray T (0, 0))) (hz : xs.length ≤ maxLen) : SlR 1 intR w xs (.slice (some ⟨g, 0, none⟩) xs.length xs.length) := by
  refine ⟨some ⟨g, 0, none⟩, xs.length, rfl, Nat.le_refl _, hz, fun j hj => ?_⟩
  refine ⟨⟨g, 0, none⟩, [.int .i64 xs[j]], rfl, rfl, rfl, fun i u hu => ?_⟩
  have hi : i = 0 := by
    have := (List.getElem?_eq_some_iff.1 hu).1
    simpa using this
  subst hi
  rw [show (⟨g, 0, none⟩ : Addr).add (j * 1 + 0) = ⟨g, j, none⟩ by unfold Addr.add; split <;> simp_all, blk_cell h]
  simp only [List.getElem?_cons_zero, Option.some.injEq] at hu
  subst hu
  simp [ints, hj]
/-- Numbers that were just laid in a row. -/
theorem NumNew_any {ok : Nat → Prop} {w wr wa : World} {b : Nat} {l : List UInt8} (h : WS ok w wr b l) (hE : EnvS ok w) (ha : Step No wr wa) (xs : List Int) (g : Nat) (hg : wr.heap.size ≤ g) (hb : wa.heap[g]? = some (.cells (ints xs).toArray TI (0, 0))) (hr : ∀ x ∈ xs, Rng x) (hl : l.length ≤ 100000000000000) (hn : xs.length ≤ 1000) :
    Calls Tryz.prog 28 #[.pointer (some ⟨b, 0, none⟩), .slice (some ⟨g, 0, none⟩) xs.length xs.length] wa fun e w' => e = .returned (.tuple #[]) ∧ WS ok w w' b (l ++ nums xs) ∧ Step (Snap ok w wr.heap.size) wa w' := by
  refine (Num_any _ _ b l xs (some ⟨g, 0, none⟩) xs.length (h.rep ha) (h.env hE ha) (fun w' hst => ?_) hr (by omega)).mono fun e w' hp => ?_
  · exact ints_blk (hst.blk hb (snap_far hg)) (by unfold maxLen; omega)
  · obtain ⟨h1, h2⟩ := h.back ha hp
    exact ⟨h1, h2, hp.2.2⟩
theorem at2 (w : World) (o o' : Obj) : ((w.alloc o).alloc o').heap[w.heap.size + 1]? = some o' := by
  have := blk_new (w.alloc o) o'
  simpa using this
theorem rng_nil : ∀ y ∈ ([] : List Int), Rng y := fun y h => absurd h (by simp)
theorem rng_cons {x : Int} {xs : List Int} (h : Rng x) (t : ∀ y ∈ xs, Rng y) : ∀ y ∈ x :: xs, Rng y := fun y hy => (List.mem_cons.1 hy).elim (fun e => e ▸ h) (t y)
theorem ret_pair {ok : Nat → Prop} {w wr : World} {b : Nat} {l l' : List UInt8} (h : WS ok w wr b l) (e : l = l') : WPost ok w b (.tuple #[]) l' (.returned (.tuple #[])) wr := by subst e; exact h.post
set_option maxHeartbeats 2000000 in
theorem row_any (ok : Nat → Prop) (w : World) (b : Nat) (l : List UInt8) (ks : List Int) (kv : Value) (h : WRep ok w b l) (hE : EnvS ok w) (hx : ∀ w', Step ok w w' → SlR 1 intR w' ks kv) (hr : ∀ x ∈ ks, Rng x) (hl : l.length ≤ 100000000000000) (hn : ks.length ≤ 1000000000000) :
    Calls Tryz.prog 54 #[.pointer (some ⟨b, 0, none⟩), kv] w (WPost ok w b (.tuple #[]) (l ++ row ks)) := by
  obtain ⟨A, c, rfl, -, -⟩ := ints_len (hx w (Step.refl _ _))
  have HW := Lib.hid (WS.start h)
  have hRn : Rng (ks.length : Int) := ⟨by omega, by omega⟩
  have HhE := Lib.hid hE
  have Hhx := Lib.hid hx
  have Hhr := Lib.hid hr
  have Hh := Lib.hid h
  have HhRn := Lib.hid hRn
  clear hE hx hr h hRn
  have ha : Step No w (w.alloc (.cells #[.int .i64 ks.length] TI)) := (by repeat' (first | exact Step.refl _ _ | with_reducible assumption | refine Step.drew ?_ | refine Step.drewN ?_ _ | refine Step.alloc ?_ _))
  go_enter Tryz.func54, Tryz.ntmps54
  go_wp2_with fail
  refine (NumNew_any HW.out HhE.out ha [(ks.length : Int)] w.heap.size (Nat.le_refl _) (by exact blk_new _ _) (rng_cons HhRn.out rng_nil) hl (by simp)).mono ?_
  rintro e w2 ⟨rfl, hw2, -⟩
  have Hhw2 := Lib.hid hw2
  clear hw2
  go_wp2_with fail
  refine (Num_any _ _ b _ ks A c (Hhw2.out.rep (Step.refl _ _)) (Hhw2.out.env HhE.out (Step.refl _ _)) (fun w' hst => Hhx.out w' (Hhw2.out.to (Step.refl _ _) hst)) Hhr.out (by have := nums_len [(ks.length : Int)] (rng_cons HhRn.out rng_nil); rw [List.length_append]; simp only [List.length_cons, List.length_nil] at this; omega)).mono ?_
  rintro e w3 hp
  obtain ⟨rfl, hw3⟩ := Hhw2.out.back (Step.refl _ _) hp
  have Hhw3 := Lib.hid hw3
  clear hw3
  clear hp
  go_wp2
  go_end0
  exact ret_pair Hhw3.out (by simp [row, nums])
theorem take_flat {α β : Type} (f : α → List β) (xs : List α) (k : Nat) (h : k < xs.length) : (xs.take (k + 1)).flatMap f = (xs.take k).flatMap f ++ f xs[k] := by
  rw [List.take_succ_eq_append_getElem h, List.flatMap_append, List.flatMap_cons, List.flatMap_nil, List.append_nil]
theorem take_flat_len {α β : Type} (f : α → List β) (xs : List α) (k : Nat) (h : k < xs.length) : ((xs.take k).flatMap f).length + (f xs[k]).length ≤ (xs.flatMap f).length := by
  have h1 : xs.flatMap f = (xs.take (k + 1)).flatMap f ++ (xs.drop (k + 1)).flatMap f := by rw [← List.flatMap_append, List.take_append_drop]
  rw [h1, List.length_append, take_flat f xs k h, List.length_append]
  omega
def FineC (c : CompD) : Prop := Rng c.n ∧ c.text.size ≤ 1000000000000
set_option maxHeartbeats 4000000 in
theorem edit_any (ok : Nat → Prop) (w : World) (b : Nat) (l : List UInt8) (cs : List CompD) (v : Value) (h : WRep ok w b l) (hE : EnvS ok w) (hx : ∀ w', Step ok w w' → CompsR w' cs v) (hF : ∀ c ∈ cs, FineC c) (hl : (l ++ editS cs).length ≤ 100000000000000) (hn : cs.length ≤ 1000000000000) :
    Calls Tryz.prog 29 #[.pointer (some ⟨b, 0, none⟩), v] w (WPost ok w b (.tuple #[]) (l ++ editS cs)) := by
  obtain ⟨A, c, rfl, -, -⟩ := comps_len (hx w (Step.refl _ _))
  have HW := Lib.hid (WS.start h)
  have hRn : Rng (cs.length : Int) := ⟨by omega, by omega⟩
  rw [List.length_append] at hl
  have HL : Hid (l.length + (editS cs).length ≤ 100000000000000) := Lib.hid hl
  have HL0 : Hid (l.length ≤ 100000000000000) := Lib.hid (by omega)
  have HhE := Lib.hid hE
  have Hhx := Lib.hid hx
  have HhF := Lib.hid hF
  have Hh := Lib.hid h
  have HhRn := Lib.hid hRn
  clear hE hx hF h hRn
  clear hl
  have ha : Step No w (w.alloc (.cells #[.int .i64 cs.length] TI)) := (by repeat' (first | exact Step.refl _ _ | with_reducible assumption | refine Step.drew ?_ | refine Step.drewN ?_ _ | refine Step.alloc ?_ _))
  go_enter Tryz.func29, Tryz.ntmps29
  go_wp2_with fail
  refine (NumNew_any HW.out HhE.out ha [(cs.length : Int)] w.heap.size (Nat.le_refl _) (by exact blk_new _ _) (rng_cons HhRn.out rng_nil) HL0.out (by simp)).mono ?_
  rintro e w2 ⟨rfl, hw2, -⟩
  have H2 : Hid (WS ok w w2 b (l ++ num cs.length ++ (cs.take 0).flatMap compS)) := Lib.hid (by simpa [nums] using hw2)
  clear hw2
  go_wp2
  go_loopw [13] (fun i wr => ∃ k : Nat, k ≤ cs.length ∧ i = .int .i64 k ∧ WS ok w wr b (l ++ num cs.length ++ (cs.take k).flatMap compS)) (fun i _ => cs.length - (RowKit.intOf i).toNat)
  case atStart => exact ⟨0, Nat.zero_le _, rfl, H2.out⟩
  case round =>
    obtain ⟨k, hk, rfl, hw⟩ := hrel
    by_cases hlt : k < cs.length
    · obtain ⟨ad, rfl, hz, c0, c1, c2⟩ := comps_cells (Hhx.out wr hw.2) k hlt
      have hi0 : (0 : Int) ≤ k := by omega
      have hi1 : (k : Int) < cs.length := by omega
      have HF := Lib.hid (HhF.out _ (List.getElem_mem hlt))
      have HT := Lib.hid (take_flat compS cs k hlt)
      have HTL := Lib.hid (take_flat_len compS cs k hlt)
      generalize cs[k] = x at *
      have HLm : Hid ((l ++ num cs.length ++ (cs.take k).flatMap compS).length + (compS x).length ≤ 100000000000000) := Lib.hid (by
        have h1 := HL.out
        have h2 := HTL.out
        unfold editS at h1
        simp only [List.length_append] at *
        omega)
      have HT2 : Hid (l ++ num cs.length ++ (cs.take (k + 1)).flatMap compS = (l ++ num cs.length ++ (cs.take k).flatMap compS) ++ compS x) := Lib.hid (by rw [HT.out, ← List.append_assoc])
      generalize l ++ num cs.length ++ (cs.take k).flatMap compS = m at *
      obtain ⟨q, n, t⟩ := x
      simp only at c0 c1 c2 hz
      have ha : Step No wr (wr.alloc (.cells #[.int .i64 q, .int .i64 n, .string t] TC)) := (by repeat' (first | exact Step.refl _ _ | with_reducible assumption | refine Step.drew ?_ | refine Step.drewN ?_ _ | refine Step.alloc ?_ _))
      have Hhw := Lib.hid hw
      clear hw
      by_cases k1 : q = 1
      · subst k1
        have HS : Hid (m ++ compS ⟨1, n, t⟩ = (m ++ [112]) ++ str t.data.toList) := Lib.hid (by simp [compS])
        have hS : (compS ⟨1, n, t⟩).length = 1 + (str t.data.toList).length := by simp [compS]; omega
        have HM : Hid (m.length + 1 ≤ 100000000000000) := Lib.hid (by have := HLm.out; omega)
        clear hS
        go_wp2_with fail
        refine (WriteByte_any _ _ b _ 112 (Hhw.out.rep ha) (by have := HM.out; omega)).mono ?_
        rintro e w3 hp
        obtain ⟨rfl, hw3⟩ := Hhw.out.back ha hp
        have d1 := hp.2.2.cell (show (wr.alloc (.cells #[.int .i64 1, .int .i64 n, .string t] TC)).cell? ⟨wr.heap.size, 1, none⟩ = some (.int .i64 n) from blk_cell (blk_new _ _) 1) (snap_far (Nat.le_refl _))
        have d2 := hp.2.2.cell (show (wr.alloc (.cells #[.int .i64 1, .int .i64 n, .string t] TC)).cell? ⟨wr.heap.size, 2, none⟩ = some (.string t) from blk_cell (blk_new _ _) 2) (snap_far (Nat.le_refl _))
        have Hw3 := Lib.hid hw3
        clear hp hw3
        go_wp2_with fail
        refine (Str_any _ _ b _ t (Hw3.out.rep (Step.refl _ _)) (Hw3.out.env HhE.out (Step.refl _ _)) (by have := HM.out; have := HF.out.2; simp only at this; rw [List.length_append, List.length_singleton]; omega)).mono ?_
        rintro e w4 hp
        obtain ⟨rfl, hw4⟩ := Hw3.out.back (Step.refl _ _) hp
        have Hw4 := Lib.hid hw4
        clear hp hw4
        go_wp2
        go_roundw
        case rel => exact ⟨k + 1, hlt, rfl, by rw [HT2.out, HS.out]; exact Hw4.out⟩
        case measure => simp [RowKit.intOf]; omega
      · have k1b : (q == 1) = false := beq_eq_false_iff_ne.2 k1
        by_cases k2 : q = 2
        · subst k2
          have HS : Hid (m ++ compS ⟨2, n, t⟩ = (m ++ [99]) ++ nums [n]) := Lib.hid (by simp [compS, nums])
          have hS : (compS ⟨2, n, t⟩).length = 1 + (num n).length := by simp [compS]; omega
          have HM : Hid (m.length + 1 ≤ 100000000000000) := Lib.hid (by have := HLm.out; omega)
          clear hS k1
          go_wp2_with fail
          refine (WriteByte_any _ _ b _ 99 (Hhw.out.rep ha) (by have := HM.out; omega)).mono ?_
          rintro e w3 hp
          obtain ⟨rfl, hw3⟩ := Hhw.out.back ha hp
          have d1 := hp.2.2.cell (show (wr.alloc (.cells #[.int .i64 2, .int .i64 n, .string t] TC)).cell? ⟨wr.heap.size, 1, none⟩ = some (.int .i64 n) from blk_cell (blk_new _ _) 1) (snap_far (Nat.le_refl _))
          have d2 := hp.2.2.cell (show (wr.alloc (.cells #[.int .i64 2, .int .i64 n, .string t] TC)).cell? ⟨wr.heap.size, 2, none⟩ = some (.string t) from blk_cell (blk_new _ _) 2) (snap_far (Nat.le_refl _))
          have Hw3 := Lib.hid hw3
          clear hp hw3
          have ha3 : Step No w3 (w3.alloc (.cells #[.int .i64 n] TI)) := (by repeat' (first | exact Step.refl _ _ | with_reducible assumption | refine Step.drew ?_ | refine Step.drewN ?_ _ | refine Step.alloc ?_ _))
          go_wp2_with fail
          refine (NumNew_any Hw3.out HhE.out ha3 [n] w3.heap.size (Nat.le_refl _) (by exact blk_new _ _) (rng_cons HF.out.1 rng_nil) (by have := HM.out; rw [List.length_append, List.length_singleton]; omega) (by simp)).mono ?_
          rintro e w4 ⟨rfl, hw4, -⟩
          have Hw4 := Lib.hid hw4
          clear hw4 ha3
          go_wp2
          go_roundw
          case rel => exact ⟨k + 1, hlt, rfl, by rw [HT2.out, HS.out]; exact Hw4.out⟩
          case measure => simp [RowKit.intOf]; omega
        · have k2b : (q == 2) = false := beq_eq_false_iff_ne.2 k2
          have HS : Hid (m ++ compS ⟨q, n, t⟩ = (m ++ [107]) ++ nums [n]) := Lib.hid (by simp [compS, nums, k1, k2])
          have hS : (compS ⟨q, n, t⟩).length = 1 + (num n).length := by simp [compS, k1, k2]; omega
          have HM : Hid (m.length + 1 ≤ 100000000000000) := Lib.hid (by have := HLm.out; omega)
          clear hS k1 k2
          go_wp2_with fail
          refine (WriteByte_any _ _ b _ 107 (Hhw.out.rep ha) (by have := HM.out; omega)).mono ?_
          rintro e w3 hp
          obtain ⟨rfl, hw3⟩ := Hhw.out.back ha hp
          have d1 := hp.2.2.cell (show (wr.alloc (.cells #[.int .i64 q, .int .i64 n, .string t] TC)).cell? ⟨wr.heap.size, 1, none⟩ = some (.int .i64 n) from blk_cell (blk_new _ _) 1) (snap_far (Nat.le_refl _))
          have d2 := hp.2.2.cell (show (wr.alloc (.cells #[.int .i64 q, .int .i64 n, .string t] TC)).cell? ⟨wr.heap.size, 2, none⟩ = some (.string t) from blk_cell (blk_new _ _) 2) (snap_far (Nat.le_refl _))
          have Hw3 := Lib.hid hw3
          clear hp hw3
          have ha3 : Step No w3 (w3.alloc (.cells #[.int .i64 n] TI)) := (by repeat' (first | exact Step.refl _ _ | with_reducible assumption | refine Step.drew ?_ | refine Step.drewN ?_ _ | refine Step.alloc ?_ _))
          go_wp2_with fail
          refine (NumNew_any Hw3.out HhE.out ha3 [n] w3.heap.size (Nat.le_refl _) (by exact blk_new _ _) (rng_cons HF.out.1 rng_nil) (by have := HM.out; rw [List.length_append, List.length_singleton]; omega) (by simp)).mono ?_
          rintro e w4 ⟨rfl, hw4, -⟩
          have Hw4 := Lib.hid hw4
          clear hw4 ha3
          go_wp2
          go_roundw
          case rel => exact ⟨k + 1, hlt, rfl, by rw [HT2.out, HS.out]; exact Hw4.out⟩
          case measure => simp [RowKit.intOf]; omega
    · obtain rfl : k = cs.length := by omega
      rw [List.take_length] at hw
      have Hhw := Lib.hid hw
      clear hw
      go_wp2
      go_end0
      exact ret_pair Hhw.out (by simp [editS])
end Go.Proofs.YtkamhpbfebdhjaaGreatDoor.Writer

/- A writer of packed texts: entries, trees. -/
namespace Go.Proofs.YtkamhpbfebdhjaaGreatDoor.Writer
open Go.RowKit Go.Lib Go.Proofs.YtkamhpbfebdhjaaGreatDoor.Mem Go.Proofs.YtkamhpbfebdhjaaGreatDoor.Build Go.Proofs.YtkamhpbfebdhjaaGreatDoor.Env Go.Proofs.YtkamhpbfebdhjaaGreatDoor.Take Go.Proofs.YtkamhpbfebdhjaaGreatDoor.Read Go.Proofs.YtkamhpbfebdhjaaGreatDoor.Tree Go.Proofs.YtkamhpbfebdhjaaGreatDoor.Data Go.Proofs.YtkamhpbfebdhjaaGreatDoor.CompR Go.Proofs.YtkamhpbfebdhjaaGreatDoor.MsgR Go.Proofs.YtkamhpbfebdhjaaGreatDoor.Pk
set_option linter.unusedVariables false
set_option linter.unusedSimpArgs false
def FineK (ks : List Int) : Prop := (∀ k ∈ ks, Rng k) ∧ ks.length ≤ 1000000000000
def FineS (s : StepD) : Prop := Rng s.kind ∧ Rng s.id ∧ Rng s.node ∧ Rng s.fr ∧ Rng s.up ∧ FineK s.kids
def FineEn (e : EntryD) : Prop := Rng e.client ∧ Rng e.seq ∧ (∀ c ∈ e.edit, FineC c) ∧ e.edit.length ≤ 1000000000000 ∧ (∀ s ∈ e.delta, FineS s) ∧ e.delta.length ≤ 1000000000000
def FineN (x : NodeD) : Prop := Rng x.id ∧ Rng x.kind ∧ Rng x.fr ∧ Rng x.up ∧ FineK x.kids
def FineT (t : TreeD) : Prop := Rng t.root ∧ Rng t.next ∧ (∀ x ∈ t.nodes, FineN x) ∧ t.nodes.length ≤ 1000000000000
structure EntryAt (w : World) (p : Addr) (e : EntryD) (ev dv : Value) : Prop where
  c0 : w.cell? p = some (.int .i64 e.client)
  c1 : w.cell? ⟨p.block, p.off + 1, none⟩ = some (.int .i64 e.seq)
  c2 : w.cell? ⟨p.block, p.off + 2, none⟩ = some ev
  c3 : w.cell? ⟨p.block, p.off + 3, none⟩ = some dv
  edit : CompsR w e.edit ev
  delta : StepsR w e.delta dv
theorem EntryAt.to {w w' : World} {p : Addr} {e : EntryD} {ev dv : Value} (h : EntryAt w p e ev dv) (hs : Step No w w') : EntryAt w' p e ev dv :=
  ⟨hs.cell h.c0 (fun f => f), hs.cell h.c1 (fun f => f), hs.cell h.c2 (fun f => f), hs.cell h.c3 (fun f => f), h.edit.to hs, h.delta.to hs⟩
set_option maxHeartbeats 8000000 in
set_option maxRecDepth 100000 in
theorem entry_any (ok : Nat → Prop) (w : World) (b : Nat) (l : List UInt8) (e : EntryD) (p : Addr) (ev dv : Value) (h : WRep ok w b l) (hE : EnvS ok w) (w0 : World) (h0 : ∀ w', Step ok w w' → Step No w0 w') (hx0 : EntryAt w0 p e ev dv) (hF : FineEn e) (hl : (l ++ entryS e).length ≤ 100000000000000) :
    Calls Tryz.prog 30 #[.pointer (some ⟨b, 0, none⟩), .pointer (some p)] w (WPost ok w b (.tuple #[]) (l ++ entryS e)) := by
  have hx : ∀ w', Step ok w w' → EntryAt w' p e ev dv := fun w' h => hx0.to (h0 w' h)
  obtain ⟨A, c, rfl, -, -⟩ := comps_len (hx w (Step.refl _ _)).edit
  obtain ⟨A', c', rfl, -, -⟩ := sl_len (hx w (Step.refl _ _)).delta
  have HW := Lib.hid (WS.start h)
  obtain ⟨f1, f2, f3, f4, f5, f6⟩ := hF
  have hRn : Rng (e.delta.length : Int) := ⟨by omega, by omega⟩
  rw [List.length_append] at hl
  have HL : Hid (l.length + (entryS e).length ≤ 100000000000000) := Lib.hid hl
  have HL0 : Hid (l.length ≤ 100000000000000) := Lib.hid (by omega)
  have HC : Hid (∀ wx, Step ok w wx → wx.cell? p = some (.int .i64 e.client) ∧ wx.cell? ⟨p.block, p.off + 1, none⟩ = some (.int .i64 e.seq)) := Lib.hid fun wx h => ⟨(hx wx h).c0, (hx wx h).c1⟩
  have HR2 : Hid (∀ y ∈ [e.client, e.seq], Rng y) := Lib.hid (rng_cons f1 (rng_cons f2 rng_nil))
  have HL2 : Hid ((l ++ nums [e.client, e.seq] ++ editS e.edit).length ≤ 100000000000000) := Lib.hid (by
    unfold entryS at hl
    simp only [List.length_append] at *
    omega)
  have HL3 : Hid ((l ++ nums [e.client, e.seq] ++ editS e.edit).length ≤ 100000000000000) := HL2
  have HhE := Lib.hid hE
  have Hhx := Lib.hid hx
  have Hh := Lib.hid h
  have HhRn := Lib.hid hRn
  have Hf3 := Lib.hid f3
  have Hf5 := Lib.hid f5
  have Hh0 := Lib.hid h0
  have Hhx0 := Lib.hid hx0
  clear hE hx h hRn f3 f5 h0 hx0
  clear hl f1 f2
  obtain ⟨cl, sq, ed, de⟩ := e
  simp only at *
  go_enter Tryz.func30, Tryz.ntmps30
  go_upto_region 0 with (fail)
  go_region_held3 (fun w' => w'.cell? p = some (.int .i64 cl) ∧ w'.cell? ⟨p.block, p.off + 1, none⟩ = some (.int .i64 sq)) (first | exact HC.out _ Hw2.out.2 | exact HC.out _ (Step.none (by repeat' (first | exact Step.refl _ _ | with_reducible assumption | refine Step.drew ?_ | refine Step.drewN ?_ _ | refine Step.alloc ?_ _)))) ((go_at_call 28; refine (NumNew_any HW.out HhE.out (by repeat' (first | exact Step.refl _ _ | with_reducible assumption | refine Step.drew ?_ | refine Step.drewN ?_ _ | refine Step.alloc ?_ _)) [cl, sq] w.heap.size (Nat.le_refl _) (by exact blk_new _ _) HR2.out HL0.out (by simp)).mono ?_; rintro e w2 ⟨rfl, hw2, -⟩; have Hw2 := Lib.hid hw2; clear hw2))
  have q2 := (Hhx.out w2 Hw2.out.2).c2
  go_wp2_with fail
  refine (edit_any _ _ b _ ed _ (Hw2.out.rep (Step.refl _ _)) (Hw2.out.env HhE.out (Step.refl _ _)) (fun w' hst => (Hhx.out w' (Hw2.out.to (Step.refl _ _) hst)).edit) Hf3.out HL2.out f4).mono ?_
  rintro e w3 hp
  obtain ⟨rfl, hw3⟩ := Hw2.out.back (Step.refl _ _) hp
  have q3 := (Hhx.out w3 hw3.2).c3
  have Hw3 := Lib.hid hw3
  clear hp hw3 q2
  go_wp2_with fail
  refine (NumNew_any Hw3.out HhE.out (by repeat' (first | exact Step.refl _ _ | with_reducible assumption | refine Step.drew ?_ | refine Step.drewN ?_ _ | refine Step.alloc ?_ _)) [(de.length : Int)] w3.heap.size (Nat.le_refl _) (by exact blk_new _ _) (rng_cons HhRn.out rng_nil) HL3.out (by simp)).mono ?_
  rintro e w4 ⟨rfl, hw4, -⟩
  have q3 := (Hhx.out w4 hw4.2).c3
  have H4 : Hid (WS ok w w4 b (l ++ nums [cl, sq] ++ editS ed ++ num de.length ++ (de.take 0).flatMap stepS)) := Lib.hid (by simpa [nums] using hw4)
  clear hw4
  go_wp2
  go_loopw [36] (fun i wr => ∃ k : Nat, k ≤ de.length ∧ i = .int .i64 k ∧ WS ok w wr b (l ++ nums [cl, sq] ++ editS ed ++ num de.length ++ (de.take k).flatMap stepS)) (fun i _ => de.length - (RowKit.intOf i).toNat)
  case atStart => exact ⟨0, Nat.zero_le _, rfl, H4.out⟩
  case round =>
    clear q3
    obtain ⟨k, hk, rfl, hw⟩ := hrel
    by_cases hlt : k < de.length
    · obtain ⟨ad, kv, rfl, hkv, s0, s1, s2, s3, s4, s5⟩ := steps_cells Hhx0.out.delta k hlt
      obtain ⟨A2, c2, rfl, -, -⟩ := ints_len hkv
      have hs0 := Hh0.out wr hw.2
      replace s0 := hs0.cell s0 (fun f => f)
      replace s1 := hs0.cell s1 (fun f => f)
      replace s2 := hs0.cell s2 (fun f => f)
      replace s3 := hs0.cell s3 (fun f => f)
      replace s4 := hs0.cell s4 (fun f => f)
      replace s5 := hs0.cell s5 (fun f => f)
      have hi0 : (0 : Int) ≤ k := by omega
      have hi1 : (k : Int) < de.length := by omega
      obtain ⟨g1, g2, g3, g4, g5, g6⟩ := Hf5.out _ (List.getElem_mem hlt)
      have HT := Lib.hid (take_flat stepS de k hlt)
      have HTL := Lib.hid (take_flat_len stepS de k hlt)
      generalize de[k] = x at *
      have HLm : Hid ((l ++ nums [cl, sq] ++ editS ed ++ num de.length ++ (de.take k).flatMap stepS).length + (stepS x).length ≤ 100000000000000) := Lib.hid (by
        have h1 := HL.out
        have h2 := HTL.out
        unfold entryS at h1
        simp only [List.length_append] at *
        omega)
      have HT2 : Hid (l ++ nums [cl, sq] ++ editS ed ++ num de.length ++ (de.take (k + 1)).flatMap stepS = (l ++ nums [cl, sq] ++ editS ed ++ num de.length ++ (de.take k).flatMap stepS) ++ stepS x) := Lib.hid (by rw [HT.out, ← List.append_assoc])
      generalize l ++ nums [cl, sq] ++ editS ed ++ num de.length ++ (de.take k).flatMap stepS = m at *
      obtain ⟨q, i, n, f, u, ks⟩ := x
      simp only at s0 s1 s2 s3 s4 s5 g1 g2 g3 g4 g5 g6 hkv
      have HS : Hid (m ++ stepS ⟨q, i, n, f, u, ks⟩ = (m ++ nums [q, i, n, f, u]) ++ row ks) := Lib.hid (by simp [stepS])
      have HM : Hid (m.length ≤ 100000000000000 ∧ (m ++ nums [q, i, n, f, u]).length ≤ 100000000000000) := Lib.hid (by
        have := HLm.out
        have e : (stepS ⟨q, i, n, f, u, ks⟩).length = (nums [q, i, n, f, u]).length + (row ks).length := by simp [stepS]
        rw [List.length_append]
        omega)
      have HR5 : Hid (∀ y ∈ [q, i, n, f, u], Rng y) := Lib.hid (rng_cons g1 (rng_cons g2 (rng_cons g3 (rng_cons g4 (rng_cons g5 rng_nil)))))
      have HK := Lib.hid g6
      have HKV := Lib.hid hkv
      clear g1 g2 g3 g4 g5 g6 hs0 hkv
      have Hhw := Lib.hid hw
      clear hw
      go_wp2_with fail
      refine (NumNew_any Hhw.out HhE.out (by repeat' (first | exact Step.refl _ _ | with_reducible assumption | refine Step.drew ?_ | refine Step.drewN ?_ _ | refine Step.alloc ?_ _)) [q, i, n, f, u] (wr.heap.size + 1) (by omega) (by exact at2 _ _ _) HR5.out HM.out.1 (by simp)).mono ?_
      rintro e w5 ⟨rfl, hw5, hst⟩
      have d5 := hst.cell (show ((wr.alloc (.cells #[.int .i64 q, .int .i64 i, .int .i64 n, .int .i64 f, .int .i64 u, .slice A2 ks.length c2] 36)).alloc (.cells #[.int .i64 q, .int .i64 i, .int .i64 n, .int .i64 f, .int .i64 u] TI)).cell? ⟨wr.heap.size, 5, none⟩ = some (.slice A2 ks.length c2) from blk_cell (blk_alloc (blk_new wr _) _) 5) (snap_far (Nat.le_refl _))
      have Hw5 := Lib.hid hw5
      clear hst hw5 s0 s1 s2 s3 s4 s5
      go_wp2_with fail
      refine (row_any _ _ b _ ks _ (Hw5.out.rep (Step.refl _ _)) (Hw5.out.env HhE.out (Step.refl _ _)) (fun w' hst => ints_to HKV.out (Hh0.out w' (Hw5.out.to (Step.refl _ _) hst))) HK.out.1 HM.out.2 HK.out.2).mono ?_
      rintro e w6 hp
      obtain ⟨rfl, hw6⟩ := Hw5.out.back (Step.refl _ _) hp
      have Hw6 := Lib.hid hw6
      clear hp hw6
      go_wp2
      go_roundw
      case rel => exact ⟨k + 1, hlt, rfl, by rw [HT2.out, HS.out]; exact Hw6.out⟩
      case measure => simp [RowKit.intOf]; omega
    · obtain rfl : k = de.length := by omega
      rw [List.take_length] at hw
      have Hhw := Lib.hid hw
      clear hw
      go_wp2
      go_end0
      exact ret_pair Hhw.out (by simp [entryS])
structure TreeAt (w : World) (p : Addr) (t : TreeD) (nv : Value) : Prop where
  c0 : w.cell? p = some (.int .i64 t.root)
  c1 : w.cell? ⟨p.block, p.off + 1, none⟩ = some (.int .i64 t.next)
  c2 : w.cell? ⟨p.block, p.off + 2, none⟩ = some nv
  nodes : NodesR w t.nodes nv
theorem TreeAt.to {w w' : World} {p : Addr} {t : TreeD} {nv : Value} (h : TreeAt w p t nv) (hs : Step No w w') : TreeAt w' p t nv :=
  ⟨hs.cell h.c0 (fun f => f), hs.cell h.c1 (fun f => f), hs.cell h.c2 (fun f => f), h.nodes.to hs⟩
set_option maxHeartbeats 8000000 in
set_option maxRecDepth 100000 in
theorem tree_any (ok : Nat → Prop) (w : World) (b : Nat) (l : List UInt8) (t : TreeD) (p : Addr) (nv : Value) (h : WRep ok w b l) (hE : EnvS ok w) (w0 : World) (h0 : ∀ w', Step ok w w' → Step No w0 w') (hx0 : TreeAt w0 p t nv) (hF : FineT t) (hl : (l ++ treeS t).length ≤ 100000000000000) :
    Calls Tryz.prog 32 #[.pointer (some ⟨b, 0, none⟩), .pointer (some p)] w (WPost ok w b (.tuple #[]) (l ++ treeS t)) := by
  have hx : ∀ w', Step ok w w' → TreeAt w' p t nv := fun w' h => hx0.to (h0 w' h)
  obtain ⟨A, c, rfl, -, -⟩ := nodes_len hx0.nodes
  have HW := Lib.hid (WS.start h)
  obtain ⟨f1, f2, f5, f6⟩ := hF
  have hRn : Rng (t.nodes.length : Int) := ⟨by omega, by omega⟩
  rw [List.length_append] at hl
  have HL : Hid (l.length + (treeS t).length ≤ 100000000000000) := Lib.hid hl
  have HL0 : Hid (l.length ≤ 100000000000000) := Lib.hid (by omega)
  have HC : Hid (∀ wx, Step ok w wx → wx.cell? p = some (.int .i64 t.root) ∧ wx.cell? ⟨p.block, p.off + 1, none⟩ = some (.int .i64 t.next) ∧ wx.cell? ⟨p.block, p.off + 2, none⟩ = some (.slice A t.nodes.length c)) := Lib.hid fun wx h => ⟨(hx wx h).c0, (hx wx h).c1, (hx wx h).c2⟩
  have HR3 : Hid (∀ y ∈ [t.root, t.next, (t.nodes.length : Int)], Rng y) := Lib.hid (rng_cons f1 (rng_cons f2 (rng_cons hRn rng_nil)))
  have HhE := Lib.hid hE
  have Hhx := Lib.hid hx
  have Hh := Lib.hid h
  have HhRn := Lib.hid hRn
  have Hf5 := Lib.hid f5
  have Hh0 := Lib.hid h0
  have Hhx0 := Lib.hid hx0
  clear hE hx h hRn f5 h0 hx0
  clear hl f1 f2
  obtain ⟨rt, nx, ns⟩ := t
  simp only at *
  go_enter Tryz.func32, Tryz.ntmps32
  go_upto_region 0 with (fail)
  go_region_held3 (fun w' => w'.cell? p = some (.int .i64 rt) ∧ w'.cell? ⟨p.block, p.off + 1, none⟩ = some (.int .i64 nx) ∧ w'.cell? ⟨p.block, p.off + 2, none⟩ = some (.slice A ns.length c)) (first | exact HC.out _ Hw2.out.2 | exact HC.out _ (Step.none (by repeat' (first | exact Step.refl _ _ | with_reducible assumption | refine Step.drew ?_ | refine Step.drewN ?_ _ | refine Step.alloc ?_ _)))) ((go_at_call 28; refine (NumNew_any HW.out HhE.out (by repeat' (first | exact Step.refl _ _ | with_reducible assumption | refine Step.drew ?_ | refine Step.drewN ?_ _ | refine Step.alloc ?_ _)) [rt, nx, (ns.length : Int)] w.heap.size (Nat.le_refl _) (by exact blk_new _ _) HR3.out HL0.out (by simp)).mono ?_; rintro e w2 ⟨rfl, hw2, -⟩; have Hw2 := Lib.hid hw2; clear hw2))
  have q2 := (Hhx.out w2 Hw2.out.2).c2
  have H4 : Hid (WS ok w w2 b (l ++ nums [rt, nx, (ns.length : Int)] ++ (ns.take 0).flatMap nodeS)) := Lib.hid (by simpa using Hw2.out)
  go_wp2
  go_loopw [27] (fun i wr => ∃ k : Nat, k ≤ ns.length ∧ i = .int .i64 k ∧ WS ok w wr b (l ++ nums [rt, nx, (ns.length : Int)] ++ (ns.take k).flatMap nodeS)) (fun i _ => ns.length - (RowKit.intOf i).toNat)
  case atStart => exact ⟨0, Nat.zero_le _, rfl, H4.out⟩
  case round =>
    clear q2
    obtain ⟨k, hk, rfl, hw⟩ := hrel
    by_cases hlt : k < ns.length
    · obtain ⟨ad, kv, rfl, hkv, s0, s1, s2, s3, s5⟩ := nodes_cells Hhx0.out.nodes k hlt
      obtain ⟨A2, c2, rfl, -, -⟩ := ints_len hkv
      have hs0 := Hh0.out wr hw.2
      replace s0 := hs0.cell s0 (fun f => f)
      replace s1 := hs0.cell s1 (fun f => f)
      replace s2 := hs0.cell s2 (fun f => f)
      replace s3 := hs0.cell s3 (fun f => f)
      replace s5 := hs0.cell s5 (fun f => f)
      have hi0 : (0 : Int) ≤ k := by omega
      have hi1 : (k : Int) < ns.length := by omega
      obtain ⟨g1, g2, g3, g4, g6⟩ := Hf5.out _ (List.getElem_mem hlt)
      have HT := Lib.hid (take_flat nodeS ns k hlt)
      have HTL := Lib.hid (take_flat_len nodeS ns k hlt)
      generalize ns[k] = x at *
      have HLm : Hid ((l ++ nums [rt, nx, (ns.length : Int)] ++ (ns.take k).flatMap nodeS).length + (nodeS x).length ≤ 100000000000000) := Lib.hid (by
        have h1 := HL.out
        have h2 := HTL.out
        unfold treeS at h1
        simp only [List.length_append] at *
        omega)
      have HT2 : Hid (l ++ nums [rt, nx, (ns.length : Int)] ++ (ns.take (k + 1)).flatMap nodeS = (l ++ nums [rt, nx, (ns.length : Int)] ++ (ns.take k).flatMap nodeS) ++ nodeS x) := Lib.hid (by rw [HT.out, ← List.append_assoc])
      generalize l ++ nums [rt, nx, (ns.length : Int)] ++ (ns.take k).flatMap nodeS = m at *
      obtain ⟨i, q, f, u, ks⟩ := x
      simp only at s0 s1 s2 s3 s5 g1 g2 g3 g4 g6 hkv
      have HS : Hid (m ++ nodeS ⟨i, q, f, u, ks⟩ = (m ++ nums [i, q, f, u]) ++ row ks) := Lib.hid (by simp [nodeS])
      have HM : Hid (m.length ≤ 100000000000000 ∧ (m ++ nums [i, q, f, u]).length ≤ 100000000000000) := Lib.hid (by
        have := HLm.out
        have e : (nodeS ⟨i, q, f, u, ks⟩).length = (nums [i, q, f, u]).length + (row ks).length := by simp [nodeS]
        rw [List.length_append]
        omega)
      have HR5 : Hid (∀ y ∈ [i, q, f, u], Rng y) := Lib.hid (rng_cons g1 (rng_cons g2 (rng_cons g3 (rng_cons g4 rng_nil))))
      have HK := Lib.hid g6
      have HKV := Lib.hid hkv
      clear g1 g2 g3 g4 g6 hs0 hkv
      have Hhw := Lib.hid hw
      clear hw
      go_wp2_with fail
      refine (NumNew_any Hhw.out HhE.out (by repeat' (first | exact Step.refl _ _ | with_reducible assumption | refine Step.drew ?_ | refine Step.drewN ?_ _ | refine Step.alloc ?_ _)) [i, q, f, u] (wr.heap.size + 1) (by omega) (by exact at2 _ _ _) HR5.out HM.out.1 (by simp)).mono ?_
      rintro e w5 ⟨rfl, hw5, hst⟩
      have d5 := hst.cell (show ((wr.alloc (.cells #[.int .i64 i, .int .i64 q, .int .i64 f, .int .i64 u, .slice A2 ks.length c2] 98)).alloc (.cells #[.int .i64 i, .int .i64 q, .int .i64 f, .int .i64 u] TI)).cell? ⟨wr.heap.size, 4, none⟩ = some (.slice A2 ks.length c2) from blk_cell (blk_alloc (blk_new wr _) _) 4) (snap_far (Nat.le_refl _))
      have Hw5 := Lib.hid hw5
      clear hst hw5 s0 s1 s2 s3 s5
      go_wp2_with fail
      refine (row_any _ _ b _ ks _ (Hw5.out.rep (Step.refl _ _)) (Hw5.out.env HhE.out (Step.refl _ _)) (fun w' hst => ints_to HKV.out (Hh0.out w' (Hw5.out.to (Step.refl _ _) hst))) HK.out.1 HM.out.2 HK.out.2).mono ?_
      rintro e w6 hp
      obtain ⟨rfl, hw6⟩ := Hw5.out.back (Step.refl _ _) hp
      have Hw6 := Lib.hid hw6
      clear hp hw6
      go_wp2
      go_roundw
      case rel => exact ⟨k + 1, hlt, rfl, by rw [HT2.out, HS.out]; exact Hw6.out⟩
      case measure => simp [RowKit.intOf]; omega
    · obtain rfl : k = ns.length := by omega
      rw [List.take_length] at hw
      have Hhw := Lib.hid hw
      clear hw
      go_wp2
      go_end0
      exact ret_pair Hhw.out (by simp [treeS])
end Go.Proofs.YtkamhpbfebdhjaaGreatDoor.Writer
