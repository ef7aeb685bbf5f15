/- A strings.Builder that lies in a writer of packed texts: what its methods do. -/
import Derived.Test.YtjeamfoicpgkhaaGreatDoorLumpA
import Derived.Test.YtjeamfoicpgkhaaGreatDoorProg
import Derived.Test.YtjeamfoicpgkhaaGreatDoorChecked
import Derived.Lib.Builder
import Derived.Shelf.Strings.Builder1
namespace Go.Proofs.YtjeamfoicpgkhaaGreatDoor.Build
open Go.RowKit Go.Lib Go.Proofs.YtjeamfoicpgkhaaGreatDoor.Mem Go.Proofs.YtjeamfoicpgkhaaGreatDoor.AppStr
set_option linter.unusedVariables false
set_option linter.unusedSimpArgs false
abbrev TW : TypeId := 72
/-- A writer in block b holds the bytes l; its blocks are among ok. -/
def WRep (ok : Nat → Prop) (w : World) (b : Nat) (l : List UInt8) : Prop :=
  ∃ p v, w.heap[b]? = some (.cells #[p, v] TW (0, 0)) ∧ (p = .pointer none ∨ p = .pointer (some ⟨b, 0, none⟩)) ∧ ok b ∧ w.ownsRow 0 5 1 v l.length (byteCells l) ∧ ∀ k, v.ownBlock = some k → ok k
theorem WRep.step {ok F : Nat → Prop} {w w' : World} {b : Nat} {l : List UInt8} (h : WRep ok w b l) (hs : Step F w w') (hF : ∀ k, ok k → k < w.heap.size → ¬ F k) : WRep ok w' b l := by
  obtain ⟨p, v, h1, h2, h3, h4, h5⟩ := h
  exact ⟨p, v, hs.blk h1 (hF b h3 (blk_lt h1)), h2, h3, row_step h4 hs (fun k hk => hF k (h5 k hk) (h4.lt k hk).2), h5⟩
theorem WRep.mono {ok ok' : Nat → Prop} {w : World} {b : Nat} {l : List UInt8} (h : WRep ok w b l) (hF : ∀ k, k < w.heap.size → ok k → ok' k) : WRep ok' w b l := by
  obtain ⟨p, v, h1, h2, h3, h4, h5⟩ := h
  exact ⟨p, v, h1, h2, hF b (blk_lt h1) h3, h4, fun k hk => hF k (h4.lt k hk).2 (h5 k hk)⟩
theorem WRep.new (w : World) : WRep (fun k => k = w.heap.size) (w.alloc (.cells #[.pointer none, .slice none 0 0] TW)) w.heap.size [] :=
  ⟨.pointer none, .slice none 0 0, blk_new w _, .inl rfl, rfl, World.ownsRow_nil _ _ _ _, fun k hk => by simp [Value.ownBlock] at hk⟩
def WPost (ok : Nat → Prop) (w : World) (b : Nat) (r : Value) (l : List UInt8) (e : Ending) (w' : World) : Prop :=
  e = .returned r ∧ WRep (fun k => ok k ∨ w.heap.size ≤ k) w' b l ∧ Step ok w w'
theorem lies : liesAt Tryz.prog Tryz.prog.depth TW (2 / Tryz.prog.cellsOf TW) 0 70 1 = true := by kernel_rfl
theorem infoB : (Tryz.prog.info? 5).map (fun i => (i.zero, i.size, i.bytes)) = some (some (.int .u8 0), 1, 1) := by kernel_rfl
theorem infoSB : (Tryz.prog.info? 70).map (·.size) = some 2 := by kernel_rfl
set_option maxHeartbeats 1000000 in
set_option maxRecDepth 100000 in
theorem copyCheck_any (ok : Nat → Prop) (w : World) (b : Nat) (l : List UInt8) (h : WRep ok w b l) :
    Calls Tryz.prog 83 #[.pointer (some ⟨b, 0, none⟩)] w fun e w' => e = .returned (.tuple #[]) ∧ w'.heap.size = w.heap.size ∧ Step (fun k => k = b) w w' ∧
      ∃ v, w'.heap[b]? = some (.cells #[.pointer (some ⟨b, 0, none⟩), v] TW (0, 0)) ∧ w'.ownsRow 0 5 1 v l.length (byteCells l) ∧ (∀ k, v.ownBlock = some k → ok k) := by
  obtain ⟨p, v, h1, h2, h3, h4, h5⟩ := h
  obtain ⟨j, hj, hjs⟩ := Option.map_eq_some_iff.1 infoSB
  have hf := blk_free h1 0
  have hsh : w.shape? b = some (TW, 2) := by simp [World.shape?, h1]
  have hne : v.ownBlock ≠ some b := row_ne h4 h1 (by decide)
  rcases h2 with rfl | rfl
  · have hc : w.cell? ⟨b, 0, none⟩ = some (.pointer none) := by rw [blk_cell h1]; rfl
    have Hh1 := Lib.hid h1
    have Hh4 := Lib.hid h4
    have Hh5 := Lib.hid h5
    have Hhj := Lib.hid hj
    have Hhjs := Lib.hid hjs
    have Hhne := Lib.hid hne
    have Hhsh := Lib.hid hsh
    clear h1 h4 h5 hj hjs hne hsh
    go_enter Tryz.func83, Tryz.ntmps83
    go_wp2
    rw [Lib.run_to_unsafe w ⟨b, 0, none⟩ Tryz.underlying68 Tryz.underlying165 Hhj.out (by rw [Hhjs.out]; decide) Hhsh.out (Nat.zero_lt_succ 1)]
    simp only [Result.andThen]
    rw [Oper.upon_value]
    go_wp2
    rw [run_callFunc_extern Tryz.func123 (by kernel_rfl) (by kernel_rfl) (by kernel_rfl) (e := Extern.AbiNoEscape.same) (by kernel_rfl)]
    rw [Lib.run_noEscape]
    simp only [Result.andThen]
    rw [Oper.upon_value]
    go_wp2
    rw [Lib.run_from_unsafe w ⟨b, 0, none⟩ Tryz.underlying165 Tryz.underlying68 Hhj.out Hhsh.out lies]
    simp only [Result.andThen]
    rw [Oper.upon_value]
    go_wp2
    go_end0
    have hst : Step (fun k => k = b) w (w.setCell ⟨b, 0, none⟩ (.pointer (some ⟨b, 0, none⟩))) := (Step.refl (fun k => k = b) w).setCell (p := ⟨b, 0, none⟩) (fun _ => rfl) _
    refine ⟨rfl, by simp [World.setCell], hst, v, blk_set Hh1.out 0 _, ?_, Hh5.out⟩
    exact row_step Hh4.out hst (fun k hk e => Hhne.out (by rw [← e]; exact hk))
  · have hc : w.cell? ⟨b, 0, none⟩ = some (.pointer (some ⟨b, 0, none⟩)) := by rw [blk_cell h1]; rfl
    have Hh1 := Lib.hid h1
    have Hh4 := Lib.hid h4
    have Hh5 := Lib.hid h5
    have Hhj := Lib.hid hj
    have Hhjs := Lib.hid hjs
    have Hhne := Lib.hid hne
    have Hhsh := Lib.hid hsh
    clear h1 h4 h5 hj hjs hne hsh
    go_enter Tryz.func83, Tryz.ntmps83
    go_wp2
    rw [Lib.run_neq_ptr_same w _ Tryz.underlying68 Hhj.out]
    go_wp2
    go_end0
    exact ⟨rfl, rfl, Step.refl _ _, v, Hh1.out, Hh4.out, Hh5.out⟩
theorem w_close {ok : Nat → Prop} {w w1 w2 : World} {b n : Nat} {v v1 : Value} {xs : List Value} {l : List UInt8} (hsz : w1.heap.size = w.heap.size) (hs : Step (fun k => k = b) w w1) (hok : ok b)
    (h1 : w1.heap[b]? = some (.cells #[.pointer (some ⟨b, 0, none⟩), v] TW (0, 0))) (h0 : w1.ownsRow 0 5 1 v n xs) (h5 : ∀ k, v.ownBlock = some k → ok k)
    {w0 : World} (hd : Step No w1 w0) (hsz0 : w0.heap.size = w1.heap.size ∨ True)
    {m : Nat} (hm : m = l.length) (ho : w2.ownsRow 0 5 1 v1 m (byteCells l)) (hg : w0.grownBy w2 v.ownBlock) (hat : v1.ownBlock = v.ownBlock ∨ v1.ownBlock = some w0.heap.size) :
    WRep (fun k => ok k ∨ w.heap.size ≤ k) (w2.setCell ⟨b, 1, none⟩ v1) b l ∧ Step ok w (w2.setCell ⟨b, 1, none⟩ v1) := by
  subst hm
  have hne : v.ownBlock ≠ some b := row_ne h0 h1 (by decide)
  have hb : w2.heap[b]? = some (.cells #[.pointer (some ⟨b, 0, none⟩), v] TW (0, 0)) := by
    rw [hg.block b (Nat.lt_of_lt_of_le (blk_lt h1) hd.size) (fun e => hne e.symm)]
    exact hd.blk h1 (fun f => f)
  have hne1 : v1.ownBlock ≠ some b := row_ne ho hb (by decide)
  have hst : Step ok w w2 := ((hs.mono (fun k _ e => e ▸ hok)).trans hd (fun _ f _ => f.elim)).grown hg (fun k hk _ => h5 k hk)
  refine ⟨⟨_, v1, blk_set hb 1 _, .inr rfl, .inl hok, ?_, fun k hk => ?_⟩, hst.setCell (p := ⟨b, 1, none⟩) (fun _ => hok) _⟩
  · exact row_move ho (fun k hk => Below.heap_setCell _ _ _ _ (fun e => hne1 (by rw [hk, e])))
  · rcases hat with hat | hat
    · exact .inl (h5 k (by rw [← hat, hk]))
    · rw [hk] at hat
      injection hat with hat
      have := hd.size
      exact .inr (by omega)
theorem w_blk {w1 w0 w2 : World} {b n : Nat} {v : Value} {xs : List Value} (h1 : w1.heap[b]? = some (.cells #[.pointer (some ⟨b, 0, none⟩), v] TW (0, 0))) (h0 : w1.ownsRow 0 5 1 v n xs) (hd : Step No w1 w0) (hg : w0.grownBy w2 v.ownBlock) :
    w2.cell? ⟨b, 1, none⟩ = some v ∧ w2.frozen? ⟨b, 1, none⟩ = false := by
  have hne : v.ownBlock ≠ some b := row_ne h0 h1 (by decide)
  have hb : w2.heap[b]? = some (.cells #[.pointer (some ⟨b, 0, none⟩), v] TW (0, 0)) := by
    rw [hg.block b (Nat.lt_of_lt_of_le (blk_lt h1) hd.size) (fun e => hne e.symm)]
    exact hd.blk h1 (fun f => f)
  exact ⟨by rw [blk_cell hb]; rfl, blk_free hb 1⟩
set_option maxHeartbeats 1000000 in
set_option maxRecDepth 100000 in
theorem WriteString_any (ok : Nat → Prop) (w : World) (b : Nat) (l : List UInt8) (s : ByteArray) (h : WRep ok w b l) (hlen : l.length + s.size ≤ 140737488355328) :
    Calls Tryz.prog 84 #[.pointer (some ⟨b, 0, none⟩), .string s] w (WPost ok w b (.tuple #[.int .i64 s.size, .nilIface]) (l ++ s.data.toList)) := by
  have hok : ok b := by obtain ⟨p, v, _, _, h3, _⟩ := h; exact h3
  have HH := Lib.hid h
  clear h
  go_enter Tryz.func84, Tryz.ntmps84
  go_wp2_with fail
  refine (copyCheck_any ok _ b l HH.out).mono ?_
  rintro e w1 ⟨rfl, hsz, hs, v, h1, h4, h5⟩
  have hc : w1.cell? ⟨b, 1, none⟩ = some v := by rw [blk_cell h1]; rfl
  have Hhsz := Lib.hid hsz
  have Hhs := Lib.hid hs
  have Hh1 := Lib.hid h1
  have Hh4 := Lib.hid h4
  have Hh5 := Lib.hid h5
  clear hsz hs h1 h4 h5
  go_wp2_with (at_builtin; refine list_append_str _ rfl (.tmp 12) (.tmp 13) 59 9 5 rfl Tryz.underlying59 Tryz.underlying9 infoB v l.length _ rfl Hh4.out s rfl hlen ?_; intro v1 w2 hown hg hat; obtain ⟨hc5, hf5⟩ := w_blk Hh1.out Hh4.out (Step.refl _ _) hg; rw [strCells_eq, ← byteCells_append] at hown; obtain ⟨A1, k1, rfl, -, -⟩ := row_slice hown; have H1 := Lib.hid hown; have H2 := Lib.hid hg; have H3 := Lib.hid hat; clear hown hg hat)
  go_ret2
  exact ⟨rfl, w_close Hhsz.out Hhs.out hok Hh1.out Hh4.out Hh5.out (Step.refl _ _) (.inr trivial) (by rw [List.length_append, Array.length_toList]; rfl) H1.out H2.out H3.out⟩
set_option maxHeartbeats 1000000 in
set_option maxRecDepth 100000 in
theorem WriteByte_any (ok : Nat → Prop) (w : World) (b : Nat) (l : List UInt8) (c : UInt8) (h : WRep ok w b l) (hlen : l.length + 1 ≤ 140737488355328) :
    Calls Tryz.prog 34 #[.pointer (some ⟨b, 0, none⟩), .int .u8 c.toNat] w (WPost ok w b (.nilIface) (l ++ [c])) := by
  have hok : ok b := by obtain ⟨p, v, _, _, h3, _⟩ := h; exact h3
  have HH := Lib.hid h
  clear h
  go_enter Tryz.func34, Tryz.ntmps34
  go_wp2_with fail
  refine (copyCheck_any ok _ b l HH.out).mono ?_
  rintro e w1 ⟨rfl, hsz, hs, v, h1, h4, h5⟩
  have hc : w1.cell? ⟨b, 1, none⟩ = some v := by rw [blk_cell h1]; rfl
  have Hhsz := Lib.hid hsz
  have Hhs := Lib.hid hs
  have Hh1 := Lib.hid h1
  have Hh4 := Lib.hid h4
  have Hh5 := Lib.hid h5
  clear hsz hs h1 h4 h5
  have hn : ((c.toNat : Nat) : Int) = ((c.toNat : Nat) : Int) := rfl
  go_wp2_with (at_builtin; refine list_append_own _ rfl (.tmp 11) (.tmp 13) 59 5 (.int .u8 0) 1 1 rfl Tryz.underlying59 infoB rfl (by decide) v l.length _ rfl (by exact Hh4.out.alloc _) ⟨w1.heap.size, 0, none⟩ 1 1 [.int .u8 c.toNat] rfl rfl (by exact cells_new w1 #[.int .u8 c.toNat] 5) (by simp [Value.oneCell']) (by simp only [maxLen]; omega) (by omega) ?_; intro v1 w2 hown hg hat; obtain ⟨hc5, hf5⟩ := w_blk Hh1.out Hh4.out (w0 := w1.alloc (.cells #[.int .u8 c.toNat] 5)) (by repeat' (first | exact Step.refl _ _ | with_reducible assumption | refine Step.drew ?_ | refine Step.drewN ?_ _ | refine Step.alloc ?_ _)) hg; rw [show byteCells l ++ [Value.int .u8 c.toNat] = byteCells (l ++ [c]) by simp [byteCells]] at hown; obtain ⟨A1, k1, rfl, -, -⟩ := row_slice hown; have H1 := Lib.hid hown; have H2 := Lib.hid hg; have H3 := Lib.hid hat; clear hown hg hat)
  go_ret
  exact ⟨rfl, w_close Hhsz.out Hhs.out hok Hh1.out Hh4.out Hh5.out (w0 := w1.alloc (.cells #[.int .u8 c.toNat] 5)) (by repeat' (first | exact Step.refl _ _ | with_reducible assumption | refine Step.drew ?_ | refine Step.drewN ?_ _ | refine Step.alloc ?_ _)) (.inr trivial) (by simp) H1.out H2.out H3.out⟩
end Go.Proofs.YtjeamfoicpgkhaaGreatDoor.Build
