/- Several of my texts in one file: CopyC, CopyM, CopyM2, Soft, Spoil. -/
import Derived.Test.YtjeamfoicpgkhaaGreatDoorLumpN
import Derived.Test.YtjeamfoicpgkhaaGreatDoorTakeM
import Derived.Test.YtjeamfoicpgkhaaGreatDoorMsgFit
import Derived.Test.YtjeamfoicpgkhaaGreatDoorGet
import Derived.Test.YtjeamfoicpgkhaaGreatDoorLumpA
/- Copies of edits: the laws' own. -/
namespace Go.Proofs.YtjeamfoicpgkhaaGreatDoor.CopyM
open Go.RowKit Go.Lib Go.Proofs.YtjeamfoicpgkhaaGreatDoor.Mem Go.Proofs.YtjeamfoicpgkhaaGreatDoor.Read Go.Proofs.YtjeamfoicpgkhaaGreatDoor.AppSl Go.Proofs.YtjeamfoicpgkhaaGreatDoor.Tree Go.Proofs.YtjeamfoicpgkhaaGreatDoor.Data Go.Proofs.YtjeamfoicpgkhaaGreatDoor.CompR Go.Proofs.YtjeamfoicpgkhaaGreatDoor.MsgR Go.Proofs.YtjeamfoicpgkhaaGreatDoor.RefAdd
set_option linter.unusedVariables false
set_option linter.unusedSimpArgs false
theorem texts {w : World} {xs : List CompD} {v : Value} (h : CompsR w xs v) : ∀ c ∈ xs, c.text.size ≤ maxLen := by
  obtain ⟨A, n, rfl, -, -⟩ := comps_len h
  intro c hc
  obtain ⟨j, hj, rfl⟩ := List.mem_iff_getElem.1 hc
  obtain ⟨ad, -, hz, -⟩ := comps_cells h j hj
  exact hz
def CopyPost (R : World → Value → Prop) (w : World) (e : Ending) (w' : World) : Prop := ∃ v, e = .returned v ∧ R w' v ∧ Step No w w'
set_option maxHeartbeats 2000000 in
theorem CopyComps_ref (w : World) (xs : List CompD) (v : Value) (h : CompsR w xs v) (hb : xs.length * 32 ≤ 140737488355328) : Calls Tryz.prog 31 #[v] w (CopyPost (fun w' v' => CompsR w' xs v') w) := by
  obtain ⟨A, c, rfl, h1, h2⟩ := comps_len h
  have HT := Lib.hid (texts h)
  have HX' := Lib.hid (h.to (Step.alloc (Step.refl No w) (.cells #[] TC)))
  have H0 := Lib.hid (World.ownsRow_lit (base := 0) (size := 3) (e := TC) w #[] 0 (Nat.zero_le _) (Nat.zero_le _) rfl)
  clear h
  go_enter Tryz.func31, Tryz.ntmps31
  go_wp2_with (at_builtin; refine list_append_sl _ rfl (.tmp 3) (.tmp 4) 22 48 _ 3 32 rfl Tryz.underlying22 infoC rfl (by decide) (.slice (some ⟨w.heap.size, 0, none⟩) 0 0) 0 [] rfl (by exact H0.out) A xs.length c (xs.flatMap compCells) rfl (comps_news HX'.out).1 (comps_news HX'.out).2.1 (comps_news HX'.out).2.2 comps_one (by omega) (by omega) ?_; intro v1 w2 hown hg hat; have HQ := Lib.hid (row_new (xs := xs) (by simpa using hown) hg hat); clear hown hg hat)
  go_ret
  exact ⟨_, rfl, HQ.out.1.reads HT.out, HQ.out.2⟩
end Go.Proofs.YtjeamfoicpgkhaaGreatDoor.CopyM

/- Copies of steps and entries: the laws' own. -/
namespace Go.Proofs.YtjeamfoicpgkhaaGreatDoor.CopyM
open Go.RowKit Go.Lib Go.Proofs.YtjeamfoicpgkhaaGreatDoor.Mem Go.Proofs.YtjeamfoicpgkhaaGreatDoor.Read Go.Proofs.YtjeamfoicpgkhaaGreatDoor.AppSl Go.Proofs.YtjeamfoicpgkhaaGreatDoor.Tree Go.Proofs.YtjeamfoicpgkhaaGreatDoor.Data Go.Proofs.YtjeamfoicpgkhaaGreatDoor.CompR Go.Proofs.YtjeamfoicpgkhaaGreatDoor.MsgR Go.Proofs.YtjeamfoicpgkhaaGreatDoor.OwnR Go.Proofs.YtjeamfoicpgkhaaGreatDoor.PkR Go.Proofs.YtjeamfoicpgkhaaGreatDoor.Each Go.Proofs.YtjeamfoicpgkhaaGreatDoor.EachS Go.Proofs.YtjeamfoicpgkhaaGreatDoor.TakeE
open Go.Proofs.YtjeamfoicpgkhaaGreatDoor.TakeS (TS)
open Go.Proofs.YtjeamfoicpgkhaaGreatDoor.RefAdd (row_new)
open Go.Proofs.YtjeamfoicpgkhaaGreatDoor.MsgOpen (BndK BndC BndS BndN BndE Bnd)
set_option linter.unusedVariables false
set_option linter.unusedSimpArgs false
set_option maxHeartbeats 2000000 in
theorem CopyComps_own (w : World) (xs : List CompD) (v : Value) (h : CompsR w xs v) (hb : BndC xs) : Calls Tryz.prog 31 #[v] w (CopyPost (fun w' v' => CompsW w.heap.size w' xs v') w) := by
  obtain ⟨A, c, rfl, h1, h2⟩ := comps_len h
  unfold BndC at hb
  have HT := Lib.hid (texts h)
  have HX' := Lib.hid (h.to (Step.alloc (Step.refl No w) (.cells #[] TC)))
  have H0 := Lib.hid (World.ownsRow_lit (base := 0) (size := 3) (e := TC) w #[] 0 (Nat.zero_le _) (Nat.zero_le _) rfl)
  clear h
  go_enter Tryz.func31, Tryz.ntmps31
  go_wp2_with (at_builtin; refine list_append_sl _ rfl (.tmp 3) (.tmp 4) 22 48 _ 3 32 rfl Tryz.underlying22 infoC rfl (by decide) (.slice (some ⟨w.heap.size, 0, none⟩) 0 0) 0 [] rfl (by exact H0.out) A xs.length c (xs.flatMap compCells) rfl (comps_news HX'.out).1 (comps_news HX'.out).2.1 (comps_news HX'.out).2.2 comps_one (by omega) (by omega) ?_; intro v1 w2 hown hg hat; have HQ := Lib.hid (row_new (xs := xs) (by simpa using hown) hg hat); clear hown hg hat)
  go_ret
  exact ⟨_, rfl, ⟨HQ.out.1.1, HQ.out.1.2, HT.out⟩, HQ.out.2⟩
theorem ints_new_row {w w2 : World} {xs : List Int} {v1 : Value} (ho : w2.ownsRow 0 TI 1 v1 xs.length (ints xs)) (hg : (w.alloc (.cells #[] TI)).grownBy w2 (Value.slice (some ⟨w.heap.size, 0, none⟩) 0 0).ownBlock) (hat : v1.ownBlock = (Value.slice (some ⟨w.heap.size, 0, none⟩) 0 0).ownBlock ∨ v1.ownBlock = some (w.alloc (.cells #[] TI)).heap.size) :
    IntsR w.heap.size w2 xs v1 ∧ Step No w w2 := by
  refine ⟨⟨?_, fun k hk => ?_, fun _ _ => trivial⟩, (Step.alloc (Step.refl No w) _).grown hg (fun k hk hlt => by simp [Value.ownBlock] at hk; omega)⟩
  · have e : ∀ l : List Int, l.flatMap encI = ints l := by
      intro l
      induction l with
      | nil => rfl
      | cons a l ih => rw [List.flatMap_cons, ih]; rfl
    rw [e]
    exact ho
  · rcases hat with hat | hat
    · rw [hk] at hat; simp [Value.ownBlock] at hat; omega
    · rw [hk] at hat
      injection hat with hat
      have e : (w.alloc (.cells #[] TI)).heap.size = w.heap.size + 1 := by simp
      omega
theorem ints_at {base : Nat} {w w' : World} {xs : List Int} {v : Value} {b : Nat} {cs : Array Value} {t : TypeId} (h : IntsR base w xs v) (hs : Step (fun k => k = b) w w') (hb : w.heap[b]? = some (.cells cs t (0, 0))) (ht : t ≠ TI) : IntsR base w' xs v := RowO.step (stable_true (fun _ => True) base) h hs (Types.at hb ⟨ht, trivial⟩)
theorem grown_no {w w4 w5 : World} {v : Value} {o : Obj} (h : Step No w w4) (hb : ∀ k, v.ownBlock = some k → w.heap.size ≤ k) (hg : (w4.alloc o).grownBy w5 v.ownBlock) : Step No w w5 := (h.alloc o).grown hg (fun k hk hlt => absurd (hb k hk) (by omega))
theorem set_new {w w' : World} {b i : Nat} (h : Step No w w') (hb : w.heap.size ≤ b) (v : Value) : Step No w (w'.setCell ⟨b, i, none⟩ v) := h.setCell (p := ⟨b, i, none⟩) (fun e => absurd e (by simp only; omega)) v
set_option maxHeartbeats 8000000 in
set_option maxRecDepth 100000 in
theorem CopySteps_own (w : World) (ss : List StepD) (v : Value) (h : StepsR w ss v) (hb : BndS ss) : Calls Tryz.prog 82 #[v] w (CopyPost (fun w' v' => ∃ ys : List (StepD × Value), ys.map (·.1) = ss ∧ StepsW w.heap.size w' ys v') w) := by
  obtain ⟨A, c, rfl, h1, h2⟩ := sl_len h
  unfold maxLen at h2
  obtain ⟨hb1, hb2⟩ := hb
  have HX := Lib.hid h
  have HK := Lib.hid hb2
  clear h hb2
  go_enter Tryz.func82, Tryz.ntmps82
  go_wp2
  go_loopw [3, 4] (fun o i wr => ∃ (k : Nat) (ys : List (StepD × Value)), k ≤ ss.length ∧ i = .int .i64 k ∧ ys.length = k ∧ ys.map (·.1) = ss.take k ∧ StepsW w.heap.size wr ys o ∧ Step No w wr) (fun _ i _ => ss.length - (RowKit.intOf i).toNat)
  case atStart => exact ⟨0, [], Nat.zero_le _, rfl, rfl, rfl, RowO.nil _, Step.refl _ _⟩
  case round =>
    obtain ⟨k, ys, hk, rfl, hyl, hy, ho, hs⟩ := hrel
    subst hyl
    obtain ⟨Ao, co, rfl, -, -⟩ := row_slice ho.1
    by_cases hlt : ys.length < ss.length
    · obtain ⟨ad, kv, rfl, hkv, c0, c1, c2, c3, c4, c5⟩ := steps_cells (HX.out.to hs) ys.length hlt
      obtain ⟨Ak, ck, rfl, hl1, hl2⟩ := sl_len hkv
      unfold maxLen at hl2
      have hi0 : (0 : Int) ≤ ys.length := by omega
      have hi1 : (ys.length : Int) < ss.length := by omega
      have HTk := Lib.hid (List.take_succ_eq_append_getElem hlt)
      have hkl : ss[ys.length].kids.length * 8 ≤ 140737488351232 := HK.out _ (List.getElem_mem hlt)
      generalize ss[ys.length] = x at *
      obtain ⟨kd, id, no, fr, up, ks⟩ := x
      simp only at c0 c1 c2 c3 c4 c5 hkv hkl hl1
      have HKv := Lib.hid hkv
      have HO := Lib.hid ho
      have HS := Lib.hid hs
      have HY := Lib.hid hy
      clear hkv ho hs hy
      go_upto_region 6 with (fail)
      have hr2 := blk_new wr (.cells #[.int .i64 kd, .int .i64 id, .int .i64 no, .int .i64 fr, .int .i64 up, .slice Ak ks.length ck] TS)
      have hs2 : Step No wr (wr.alloc (.cells #[.int .i64 kd, .int .i64 id, .int .i64 no, .int .i64 fr, .int .i64 up, .slice Ak ks.length ck] TS)) := (Step.refl _ _).alloc _
      have HZ : Hid (w.heap.size ≤ wr.heap.size) := Lib.hid HS.out.size
      clear c0 c1 c2 c3 c4 c5
      generalize hW : World.alloc wr _ = w2 at *
      generalize hX : wr.heap.size = X at *
      have HXe : Hid (wr.heap.size ≤ X) := Lib.hid (by omega)
      clear hW hX
      have d5 : (w2.alloc (.cells #[] 3)).cell? ⟨X, 5, none⟩ = some (.slice Ak ks.length ck) := (Step.alloc (Step.refl No w2) _).cell (blk_cell hr2 5) (fun f => f)
      have HR2 := Lib.hid hr2
      have HS2 : Hid (Step No w w2) := Lib.hid (HS.out.trans hs2 (fun _ f _ => f))
      have HS12 := Lib.hid hs2
      have HN2 := Lib.hid (ints_news (ints_to (ints_to HKv.out hs2) (Step.alloc (Step.refl No w2) (.cells #[] TI))))
      have H0 := Lib.hid (World.ownsRow_lit (base := 0) (size := 1) (e := TI) w2 #[] 0 (Nat.zero_le _) (Nat.zero_le _) rfl)
      clear hr2 hs2 HKv HS
      go_upto_region 7 with (at_builtin; go_loud (refine list_append_sl _ rfl (.tmp 16) (.tmp 18) 49 3 _ 1 8 rfl Tryz.underlying49 infoI rfl (by decide) (.slice (some ⟨w2.heap.size, 0, none⟩) 0 0) 0 [] rfl (by exact H0.out) Ak ks.length ck (ints ks) rfl HN2.out.1 HN2.out.2.1 HN2.out.2.2 (ints_one ks) (by unfold maxLen; omega) (by omega) ?_; intro v3 w3 hown hg hat; have HQ := Lib.hid (ints_new_row (xs := ks) (by simpa using hown) hg hat); obtain ⟨A3, c3, rfl, -, -⟩ := row_slice HQ.out.1.1; have HR3 := Lib.hid (HQ.out.2.blk HR2.out (fun f => f)); have d5 := (show w3.cell? ⟨X, 5, none⟩ = some (.slice Ak ks.length ck) from blk_cell HR3.out 5); have f5 := blk_free HR3.out 5; clear hown hg hat))
      have HR4 := Lib.hid (blk_set HR3.out 5 (.slice A3 ks.length c3))
      have hs34 : Step (fun k => k = X) w3 (w3.setCell ⟨X, 5, none⟩ (.slice A3 ks.length c3)) := by refine set_at (Step.refl _ _) ?_ _ <;> rfl
      have HI4 := Lib.hid (ints_base (ints_at HQ.out.1 hs34 HR3.out (by decide)) HS2.out.size)
      have HO4 := Lib.hid (RowO.no (stabS _) HO.out (set_new (b := X) (i := 5) (HS12.out.trans HQ.out.2 (fun _ f _ => f)) HXe.out (.slice A3 ks.length c3)))
      have HS4 : Hid (Step No w (w3.setCell ⟨X, 5, none⟩ (.slice A3 ks.length c3))) := Lib.hid (set_new (HS2.out.trans HQ.out.2 (fun _ f _ => f)) HZ.out _)
      have e0 := blk_cell HR4.out 0
      have e1 := blk_cell HR4.out 1
      have e2 := blk_cell HR4.out 2
      have e3 := blk_cell HR4.out 3
      have e4 := blk_cell HR4.out 4
      have e5 := blk_cell HR4.out 5
      simp at e0 e1 e2 e3 e4 e5
      generalize hW : World.setCell w3 _ _ = w4 at *
      clear hW hs34 d5 f5 HQ HN2 H0 HR3 HS2
      have hm9 : ys.length + 1 ≤ maxLen := by unfold maxLen; omega
      have hb9 : (ys.length + 1) * 64 ≤ 140737488355328 := by omega
      have HI5 := Lib.hid (ints_new HI4.out (.cells #[.int .i64 kd, .int .i64 id, .int .i64 no, .int .i64 fr, .int .i64 up, .slice A3 ks.length c3] TS))
      have HO5 := Lib.hid (HO4.out.no (stabS _) (Step.alloc (Step.refl No w4) (.cells #[.int .i64 kd, .int .i64 id, .int .i64 no, .int .i64 fr, .int .i64 up, .slice A3 ks.length c3] TS)))
      have HZ5 : Hid (w.heap.size ≤ (w4.alloc (.cells #[.int .i64 kd, .int .i64 id, .int .i64 no, .int .i64 fr, .int .i64 up, .slice A3 ks.length c3] TS)).heap.size) := Lib.hid (Nat.le_trans HS4.out.size (by simp))
      go_wp2_with (at_builtin; go_loud (refine list_append_own _ rfl (.tmp 21) (.tmp 23) 52 51 _ 6 64 rfl Tryz.underlying52 infoS rfl (by decide) (.slice Ao ys.length co) ys.length (ys.flatMap encS) rfl (by exact HO5.out.1) ⟨w4.heap.size, 0, none⟩ 1 1 [.int .i64 kd, .int .i64 id, .int .i64 no, .int .i64 fr, .int .i64 up, .slice A3 ks.length c3] rfl rfl (by exact cells_new w4 #[.int .i64 kd, .int .i64 id, .int .i64 no, .int .i64 fr, .int .i64 up, .slice A3 ks.length c3] TS) (by simp [Value.oneCell']) hm9 hb9 ?_; intro v5 w5 hown hg hat; have HS5 := Lib.hid (grown_no HS4.out HO4.out.2.1 hg); have HR5 := Lib.hid (RowO.next (stabS _) (tsI (by decide)) HO5.out HZ5.out (x := (⟨kd, id, no, fr, up, ks⟩, .slice A3 ks.length c3)) HI5.out hown hg hat); obtain ⟨A5, c5, rfl, -, -⟩ := row_slice hown; clear hown hg hat))
      go_roundw
      case rel => exact ⟨ys.length + 1, ys ++ [(⟨kd, id, no, fr, up, ks⟩, .slice A3 ks.length c3)], hlt, by go_num, by simp, by rw [HTk.out, List.map_append, HY.out]; rfl, HR5.out, HS5.out⟩
      case measure => simp [RowKit.intOf]; omega
    · have e : ys.length = ss.length := by omega
      rw [e, List.take_length] at hy
      have HY := Lib.hid hy
      have HO := Lib.hid ho
      have HS := Lib.hid hs
      clear hy ho hs
      go_wp2
      go_ret
      exact ⟨_, rfl, ⟨ys, HY.out, HO.out⟩, HS.out⟩
end Go.Proofs.YtjeamfoicpgkhaaGreatDoor.CopyM

/- Copies of entries, trees and messages: the laws' own. -/
namespace Go.Proofs.YtjeamfoicpgkhaaGreatDoor.CopyM
open Go.RowKit Go.Lib Go.Proofs.YtjeamfoicpgkhaaGreatDoor.Mem Go.Proofs.YtjeamfoicpgkhaaGreatDoor.Read Go.Proofs.YtjeamfoicpgkhaaGreatDoor.AppSl Go.Proofs.YtjeamfoicpgkhaaGreatDoor.Tree Go.Proofs.YtjeamfoicpgkhaaGreatDoor.Data Go.Proofs.YtjeamfoicpgkhaaGreatDoor.CompR Go.Proofs.YtjeamfoicpgkhaaGreatDoor.MsgR Go.Proofs.YtjeamfoicpgkhaaGreatDoor.OwnR Go.Proofs.YtjeamfoicpgkhaaGreatDoor.PkR Go.Proofs.YtjeamfoicpgkhaaGreatDoor.Each Go.Proofs.YtjeamfoicpgkhaaGreatDoor.EachS Go.Proofs.YtjeamfoicpgkhaaGreatDoor.TakeE Go.Proofs.YtjeamfoicpgkhaaGreatDoor.TakeM Go.Proofs.YtjeamfoicpgkhaaGreatDoor.C13
open Go.Proofs.YtjeamfoicpgkhaaGreatDoor.TakeS (TS)
open Go.Proofs.YtjeamfoicpgkhaaGreatDoor.Get (filled msg_reads)
open Go.Proofs.YtjeamfoicpgkhaaGreatDoor.MsgOpen (BndK BndC BndS BndN BndE Bnd)
set_option linter.unusedVariables false
set_option linter.unusedSimpArgs false
set_option maxHeartbeats 8000000 in
set_option maxRecDepth 100000 in
theorem CopyEntries_own (w : World) (es : List EntryD) (v : Value) (h : EntriesR w es v) (hb : BndE es) : Calls Tryz.prog 32 #[v] w (CopyPost (fun w' v' => ∃ ys : List (EntryD × Value × Value), ys.map (·.1) = es ∧ EntriesW w.heap.size w' ys v') w) := by
  obtain ⟨A, c, rfl, h1, h2⟩ := sl_len h
  unfold maxLen at h2
  obtain ⟨hb1, hb2⟩ := hb
  have HX := Lib.hid h
  have HK := Lib.hid hb2
  clear h hb2
  go_enter Tryz.func32, Tryz.ntmps32
  go_wp2
  go_loopw [3, 4] (fun o i wr => ∃ (k : Nat) (ys : List (EntryD × Value × Value)), k ≤ es.length ∧ i = .int .i64 k ∧ ys.length = k ∧ ys.map (·.1) = es.take k ∧ EntriesW w.heap.size wr ys o ∧ Step No w wr) (fun _ i _ => es.length - (RowKit.intOf i).toNat)
  case atStart => exact ⟨0, [], Nat.zero_le _, rfl, rfl, rfl, RowO.nil _, Step.refl _ _⟩
  case round =>
    obtain ⟨k, ys, hk, rfl, hyl, hy, ho, hs⟩ := hrel
    subst hyl
    obtain ⟨Ao, co, rfl, -, -⟩ := row_slice ho.1
    by_cases hlt : ys.length < es.length
    · obtain ⟨ad, ev, dv, rfl, hev, hdv, c0, c1, c2, c3⟩ := entries_cells (HX.out.to hs) ys.length hlt
      obtain ⟨Ae, ce, rfl, -, -⟩ := comps_len hev
      obtain ⟨Ad, cd, rfl, -, -⟩ := sl_len hdv
      have hi0 : (0 : Int) ≤ ys.length := by omega
      have hi1 : (ys.length : Int) < es.length := by omega
      have HTk := Lib.hid (List.take_succ_eq_append_getElem hlt)
      have HKl := Lib.hid (HK.out _ (List.getElem_mem hlt))
      generalize es[ys.length] = x at *
      obtain ⟨xc, xs, xe, xd⟩ := x
      simp only at c0 c1 c2 c3 hev hdv HKl
      have HEv := Lib.hid hev
      have HDv := Lib.hid hdv
      have HO := Lib.hid ho
      have HS := Lib.hid hs
      have HY := Lib.hid hy
      clear hev hdv ho hs hy
      go_upto_region 6 with (fail)
      have hr2 := blk_new wr (.cells #[.int .i64 xc, .int .i64 xs, .slice Ae xe.length ce, .slice Ad xd.length cd] TE)
      have hs2 : Step No wr (wr.alloc (.cells #[.int .i64 xc, .int .i64 xs, .slice Ae xe.length ce, .slice Ad xd.length cd] TE)) := (Step.refl _ _).alloc _
      have HZ : Hid (w.heap.size ≤ wr.heap.size) := Lib.hid HS.out.size
      clear c0 c1 c2 c3
      generalize hW : World.alloc wr _ = w2 at *
      generalize hX : wr.heap.size = X at *
      have HXe : Hid (wr.heap.size ≤ X) := Lib.hid (by omega)
      clear hW hX
      have d2 : w2.cell? ⟨X, 2, none⟩ = some (.slice Ae xe.length ce) := blk_cell hr2 2
      have HR2 := Lib.hid hr2
      have HS2 : Hid (Step No w w2) := Lib.hid (HS.out.trans hs2 (fun _ f _ => f))
      have HS12 := Lib.hid hs2
      clear hr2 hs2
      go_wp2_with fail
      refine (CopyComps_own w2 xe _ (HEv.out.to HS12.out) HKl.out.1).mono ?_
      rintro e w3 ⟨v3, rfl, hC3, hs3⟩
      obtain ⟨A3, n3, c3, rfl⟩ := comps_slice hC3
      have HR3 := Lib.hid (hs3.blk HR2.out (fun f => f))
      have e2 := blk_cell HR3.out 2
      have e3 := blk_cell HR3.out 3
      have f2 := blk_free HR3.out 2
      simp at e2 e3
      have HR4 := Lib.hid (blk_set HR3.out 2 (.slice A3 n3 c3))
      have hs34 : Step (fun k => k = X) w3 (w3.setCell ⟨X, 2, none⟩ (.slice A3 n3 c3)) := by refine set_at (Step.refl _ _) ?_ _ <;> rfl
      have HC4 := Lib.hid (comps_base (comps_go hC3 hs34 (Types.at HR3.out (by decide))) HS2.out.size)
      have HS14 := Lib.hid (set_new (b := X) (i := 2) (HS12.out.trans hs3 (fun _ f _ => f)) HXe.out (.slice A3 n3 c3))
      clear hC3 hs3 hs34 d2
      go_wp2_with fail
      generalize hW : World.setCell w3 _ _ = w4 at *
      clear hW e2 e3 f2
      refine (CopySteps_own w4 xd _ (HDv.out.to HS14.out) HKl.out.2).mono ?_
      rintro e w5 ⟨v5, rfl, ⟨zs, hz, hS5⟩, hs5⟩
      obtain ⟨A5, n5, c5, rfl⟩ := steps_slice hS5
      have HR5 := Lib.hid (hs5.blk HR4.out (fun f => f))
      have e3 := blk_cell HR5.out 3
      have f3 := blk_free HR5.out 3
      simp at e3
      have HR6 := Lib.hid (blk_set HR5.out 3 (.slice A5 n5 c5))
      have hs56 : Step (fun k => k = X) w5 (w5.setCell ⟨X, 3, none⟩ (.slice A5 n5 c5)) := by refine set_at (Step.refl _ _) ?_ _ <;> rfl
      have HS16 := Lib.hid (set_new (b := X) (i := 3) (HS14.out.trans hs5 (fun _ f _ => f)) HXe.out (.slice A5 n5 c5))
      have HS6 : Hid (Step No w (w5.setCell ⟨X, 3, none⟩ (.slice A5 n5 c5))) := Lib.hid (HS.out.trans HS16.out (fun _ f _ => f))
      have HE6 : Hid (subE w.heap.size (w5.setCell ⟨X, 3, none⟩ (.slice A5 n5 c5)) (⟨xc, xs, xe, xd⟩, .slice A3 n3 c3, .slice A5 n5 c5)) := Lib.hid ⟨comps_go (RowO.no (stabC _) HC4.out hs5) hs56 (Types.at HR5.out (by decide)), zs, hz, steps_go (steps_base hS5 (HS.out.trans HS14.out (fun _ f _ => f)).size) hs56 (Types.at HR5.out ⟨by decide, by decide⟩)⟩
      have HO6 := Lib.hid (RowO.no (stabE _) HO.out HS16.out)
      have g0 := blk_cell HR6.out 0
      have g1 := blk_cell HR6.out 1
      have g2 := blk_cell HR6.out 2
      have g3 := blk_cell HR6.out 3
      simp at g0 g1 g2 g3
      go_upto_region 8 with (fail)
      generalize hW : World.setCell w5 _ _ = w6 at *
      clear hW hs5 hs56 hS5 hz e3 f3 HC4 HO HR5
      have hm9 : ys.length + 1 ≤ maxLen := by unfold maxLen; omega
      have hb9 : (ys.length + 1) * 64 ≤ 140737488355328 := by omega
      have HE7 := Lib.hid (subE_new HE6.out (.cells #[.int .i64 xc, .int .i64 xs, .slice A3 n3 c3, .slice A5 n5 c5] TE))
      have HO7 := Lib.hid (HO6.out.no (stabE _) (Step.alloc (Step.refl No w6) (.cells #[.int .i64 xc, .int .i64 xs, .slice A3 n3 c3, .slice A5 n5 c5] TE)))
      have HZ7 : Hid (w.heap.size ≤ (w6.alloc (.cells #[.int .i64 xc, .int .i64 xs, .slice A3 n3 c3, .slice A5 n5 c5] TE)).heap.size) := Lib.hid (Nat.le_trans HS6.out.size (by simp))
      go_wp2_with (at_builtin; go_loud (refine list_append_own _ rfl (.tmp 24) (.tmp 26) 23 54 _ 4 64 rfl Tryz.underlying23 infoE rfl (by decide) (.slice Ao ys.length co) ys.length (ys.flatMap encE) rfl (by exact HO7.out.1) ⟨w6.heap.size, 0, none⟩ 1 1 [.int .i64 xc, .int .i64 xs, .slice A3 n3 c3, .slice A5 n5 c5] rfl rfl (by exact cells_new w6 #[.int .i64 xc, .int .i64 xs, .slice A3 n3 c3, .slice A5 n5 c5] TE) (by simp [Value.oneCell']) hm9 hb9 ?_; intro v7 w7 hown hg hat; have HS7 := Lib.hid (grown_no HS6.out HO6.out.2.1 hg); have HR7 := Lib.hid (RowO.next (stabE _) (show TsE TE from ⟨by decide, by decide, by decide⟩) HO7.out HZ7.out (x := (⟨xc, xs, xe, xd⟩, .slice A3 n3 c3, .slice A5 n5 c5)) HE7.out hown hg hat); obtain ⟨A7, c7, rfl, -, -⟩ := row_slice hown; clear hown hg hat))
      go_roundw
      case rel => exact ⟨ys.length + 1, ys ++ [(⟨xc, xs, xe, xd⟩, .slice A3 n3 c3, .slice A5 n5 c5)], hlt, by go_num, by simp, by rw [HTk.out, List.map_append, HY.out]; rfl, HR7.out, HS7.out⟩
      case measure => simp [RowKit.intOf]; omega
    · have e : ys.length = es.length := by omega
      rw [e, List.take_length] at hy
      have HY := Lib.hid hy
      have HO := Lib.hid ho
      have HS := Lib.hid hs
      clear hy ho hs
      go_wp2
      go_ret
      exact ⟨_, rfl, ⟨ys, HY.out, HO.out⟩, HS.out⟩
def TreePost (w : World) (root next : Int) (ns : List NodeD) (e : Ending) (w' : World) : Prop := ∃ (nv : Value) (ys : List (NodeD × Value)), e = .returned (.agg #[.int .i64 root, .int .i64 next, nv]) ∧ ys.map (·.1) = ns ∧ NodesW w.heap.size w' ys nv ∧ Step No w w'
abbrev TTr : TypeId := 26
/-- Under way: the tree that came in, the result's place, the new tree. -/
structure CTr (w : World) (P Q B : Nat) (root next : Int) (nv v : Value) (wr : World) : Prop where
  p : wr.heap[P]? = some (.cells #[.int .i64 root, .int .i64 next, nv] TTr (0, 0))
  q : wr.heap[Q]? = some (.cells #[.int .i64 0, .int .i64 0, .slice none 0 0] TTr (0, 0))
  b : wr.heap[B]? = some (.cells #[.int .i64 root, .int .i64 next, v] TTr (0, 0))
  at_ : w.heap.size ≤ P ∧ w.heap.size ≤ Q ∧ w.heap.size ≤ B ∧ P ≠ B ∧ Q ≠ B
  step : Step No w wr
section
variable {w wr w' : World} {P Q B : Nat} {root next : Int} {nv v v1 : Value}
theorem CTr.go (h : CTr w P Q B root next nv v wr) (hs : Step No wr w') : CTr w P Q B root next nv v w' := ⟨hs.blk h.p (fun f => f), hs.blk h.q (fun f => f), hs.blk h.b (fun f => f), h.at_, h.step.trans hs (fun _ f _ => f)⟩
theorem CTr.set (h : CTr w P Q B root next nv v wr) (v1 : Value) : CTr w P Q B root next nv v1 (wr.setCell ⟨B, 2, none⟩ v1) :=
  ⟨blk_set_other h.p (fun e => h.at_.2.2.2.1 e.symm) _, blk_set_other h.q (fun e => h.at_.2.2.2.2 e.symm) _, blk_set h.b 2 v1, h.at_, set_new h.step h.at_.2.2.1 _⟩
theorem CTr.grown {T : TypeId} {sz n b0 : Nat} {xs : List Value} {o : Obj} (h : CTr w P Q B root next nv v wr) (hr : wr.ownsRow b0 T sz v n xs) (hT : T ≠ TTr) (hb : ∀ k, v.ownBlock = some k → w.heap.size ≤ k) (hg : (wr.alloc o).grownBy w' v.ownBlock) : CTr w P Q B root next nv v w' := by
  have key : ∀ (b : Nat) (cs : Array Value), wr.heap[b]? = some (.cells cs TTr (0, 0)) → w'.heap[b]? = some (.cells cs TTr (0, 0)) := fun b cs hc => (hg.block b (by have := blk_lt hc; simp; omega) (fun e => row_ne hr hc hT e.symm)).trans (blk_alloc hc o)
  exact ⟨key _ _ h.p, key _ _ h.q, key _ _ h.b, h.at_, grown_no h.step hb hg⟩
end
set_option maxHeartbeats 8000000 in
set_option maxRecDepth 100000 in
theorem CopyTree_own (w : World) (root next : Int) (ns : List NodeD) (v : Value) (h : NodesR w ns v) (hb : BndN ns) : Calls Tryz.prog 33 #[.agg #[.int .i64 root, .int .i64 next, v]] w (TreePost w root next ns) := by
  obtain ⟨A, c, rfl, h1, h2⟩ := sl_len h
  unfold maxLen at h2
  obtain ⟨hb1, hb2⟩ := hb
  have HX := Lib.hid h
  have HK := Lib.hid hb2
  clear h hb2
  have hs3 : Step No w (((w.alloc (.cells #[.int .i64 root, .int .i64 next, .slice A ns.length c] TTr)).alloc (.cells #[.int .i64 0, .int .i64 0, .slice none 0 0] TTr)).alloc (.cells #[.int .i64 root, .int .i64 next, .slice none 0 0] TTr)) := (((Step.refl No w).alloc _).alloc _).alloc _
  have hc1 : CTr w w.heap.size (w.heap.size + 1) (w.heap.size + 1 + 1) root next (.slice A ns.length c) (.slice none 0 0) (((w.alloc (.cells #[.int .i64 root, .int .i64 next, .slice A ns.length c] TTr)).alloc (.cells #[.int .i64 0, .int .i64 0, .slice none 0 0] TTr)).alloc (.cells #[.int .i64 root, .int .i64 next, .slice none 0 0] TTr)) :=
    ⟨blk_alloc (blk_alloc (blk_new _ _) _) _, blk_alloc (by simpa using blk_new (w.alloc (.cells #[.int .i64 root, .int .i64 next, .slice A ns.length c] TTr)) (.cells #[.int .i64 0, .int .i64 0, .slice none 0 0] TTr)) _, by simpa using blk_new ((w.alloc (.cells #[.int .i64 root, .int .i64 next, .slice A ns.length c] TTr)).alloc (.cells #[.int .i64 0, .int .i64 0, .slice none 0 0] TTr)) (.cells #[.int .i64 root, .int .i64 next, .slice none 0 0] TTr), ⟨by omega, by omega, by omega, by omega, by omega⟩, hs3⟩
  go_enter Tryz.func33, Tryz.ntmps33
  go_upto_region 2 with (fail)
  generalize hW : World.alloc (World.alloc (World.alloc w _) _) _ = w1 at *
  clear hW hs3
  have HC1 := Lib.hid hc1
  clear hc1
  generalize hB : w.heap.size + 1 + 1 = B at *
  generalize hQ : w.heap.size + 1 = Q at *
  generalize hP : w.heap.size = P at *
  have HP := Lib.hid hP
  clear hB hQ hP
  have b2 : w1.cell? ⟨P, 2, none⟩ = some (.slice A ns.length c) := blk_cell HC1.out.p 2
  go_wp2
  clear b2
  go_loopw [4] (fun i wr => ∃ (k : Nat) (ys : List (NodeD × Value)) (o : Value), k ≤ ns.length ∧ i = .int .i64 k ∧ ys.length = k ∧ ys.map (·.1) = ns.take k ∧ NodesW w.heap.size wr ys o ∧ CTr w P Q B root next (.slice A ns.length c) o wr) (fun i _ => ns.length - (RowKit.intOf i).toNat)
  case atStart => exact ⟨0, [], _, Nat.zero_le _, rfl, rfl, rfl, RowO.nil _, HC1.out⟩
  case round =>
    obtain ⟨k, ys, o, hk, rfl, hyl, hy, ho, hc⟩ := hrel
    subst hyl
    obtain ⟨Ao, co, rfl, -, -⟩ := row_slice ho.1
    have b2 : wr.cell? ⟨P, 2, none⟩ = some (.slice A ns.length c) := blk_cell hc.p 2
    by_cases hlt : ys.length < ns.length
    · obtain ⟨ad, kv, rfl, hkv, c0, c1, c2, c3, c4⟩ := nodes_cells (HX.out.to hc.step) ys.length hlt
      obtain ⟨Ak, ck, rfl, hl1, hl2⟩ := sl_len hkv
      unfold maxLen at hl2
      have hi0 : (0 : Int) ≤ ys.length := by omega
      have hi1 : (ys.length : Int) < ns.length := by omega
      have HTk := Lib.hid (List.take_succ_eq_append_getElem hlt)
      have hkl : ns[ys.length].kids.length * 8 ≤ 140737488351232 := HK.out _ (List.getElem_mem hlt)
      generalize ns[ys.length] = x at *
      obtain ⟨id, kd, fr, up, ks⟩ := x
      simp only at c0 c1 c2 c3 c4 hkv hkl hl1
      have HKv := Lib.hid hkv
      have HO := Lib.hid ho
      have HC := Lib.hid hc
      have HY := Lib.hid hy
      clear hkv ho hc hy
      go_upto_region 6 with (fail)
      have hr2 := blk_new wr (.cells #[.int .i64 id, .int .i64 kd, .int .i64 fr, .int .i64 up, .slice Ak ks.length ck] TN)
      have hs2 : Step No wr (wr.alloc (.cells #[.int .i64 id, .int .i64 kd, .int .i64 fr, .int .i64 up, .slice Ak ks.length ck] TN)) := (Step.refl _ _).alloc _
      have HZ : Hid (w.heap.size ≤ wr.heap.size) := Lib.hid HC.out.step.size
      clear c0 c1 c2 c3 c4 b2
      generalize hW : World.alloc wr _ = w2 at *
      generalize hX : wr.heap.size = X at *
      have HXe : Hid (wr.heap.size ≤ X) := Lib.hid (by omega)
      clear hW hX
      have d4 : (w2.alloc (.cells #[] 3)).cell? ⟨X, 4, none⟩ = some (.slice Ak ks.length ck) := (Step.alloc (Step.refl No w2) _).cell (blk_cell hr2 4) (fun f => f)
      have HR2 := Lib.hid hr2
      have HS2 : Hid (Step No w w2) := Lib.hid (HC.out.step.trans hs2 (fun _ f _ => f))
      have HS12 := Lib.hid hs2
      have HN2 := Lib.hid (ints_news (ints_to (ints_to HKv.out hs2) (Step.alloc (Step.refl No w2) (.cells #[] TI))))
      have H0 := Lib.hid (World.ownsRow_lit (base := 0) (size := 1) (e := TI) w2 #[] 0 (Nat.zero_le _) (Nat.zero_le _) rfl)
      clear hr2 hs2 HKv
      go_upto_region 7 with (at_builtin; go_loud (refine list_append_sl _ rfl (.tmp 23) (.tmp 25) 49 3 _ 1 8 rfl Tryz.underlying49 infoI rfl (by decide) (.slice (some ⟨w2.heap.size, 0, none⟩) 0 0) 0 [] rfl (by exact H0.out) Ak ks.length ck (ints ks) rfl HN2.out.1 HN2.out.2.1 HN2.out.2.2 (ints_one ks) (by unfold maxLen; omega) (by omega) ?_; intro v3 w3 hown hg hat; have HQ := Lib.hid (ints_new_row (xs := ks) (by simpa using hown) hg hat); obtain ⟨A3, c3, rfl, -, -⟩ := row_slice HQ.out.1.1; have HR3 := Lib.hid (HQ.out.2.blk HR2.out (fun f => f)); have d4 := (show w3.cell? ⟨X, 4, none⟩ = some (.slice Ak ks.length ck) from blk_cell HR3.out 4); have f4 := blk_free HR3.out 4; clear hown hg hat))
      have HR4 := Lib.hid (blk_set HR3.out 4 (.slice A3 ks.length c3))
      have hs34 : Step (fun k => k = X) w3 (w3.setCell ⟨X, 4, none⟩ (.slice A3 ks.length c3)) := by refine set_at (Step.refl _ _) ?_ _ <;> rfl
      have HI4 := Lib.hid (ints_base (ints_at HQ.out.1 hs34 HR3.out (by decide)) HS2.out.size)
      have HS14 := Lib.hid (set_new (b := X) (i := 4) (HS12.out.trans HQ.out.2 (fun _ f _ => f)) HXe.out (.slice A3 ks.length c3))
      have HO4 := Lib.hid (RowO.no (stabN _) HO.out HS14.out)
      have HC4 := Lib.hid (HC.out.go HS14.out)
      have e0 := blk_cell HR4.out 0
      have e1 := blk_cell HR4.out 1
      have e2 := blk_cell HR4.out 2
      have e3 := blk_cell HR4.out 3
      have e4 := blk_cell HR4.out 4
      simp at e0 e1 e2 e3 e4
      generalize hW : World.setCell w3 _ _ = w4 at *
      clear hW hs34 d4 f4 HQ HN2 H0 HR3 HS2
      have b2 : w4.cell? ⟨B, 2, none⟩ = some (.slice Ao ys.length co) := blk_cell HC4.out.b 2
      have hm9 : ys.length + 1 ≤ maxLen := by unfold maxLen; omega
      have hb9 : (ys.length + 1) * 56 ≤ 140737488355328 := by omega
      have HI5 := Lib.hid (ints_new HI4.out (.cells #[.int .i64 id, .int .i64 kd, .int .i64 fr, .int .i64 up, .slice A3 ks.length c3] TN))
      have HO5 := Lib.hid (HO4.out.no (stabN _) (Step.alloc (Step.refl No w4) (.cells #[.int .i64 id, .int .i64 kd, .int .i64 fr, .int .i64 up, .slice A3 ks.length c3] TN)))
      have HZ5 : Hid (w.heap.size ≤ (w4.alloc (.cells #[.int .i64 id, .int .i64 kd, .int .i64 fr, .int .i64 up, .slice A3 ks.length c3] TN)).heap.size) := Lib.hid (Nat.le_trans HC4.out.step.size (by simp))
      go_wp2_with (at_builtin; go_loud (refine list_append_own _ rfl (.tmp 29) (.tmp 31) 24 128 _ 5 56 rfl Tryz.underlying24 infoN rfl (by decide) (.slice Ao ys.length co) ys.length (ys.flatMap encN) rfl (by exact HO5.out.1) ⟨w4.heap.size, 0, none⟩ 1 1 [.int .i64 id, .int .i64 kd, .int .i64 fr, .int .i64 up, .slice A3 ks.length c3] rfl rfl (by exact cells_new w4 #[.int .i64 id, .int .i64 kd, .int .i64 fr, .int .i64 up, .slice A3 ks.length c3] TN) (by simp [Value.oneCell']) hm9 hb9 ?_; intro v5 w5 hown hg hat; have hc5 := HC4.out.grown HO4.out.1 (by decide) HO4.out.2.1 hg; have b5 := (show w5.cell? ⟨B, 2, none⟩ = some (.slice Ao ys.length co) from blk_cell hc5.b 2); have f5 := blk_free hc5.b 2; have HR5 := Lib.hid (nodes_go (RowO.next (stabN _) (tsI (by decide)) HO5.out HZ5.out (x := (⟨id, kd, fr, up, ks⟩, .slice A3 ks.length c3)) HI5.out hown hg hat) (w' := w5.setCell ⟨B, 2, none⟩ v5) (F := fun k => k = B) (by refine set_at (Step.refl _ _) ?_ _ <;> rfl) (Types.at hc5.b ⟨by decide, by decide⟩)); have HC5 := Lib.hid (hc5.set v5); obtain ⟨A5, c5, rfl, -, -⟩ := row_slice hown; clear hown hg hat hc5))
      go_roundw
      case rel => exact ⟨ys.length + 1, ys ++ [(⟨id, kd, fr, up, ks⟩, .slice A3 ks.length c3)], _, hlt, by go_num, by simp, by rw [HTk.out, List.map_append, HY.out]; rfl, HR5.out, HC5.out⟩
      case measure => simp [RowKit.intOf]; omega
    · have e : ys.length = ns.length := by omega
      rw [e, List.take_length] at hy
      have HY := Lib.hid hy
      have e0 := blk_cell hc.b 0
      have e1 := blk_cell hc.b 1
      have e2 := blk_cell hc.b 2
      have q0 := blk_cell hc.q 0
      have q1 := blk_cell hc.q 1
      have q2 := blk_cell hc.q 2
      have f0 := blk_free hc.q 0
      have f1 := blk_free hc.q 1
      have f2 := blk_free hc.q 2
      simp at e0 e1 e2 q0 q1 q2
      have hne : ¬ Q = B := hc.at_.2.2.2.2
      have hne2 : ¬ B = Q := fun e => hne e.symm
      have hD := sets_blk [.int .i64 root, .int .i64 next, .slice Ao ys.length co] [] [.int .i64 0, .int .i64 0, .slice none 0 0] wr (by simpa using hc.q) rfl
      have hS := sets_step Q [.int .i64 root, .int .i64 next, .slice Ao ys.length co] wr 0
      have HN := Lib.hid (nodes_go ho hS (Types.at hc.q ⟨by decide, by decide⟩))
      have HS : Hid (Step No w (sets wr Q 0 [.int .i64 root, .int .i64 next, .slice Ao ys.length co])) := Lib.hid (hc.step.trans hS (fun k f hk => absurd hk (by have := hc.at_.2.1; omega)))
      have HD := Lib.hid hD
      simp only [sets, List.length_nil, List.nil_append, Nat.reduceAdd] at HD HN HS
      have hge : ¬ (ys.length : Int) < ns.length := by omega
      clear hy ho hc hD hS e
      go_wp2
      generalize World.setCell (World.setCell (World.setCell wr ⟨Q, 0, none⟩ _) ⟨Q, 1, none⟩ _) ⟨Q, 2, none⟩ _ = W at *
      have r0 := blk_cell HD.out 0
      have r1 := blk_cell HD.out 1
      have r2 := blk_cell HD.out 2
      simp at r0 r1 r2
      exact bodyPost_ret (by simp [results, Tryz.results33, go_sem, r0, r1, r2]) rfl ⟨_, ys, rfl, HY.out, HN.out, HS.out⟩
set_option maxHeartbeats 8000000 in
set_option maxRecDepth 100000 in
theorem CopyMsg_any (w : World) (m : MsgD) (ev env nv : Value) (hm : MsgR w m ev env nv) (hb : Bnd m) : Calls Tryz.prog 11 #[aggM m ev env nv] w (CopyPost (fun w' v' => ∃ ev' env' nv', v' = aggM m ev' env' nv' ∧ MsgR w' m ev' env' nv') w) := by
  obtain ⟨A1, n1, rfl, -, -⟩ := comps_len hm.edit
  obtain ⟨A2, n2, rfl, -, -⟩ := sl_len hm.entries
  obtain ⟨A3, n3, rfl, -, -⟩ := sl_len hm.nodes
  obtain ⟨k, cl, rv, sq, fm, ls, rf, es, en, tx, ⟨rt, nx, ns⟩⟩ := m
  have HR := Lib.hid hm
  have HB := Lib.hid hb
  clear hm hb
  unfold aggM msgCells
  simp only at *
  go_enter Tryz.func11, Tryz.ntmps11
  go_upto_region 1 with (fail)
  have hx := blk_alloc (blk_new w (.cells (msgCells ⟨k, cl, rv, sq, fm, ls, rf, es, en, tx, ⟨rt, nx, ns⟩⟩ (.slice A1 es.length n1) (.slice A2 en.length n2) (.slice A3 ns.length n3)) TM)) (.cells mZ TM)
  have hq : ((w.alloc (.cells (msgCells ⟨k, cl, rv, sq, fm, ls, rf, es, en, tx, ⟨rt, nx, ns⟩⟩ (.slice A1 es.length n1) (.slice A2 en.length n2) (.slice A3 ns.length n3)) TM)).alloc (.cells mZ TM)).heap[w.heap.size + 1]? = some (.cells mZ TM (0, 0)) := by simpa using blk_new (w.alloc (.cells (msgCells ⟨k, cl, rv, sq, fm, ls, rf, es, en, tx, ⟨rt, nx, ns⟩⟩ (.slice A1 es.length n1) (.slice A2 en.length n2) (.slice A3 ns.length n3)) TM)) (.cells mZ TM)
  have hs1 : Step No w ((w.alloc (.cells (msgCells ⟨k, cl, rv, sq, fm, ls, rf, es, en, tx, ⟨rt, nx, ns⟩⟩ (.slice A1 es.length n1) (.slice A2 en.length n2) (.slice A3 ns.length n3)) TM)).alloc (.cells mZ TM)) := ((Step.refl No w).alloc _).alloc _
  simp only [msgCells, mZ] at hx hq hs1
  generalize hW : World.alloc (World.alloc w _) _ = w1 at *
  clear hW
  have HZ : Hid (w.heap.size ≤ w.heap.size ∧ w.heap.size ≤ w.heap.size + 1 ∧ w.heap.size ≠ w.heap.size + 1) := Lib.hid ⟨Nat.le_refl _, by omega, by omega⟩
  generalize hQ : w.heap.size + 1 = Q at *
  generalize hP : w.heap.size = X at *
  have HX := Lib.hid hx
  have HQ := Lib.hid hq
  have HS1 := Lib.hid hs1
  have HPe := Lib.hid hP
  clear hx hq hs1 hQ hP
  obtain ⟨a0, a1, a2, a3, a4, a5, a6, a7, a8, a9, a10, a11, a12⟩ := cells13 HX.out
  have f7 := blk_free HX.out 7
  have f8 := blk_free HX.out 8
  have f10 := blk_free HX.out 10
  have f11 := blk_free HX.out 11
  have f12 := blk_free HX.out 12
  go_wp2_with fail
  refine (CopyComps_own w1 es _ (HR.out.to HS1.out).edit HB.out.edit).mono ?_
  rintro e w2 ⟨v2, rfl, hC2, hs2⟩
  obtain ⟨B1, m1, c1, rfl⟩ := comps_slice hC2
  have HX2 := Lib.hid (hs2.blk HX.out (fun f => f))
  have HQ2 := Lib.hid (hs2.blk HQ.out (fun f => f))
  have HS2 : Hid (Step No w w2) := Lib.hid (HS1.out.trans hs2 (fun _ f _ => f))
  have hst : Step (fun k => k = X) w2 (w2.setCell ⟨X, 7, none⟩ (.slice B1 m1 c1)) := by refine set_at (Step.refl _ _) ?_ _ <;> rfl
  have HC3 := Lib.hid (comps_base (comps_go hC2 hst (Types.at HX2.out (by decide))) HS1.out.size)
  have HX3 := Lib.hid (blk_set HX2.out 7 (.slice B1 m1 c1))
  have HQ3 := Lib.hid (blk_set_other HQ2.out (a := ⟨X, 7, none⟩) HZ.out.2.2 (.slice B1 m1 c1))
  have HS3 := Lib.hid (set_new (i := 7) HS2.out (by rw [HPe.out]; exact HZ.out.1) (.slice B1 m1 c1))
  clear a0 a1 a2 a3 a4 a5 a6 a7 a8 a9 a10 a11 a12 f7 f8 f10 f11 f12 hC2 hs2 hst HX HQ HS1 HS2
  obtain ⟨a0, a1, a2, a3, a4, a5, a6, a7, a8, a9, a10, a11, a12⟩ := cells13 HX2.out
  have f7 := blk_free HX2.out 7
  go_upto_region 2 with (fail)
  clear a0 a1 a2 a3 a4 a5 a6 a7 a8 a9 a10 a11 a12 f7 HX2 HQ2
  generalize hW : World.setCell w2 _ _ = w3 at *
  clear hW
  simp only [List.setIfInBounds_toArray, List.set_cons_succ, List.set_cons_zero] at HX3
  obtain ⟨a0, a1, a2, a3, a4, a5, a6, a7, a8, a9, a10, a11, a12⟩ := cells13 HX3.out
  have f8 := blk_free HX3.out 8
  go_wp2_with fail
  refine (CopyEntries_own w3 en _ (HR.out.to HS3.out).entries HB.out.entries).mono ?_
  rintro e w4 ⟨v4, rfl, ⟨zs, hz, hE4⟩, hs4⟩
  obtain ⟨B2, m2, c2, rfl⟩ := entries_slice hE4
  have HX4 := Lib.hid (hs4.blk HX3.out (fun f => f))
  have HQ4 := Lib.hid (hs4.blk HQ3.out (fun f => f))
  have hst : Step (fun k => k = X) w4 (w4.setCell ⟨X, 8, none⟩ (.slice B2 m2 c2)) := by refine set_at (Step.refl _ _) ?_ _ <;> rfl
  have HE5 := Lib.hid (entries_base (entries_go hE4 hst (Types.at HX4.out ⟨by decide, by decide, by decide, by decide⟩)) HS3.out.size)
  have HC5 := Lib.hid (comps_go (RowO.no (stabC _) HC3.out hs4) hst (Types.at HX4.out (by decide)))
  have HX5 := Lib.hid (blk_set HX4.out 8 (.slice B2 m2 c2))
  have HQ5 := Lib.hid (blk_set_other HQ4.out (a := ⟨X, 8, none⟩) HZ.out.2.2 (.slice B2 m2 c2))
  have HS5 := Lib.hid (set_new (i := 8) (HS3.out.trans hs4 (fun _ f _ => f)) (by rw [HPe.out]; exact HZ.out.1) (.slice B2 m2 c2))
  have HZs := Lib.hid hz
  clear a0 a1 a2 a3 a4 a5 a6 a7 a8 a9 a10 a11 a12 f8 hE4 hs4 hst HX3 HQ3 HC3 HS3 hz
  obtain ⟨a0, a1, a2, a3, a4, a5, a6, a7, a8, a9, a10, a11, a12⟩ := cells13 HX4.out
  have f8 := blk_free HX4.out 8
  go_upto_region 3 with (fail)
  clear a0 a1 a2 a3 a4 a5 a6 a7 a8 a9 a10 a11 a12 f8 HX4 HQ4
  generalize hW : World.setCell w4 _ _ = w5 at *
  clear hW
  simp only [List.setIfInBounds_toArray, List.set_cons_succ, List.set_cons_zero] at HX5
  obtain ⟨a0, a1, a2, a3, a4, a5, a6, a7, a8, a9, a10, a11, a12⟩ := cells13 HX5.out
  go_wp2_with fail
  refine (CopyTree_own w5 rt nx ns _ (HR.out.to HS5.out).nodes HB.out.nodes).mono ?_
  rintro e w6 ⟨nv6, zn, rfl, hzn, hN6, hs6⟩
  obtain ⟨B3, m3, c3, rfl⟩ := nodes_slice hN6
  have HX6 := Lib.hid (hs6.blk HX5.out (fun f => f))
  have HQ6 := Lib.hid (hs6.blk HQ5.out (fun f => f))
  have hst : Step (fun k => k = X) w6 (((w6.setCell ⟨X, 10, none⟩ (.int .i64 rt)).setCell ⟨X, 11, none⟩ (.int .i64 nx)).setCell ⟨X, 12, none⟩ (.slice B3 m3 c3)) := by refine set_at (set_at (set_at (Step.refl _ _) ?_ _) ?_ _) ?_ _ <;> rfl
  have HN7 := Lib.hid (nodes_base (nodes_go hN6 hst (Types.at HX6.out ⟨by decide, by decide⟩)) HS5.out.size)
  have HE7 := Lib.hid (entries_go (RowO.no (stabE _) HE5.out hs6) hst (Types.at HX6.out ⟨by decide, by decide, by decide, by decide⟩))
  have HC7 := Lib.hid (comps_go (RowO.no (stabC _) HC5.out hs6) hst (Types.at HX6.out (by decide)))
  have HX7 := Lib.hid (blk_set (blk_set (blk_set HX6.out 10 (.int .i64 rt)) 11 (.int .i64 nx)) 12 (.slice B3 m3 c3))
  have HQ7 := Lib.hid (blk_set_other (blk_set_other (blk_set_other HQ6.out (a := ⟨X, 10, none⟩) HZ.out.2.2 (.int .i64 rt)) (a := ⟨X, 11, none⟩) HZ.out.2.2 (.int .i64 nx)) (a := ⟨X, 12, none⟩) HZ.out.2.2 (.slice B3 m3 c3))
  have hle : w.heap.size ≤ X := by rw [HPe.out]; exact HZ.out.1
  have HS7 := Lib.hid (set_new (i := 12) (set_new (i := 11) (set_new (i := 10) (HS5.out.trans hs6 (fun _ f _ => f)) hle (.int .i64 rt)) hle (.int .i64 nx)) hle (.slice B3 m3 c3))
  have HZn := Lib.hid hzn
  clear a0 a1 a2 a3 a4 a5 a6 a7 a8 a9 a10 a11 a12 hN6 hs6 hst HX5 HQ5 HC5 HE5 HS5 hzn hle
  obtain ⟨a0, a1, a2, a3, a4, a5, a6, a7, a8, a9, a10, a11, a12⟩ := cells13 HX6.out
  have f10 := blk_free HX6.out 10
  have f11 := blk_free HX6.out 11
  have f12 := blk_free HX6.out 12
  go_upto_region 4 with (fail)
  clear a0 a1 a2 a3 a4 a5 a6 a7 a8 a9 a10 a11 a12 f10 f11 f12 HX6 HQ6
  generalize hW : World.setCell (World.setCell (World.setCell w6 _ _) _ _) _ _ = w7 at *
  clear hW
  simp only [List.setIfInBounds_toArray, List.set_cons_succ, List.set_cons_zero] at HX7
  obtain ⟨a0, a1, a2, a3, a4, a5, a6, a7, a8, a9, a10, a11, a12⟩ := cells13 HX7.out
  have k0 := blk_cell HQ7.out 0
  have y0 := blk_free HQ7.out 0
  have k1 := blk_cell HQ7.out 1
  have y1 := blk_free HQ7.out 1
  have k2 := blk_cell HQ7.out 2
  have y2 := blk_free HQ7.out 2
  have k3 := blk_cell HQ7.out 3
  have y3 := blk_free HQ7.out 3
  have k4 := blk_cell HQ7.out 4
  have y4 := blk_free HQ7.out 4
  have k5 := blk_cell HQ7.out 5
  have y5 := blk_free HQ7.out 5
  have k6 := blk_cell HQ7.out 6
  have y6 := blk_free HQ7.out 6
  have k7 := blk_cell HQ7.out 7
  have y7 := blk_free HQ7.out 7
  have k8 := blk_cell HQ7.out 8
  have y8 := blk_free HQ7.out 8
  have k9 := blk_cell HQ7.out 9
  have y9 := blk_free HQ7.out 9
  have k10 := blk_cell HQ7.out 10
  have y10 := blk_free HQ7.out 10
  have k11 := blk_cell HQ7.out 11
  have y11 := blk_free HQ7.out 11
  have k12 := blk_cell HQ7.out 12
  have y12 := blk_free HQ7.out 12
  simp at k0 k1 k2 k3 k4 k5 k6 k7 k8 k9 k10 k11 k12
  have hne : ¬ Q = X := fun e => HZ.out.2.2 e.symm
  have hne2 : ¬ X = Q := HZ.out.2.2
  have HD := Lib.hid (filled (w := w) (vs := [.int .i64 k, .int .i64 cl, .int .i64 rv, .int .i64 sq, .int .i64 fm, .int .i64 ls, .bool rf, .slice B1 m1 c1, .slice B2 m2 c2, .string tx, .int .i64 rt, .int .i64 nx, .slice B3 m3 c3]) (by simpa [mZ] using HQ7.out) rfl (by rw [HPe.out]; exact HZ.out.2.1) HS7.out)
  have HM : Hid (MsgW w.heap.size (sets w7 Q 0 [.int .i64 k, .int .i64 cl, .int .i64 rv, .int .i64 sq, .int .i64 fm, .int .i64 ls, .bool rf, .slice B1 m1 c1, .slice B2 m2 c2, .string tx, .int .i64 rt, .int .i64 nx, .slice B3 m3 c3]) ⟨k, cl, rv, sq, fm, ls, rf, es, en, tx, ⟨rt, nx, ns⟩⟩ (.slice B1 m1 c1) (.slice B2 m2 c2) (.slice B3 m3 c3)) :=
    Lib.hid (MsgW.go ⟨HC7.out, ⟨zs, HZs.out, HE7.out⟩, ⟨zn, HZn.out, HN7.out⟩, HR.out.text⟩ HD.out.2.2 (Types.at HQ7.out ⟨by decide, by decide, by decide, by decide, by decide⟩))
  simp only [sets, Nat.reduceAdd] at HD HM
  clear HX7 HQ7 HC7 HE7 HN7 HS7
  go_wp2
  generalize hW : World.setCell (World.setCell (World.setCell (World.setCell (World.setCell (World.setCell (World.setCell (World.setCell (World.setCell (World.setCell (World.setCell (World.setCell (World.setCell _ ⟨Q, 0, none⟩ _) ⟨Q, 1, none⟩ _) ⟨Q, 2, none⟩ _) ⟨Q, 3, none⟩ _) ⟨Q, 4, none⟩ _) ⟨Q, 5, none⟩ _) ⟨Q, 6, none⟩ _) ⟨Q, 7, none⟩ _) ⟨Q, 8, none⟩ _) ⟨Q, 9, none⟩ _) ⟨Q, 10, none⟩ _) ⟨Q, 11, none⟩ _) ⟨Q, 12, none⟩ _ = W at *
  clear hW
  have r0 := blk_cell HD.out.1 0
  have r1 := blk_cell HD.out.1 1
  have r2 := blk_cell HD.out.1 2
  have r3 := blk_cell HD.out.1 3
  have r4 := blk_cell HD.out.1 4
  have r5 := blk_cell HD.out.1 5
  have r6 := blk_cell HD.out.1 6
  have r7 := blk_cell HD.out.1 7
  have r8 := blk_cell HD.out.1 8
  have r9 := blk_cell HD.out.1 9
  have r10 := blk_cell HD.out.1 10
  have r11 := blk_cell HD.out.1 11
  have r12 := blk_cell HD.out.1 12
  simp at r0 r1 r2 r3 r4 r5 r6 r7 r8 r9 r10 r11 r12
  exact bodyPost_ret (by simp [results, Tryz.results11, go_sem, r0, r1, r2, r3, r4, r5, r6, r7, r8, r9, r10, r11, r12]) rfl ⟨_, rfl, ⟨_, _, _, rfl, msg_reads HM.out⟩, HD.out.2.1⟩
end Go.Proofs.YtjeamfoicpgkhaaGreatDoor.CopyM

/- Numbers of what one owns are written over: what stays. Nothing of the program stands here. -/
namespace Go.Proofs.YtjeamfoicpgkhaaGreatDoor.Soft
open Go.RowKit Go.Lib Go.Proofs.YtjeamfoicpgkhaaGreatDoor.Mem Go.Proofs.YtjeamfoicpgkhaaGreatDoor.Read Go.Proofs.YtjeamfoicpgkhaaGreatDoor.Tree Go.Proofs.YtjeamfoicpgkhaaGreatDoor.Data Go.Proofs.YtjeamfoicpgkhaaGreatDoor.OwnR Go.Proofs.YtjeamfoicpgkhaaGreatDoor.PkR Go.Proofs.YtjeamfoicpgkhaaGreatDoor.CompR Go.Proofs.YtjeamfoicpgkhaaGreatDoor.MsgR Go.Proofs.YtjeamfoicpgkhaaGreatDoor.Each Go.Proofs.YtjeamfoicpgkhaaGreatDoor.EachS Go.Proofs.YtjeamfoicpgkhaaGreatDoor.TakeE Go.Proofs.YtjeamfoicpgkhaaGreatDoor.TakeM
set_option linter.unusedVariables false
set_option linter.unusedSimpArgs false
def SoftV (a b : Value) : Prop := a = b ∨ ((∃ x, a = .int .i64 x) ∧ ∃ y, b = .int .i64 y)
theorem SoftV.trans {a b c : Value} (h : SoftV a b) (k : SoftV b c) : SoftV a c := by
  rcases h with rfl | ⟨hx, y, rfl⟩
  · exact k
  · rcases k with rfl | ⟨_, hz⟩
    · exact .inr ⟨hx, y, rfl⟩
    · exact .inr ⟨hx, hz⟩
theorem SoftV.int {x : Int} {b : Value} (h : SoftV (.int .i64 x) b) : ∃ y, b = .int .i64 y := by
  rcases h with rfl | ⟨_, h⟩
  · exact ⟨x, rfl⟩
  · exact h
theorem SoftV.slice {A : Option Addr} {n c : Nat} {b : Value} (h : SoftV (.slice A n c) b) : b = .slice A n c := by
  rcases h with rfl | ⟨⟨x, h⟩, _⟩
  · rfl
  · cases h
/-- Every cell stays what it is, save that a number may be another. -/
def SoftC (cs cs' : Array Value) : Prop := ∀ (i : Nat) (v : Value), cs[i]? = some v → ∃ v', cs'[i]? = some v' ∧ SoftV v v'
def Soft (w w' : World) : Prop := ∀ (g : Nat) (cs : Array Value) (t : TypeId), w.heap[g]? = some (.cells cs t (0, 0)) → ∃ cs', w'.heap[g]? = some (.cells cs' t (0, 0)) ∧ SoftC cs cs'
theorem SoftC.refl (cs : Array Value) : SoftC cs cs := fun i v h => ⟨v, h, .inl rfl⟩
theorem Soft.refl (w : World) : Soft w w := fun g cs t h => ⟨cs, h, SoftC.refl cs⟩
theorem Soft.trans {a b c : World} (h : Soft a b) (k : Soft b c) : Soft a c := fun g cs t hg => by
  obtain ⟨cs1, h1, s1⟩ := h g cs t hg
  obtain ⟨cs2, h2, s2⟩ := k g cs1 t h1
  exact ⟨cs2, h2, fun i v hv => by
    obtain ⟨v1, e1, t1⟩ := s1 i v hv
    obtain ⟨v2, e2, t2⟩ := s2 i v1 e1
    exact ⟨v2, e2, t1.trans t2⟩⟩
theorem Soft.no {w w' : World} (h : Step No w w') : Soft w w' := fun g cs t hg => ⟨cs, h.blk hg (fun f => f), SoftC.refl cs⟩
theorem Soft.set {w : World} {g i : Nat} {cs : Array Value} {t : TypeId} {x : Int} (hb : w.heap[g]? = some (.cells cs t (0, 0))) (hx : cs[i]? = some (.int .i64 x)) (y : Int) : Soft w (w.setCell ⟨g, i, none⟩ (.int .i64 y)) := fun k ks u hk => by
  by_cases hkg : k = g
  · subst hkg
    rw [hb] at hk
    injection hk with hk
    injection hk with e1 e2 e3
    subst e1 e2
    refine ⟨_, blk_set hb i _, fun j v hv => ?_⟩
    by_cases hji : j = i
    · subst hji
      rw [hx] at hv
      injection hv with hv
      subst hv
      have hlt := (Array.getElem?_eq_some_iff.1 hx).1
      exact ⟨_, by simp [Array.getElem?_setIfInBounds, hlt], .inr ⟨⟨x, rfl⟩, y, rfl⟩⟩
    · exact ⟨v, by rw [Array.getElem?_setIfInBounds, if_neg (fun e => hji e.symm)]; exact hv, .inl rfl⟩
  · exact ⟨ks, blk_set_other hk (fun e => hkg e.symm) _, SoftC.refl ks⟩
/-- What is written over from a place on. -/
def SP (base : Nat) (w w' : World) : Prop := Soft w w' ∧ Step (fun k => base ≤ k) w w'
theorem SP.refl (base : Nat) (w : World) : SP base w w := ⟨Soft.refl w, Step.refl _ w⟩
theorem SP.trans {base : Nat} {a b c : World} (h : SP base a b) (k : SP base b c) : SP base a c := ⟨h.1.trans k.1, h.2.trans k.2 (fun _ f _ => f)⟩
theorem SP.no {base : Nat} {a b : World} (h : Step No a b) : SP base a b := ⟨Soft.no h, h.none⟩
theorem SP.set {base : Nat} {w : World} {g i : Nat} {cs : Array Value} {t : TypeId} {x : Int} (hg : base ≤ g) (hb : w.heap[g]? = some (.cells cs t (0, 0))) (hx : cs[i]? = some (.int .i64 x)) (y : Int) : SP base w (w.setCell ⟨g, i, none⟩ (.int .i64 y)) :=
  ⟨Soft.set hb hx y, (Step.refl _ w).setCell (p := ⟨g, i, none⟩) (fun _ => hg) _⟩
/-- A row of one's own, as far as writing over needs it. -/
def Sh (sz : Nat) (R : World → (Nat → Option Value) → Prop) (base : Nat) (w : World) (v : Value) : Prop :=
  ∃ A n c, v = .slice A n c ∧ n ≤ maxLen ∧ ∀ j, j < n → ∃ g cs t, A = some ⟨g, 0, none⟩ ∧ base ≤ g ∧ w.heap[g]? = some (.cells cs t (0, 0)) ∧ R w (fun i => cs[j * sz + i]?)
def SoftF (f f' : Nat → Option Value) : Prop := ∀ (i : Nat) (v : Value), f i = some v → ∃ v', f' i = some v' ∧ SoftV v v'
def Mono (R : World → (Nat → Option Value) → Prop) : Prop := ∀ (w w' : World) (f f' : Nat → Option Value), Soft w w' → SoftF f f' → R w f → R w' f'
theorem Sh.soft {sz base : Nat} {R : World → (Nat → Option Value) → Prop} (hR : Mono R) {w w' : World} {v : Value} (h : Sh sz R base w v) (hs : Soft w w') : Sh sz R base w' v := by
  obtain ⟨A, n, c, rfl, hn, h⟩ := h
  refine ⟨A, n, c, rfl, hn, fun j hj => ?_⟩
  obtain ⟨g, cs, t, hA, hg, hb, hr⟩ := h j hj
  obtain ⟨cs', hb', hc⟩ := hs g cs t hb
  exact ⟨g, cs', t, hA, hg, hb', hR w w' _ _ hs (fun i v hv => hc _ v hv) hr⟩
theorem Sh.slice {sz base : Nat} {R : World → (Nat → Option Value) → Prop} {w : World} {v : Value} (h : Sh sz R base w v) : ∃ A n c, v = .slice A n c ∧ n ≤ maxLen := by
  obtain ⟨A, n, c, e, hn, _⟩ := h
  exact ⟨A, n, c, e, hn⟩
theorem Sh.at {sz base : Nat} {R : World → (Nat → Option Value) → Prop} {w : World} {A : Option Addr} {n c : Nat} (h : Sh sz R base w (.slice A n c)) (j : Nat) (hj : j < n) : ∃ g cs t, A = some ⟨g, 0, none⟩ ∧ base ≤ g ∧ w.heap[g]? = some (.cells cs t (0, 0)) ∧ R w (fun i => cs[j * sz + i]?) := by
  obtain ⟨A', n', c', e, _, h⟩ := h
  injection e with e1 e2 e3
  subst e1 e2
  exact h j hj
def hasInt (i : Nat) (f : Nat → Option Value) : Prop := ∃ x, f i = some (.int .i64 x)
theorem hasInt.soft {i : Nat} {f f' : Nat → Option Value} (h : hasInt i f) (hs : SoftF f f') : hasInt i f' := by
  obtain ⟨x, hx⟩ := h
  obtain ⟨v, hv, hsv⟩ := hs i _ hx
  obtain ⟨y, rfl⟩ := hsv.int
  exact ⟨y, hv⟩
def hasSh (i sz : Nat) (R : World → (Nat → Option Value) → Prop) (base : Nat) (w : World) (f : Nat → Option Value) : Prop := ∃ v, f i = some v ∧ Sh sz R base w v
theorem hasSh.soft {i sz base : Nat} {R : World → (Nat → Option Value) → Prop} (hR : Mono R) {w w' : World} {f f' : Nat → Option Value} (h : hasSh i sz R base w f) (hw : Soft w w') (hs : SoftF f f') : hasSh i sz R base w' f' := by
  obtain ⟨v, hv, h⟩ := h
  obtain ⟨v', hv', hsv⟩ := hs i _ hv
  obtain ⟨A, n, c, rfl, -⟩ := h.slice
  obtain rfl := hsv.slice
  exact ⟨_, hv', h.soft hR hw⟩
def RI (w : World) (f : Nat → Option Value) : Prop := hasInt 0 f
def RC (w : World) (f : Nat → Option Value) : Prop := hasInt 1 f
theorem monoI : Mono RI := fun w w' f f' hw hs h => hasInt.soft h hs
theorem monoC : Mono RC := fun w w' f f' hw hs h => hasInt.soft h hs
def ShI : Nat → World → Value → Prop := Sh 1 RI
def ShC : Nat → World → Value → Prop := Sh 3 RC
def RS (base : Nat) (w : World) (f : Nat → Option Value) : Prop := hasInt 1 f ∧ hasSh 5 1 RI base w f
def RN (base : Nat) (w : World) (f : Nat → Option Value) : Prop := hasInt 2 f ∧ hasSh 4 1 RI base w f
theorem monoS (base : Nat) : Mono (RS base) := fun w w' f f' hw hs h => ⟨hasInt.soft h.1 hs, hasSh.soft monoI h.2 hw hs⟩
theorem monoN (base : Nat) : Mono (RN base) := fun w w' f f' hw hs h => ⟨hasInt.soft h.1 hs, hasSh.soft monoI h.2 hw hs⟩
def ShS (base : Nat) : World → Value → Prop := Sh 6 (RS base) base
def ShN (base : Nat) : World → Value → Prop := Sh 5 (RN base) base
def RE (base : Nat) (w : World) (f : Nat → Option Value) : Prop := hasInt 1 f ∧ hasSh 2 3 RC base w f ∧ hasSh 3 6 (RS base) base w f
theorem monoE (base : Nat) : Mono (RE base) := fun w w' f f' hw hs h => ⟨hasInt.soft h.1 hs, hasSh.soft monoC h.2.1 hw hs, hasSh.soft (monoS base) h.2.2 hw hs⟩
def ShE (base : Nat) : World → Value → Prop := Sh 4 (RE base) base
/-- Rows of one's own are such rows. -/
theorem sh_row {β : Type} {T : TypeId} {sz base : Nat} {enc : β → List Value} {sub : World → β → Prop} {R : World → (Nat → Option Value) → Prop} (hz : 0 < sz) {w : World} {xs : List β} {v : Value} (h : RowO T sz base enc sub w xs v) (hl : ∀ a ∈ xs, (enc a).length = sz)
    (hR : ∀ a ∈ xs, ∀ f : Nat → Option Value, (∀ i u, (enc a)[i]? = some u → f i = some u) → sub w a → R w f) : Sh sz R base w v := by
  obtain ⟨h1, h2, h3⟩ := h
  have h' : SlR sz (fun w a cs => cs = enc a) w xs v := SlR.ofRow hz h1 hl (fun a _ => rfl)
  obtain ⟨A, c, rfl, hc1, hc2, h4⟩ := h'
  refine ⟨A, xs.length, c, rfl, Nat.le_trans hc1 hc2, fun j hj => ?_⟩
  obtain ⟨g, c', he, -, -⟩ := row_form h1 (by omega)
  injection he with he1 he2 he3
  subst he1
  obtain ⟨cs, hb⟩ := row_block h1 (k := g) rfl
  obtain ⟨ad, es, he, -, rfl, hcell⟩ := h4 j hj
  injection he with he
  subst he
  refine ⟨g, cs, T, rfl, h2 g rfl, hb, hR _ (List.getElem_mem hj) _ (fun i u hu => ?_) (h3 _ (List.getElem_mem hj))⟩
  have := hcell i u hu
  rw [show ((⟨g, 0, none⟩ : Addr).add (j * sz + i)) = ⟨g, j * sz + i, none⟩ by simp [Addr.add]; omega, blk_cell hb] at this
  exact this
theorem sh_ints {base : Nat} {w : World} {xs : List Int} {v : Value} (h : IntsR base w xs v) : ShI base w v := sh_row (by decide) h (fun a _ => rfl) (fun a _ f hf _ => ⟨a, hf 0 _ rfl⟩)
theorem sh_comps {base : Nat} {w : World} {xs : List CompD} {v : Value} (h : CompsW base w xs v) : ShC base w v := sh_row (by decide) h (fun a _ => rfl) (fun a _ f hf _ => ⟨a.n, hf 1 _ rfl⟩)
theorem sh_steps {base : Nat} {w : World} {xs : List (StepD × Value)} {v : Value} (h : StepsW base w xs v) : ShS base w v := sh_row (by decide) h (fun a _ => rfl) (fun a _ f hf hs => ⟨⟨a.1.id, hf 1 _ rfl⟩, a.2, hf 5 _ rfl, sh_ints hs⟩)
theorem sh_nodes {base : Nat} {w : World} {xs : List (NodeD × Value)} {v : Value} (h : NodesW base w xs v) : ShN base w v := sh_row (by decide) h (fun a _ => rfl) (fun a _ f hf hs => ⟨⟨a.1.fr, hf 2 _ rfl⟩, a.2, hf 4 _ rfl, sh_ints hs⟩)
theorem sh_entries {base : Nat} {w : World} {xs : List (EntryD × Value × Value)} {v : Value} (h : EntriesW base w xs v) : ShE base w v := sh_row (by decide) h (fun a _ => rfl) (fun a _ f hf hs => by
  obtain ⟨h1, ss, -, h2⟩ := hs
  exact ⟨⟨a.1.seq, hf 1 _ rfl⟩, ⟨_, hf 2 _ rfl, sh_comps h1⟩, _, hf 3 _ rfl, sh_steps h2⟩)
theorem sh_msg {base : Nat} {w : World} {m : MsgD} {ev env nv : Value} (h : MsgW base w m ev env nv) : ShC base w ev ∧ ShE base w env ∧ ShN base w nv := by
  obtain ⟨h1, ⟨es, _, h2⟩, ⟨ns, _, h3⟩, _⟩ := h
  exact ⟨sh_comps h1, sh_entries h2, sh_nodes h3⟩
end Go.Proofs.YtjeamfoicpgkhaaGreatDoor.Soft

/- What one owns is written over: the laws' own. -/
namespace Go.Proofs.YtjeamfoicpgkhaaGreatDoor.Spoil
open Go.RowKit Go.Lib Go.Proofs.YtjeamfoicpgkhaaGreatDoor.Mem Go.Proofs.YtjeamfoicpgkhaaGreatDoor.Read Go.Proofs.YtjeamfoicpgkhaaGreatDoor.Tree Go.Proofs.YtjeamfoicpgkhaaGreatDoor.Data Go.Proofs.YtjeamfoicpgkhaaGreatDoor.MsgR Go.Proofs.YtjeamfoicpgkhaaGreatDoor.Soft Go.Proofs.YtjeamfoicpgkhaaGreatDoor.TakeM
set_option linter.unusedVariables false
set_option linter.unusedSimpArgs false
def SpPost (base : Nat) (w : World) (e : Ending) (w' : World) : Prop := e = .returned (.tuple #[]) ∧ SP base w w'
set_option maxHeartbeats 2000000 in
theorem SpoilInts_any (base : Nat) (w : World) (v : Value) (h : ShI base w v) : Calls Tryz.prog 116 #[v] w (SpPost base w) := by
  obtain ⟨A, n, c, rfl, hn⟩ := Sh.slice h
  unfold maxLen at hn
  have H := Lib.hid h
  clear h
  go_enter Tryz.func116, Tryz.ntmps116
  go_wp2
  go_loopw [2] (fun i wr => ∃ k : Nat, k ≤ n ∧ i = .int .i64 k ∧ SP base w wr) (fun i _ => n - (RowKit.intOf i).toNat)
  case atStart => exact ⟨0, Nat.zero_le _, rfl, SP.refl _ _⟩
  case round =>
    obtain ⟨k, hk, rfl, hs⟩ := hrel
    by_cases hlt : k < n
    · obtain ⟨g, cs, t, rfl, hg, hb, x, hx⟩ := Sh.at (Sh.soft monoI H.out hs.1) k hlt
      have c0 : wr.cell? ⟨g, k, none⟩ = some (.int .i64 x) := by rw [blk_cell hb]; simpa using hx
      have f0 := blk_free hb (k)
      have hi1 : (k : Int) < n := by omega
      have hi0 : (0 : Int) ≤ k := by omega
      have HN : Hid (∀ y : Int, SP base w (wr.setCell ⟨g, k, none⟩ (.int .i64 y))) := Lib.hid fun y => hs.trans (SP.set hg hb (by simpa using hx) y)
      clear hb hx hs hg
      go_wp2
      go_roundw
      case rel => exact ⟨k + 1, hlt, by go_num, HN.out _⟩
      case measure => simp [RowKit.intOf]; omega
    · have hge : ¬ (k : Int) < n := by omega
      have HS := Lib.hid hs
      clear hs
      go_wp2
      go_end0
      exact ⟨rfl, HS.out⟩
set_option maxHeartbeats 2000000 in
theorem SpoilComps_any (base : Nat) (w : World) (v : Value) (h : ShC base w v) : Calls Tryz.prog 67 #[v] w (SpPost base w) := by
  obtain ⟨A, n, c, rfl, hn⟩ := Sh.slice h
  unfold maxLen at hn
  have H := Lib.hid h
  clear h
  go_enter Tryz.func67, Tryz.ntmps67
  go_wp2
  go_loopw [2] (fun i wr => ∃ k : Nat, k ≤ n ∧ i = .int .i64 k ∧ SP base w wr) (fun i _ => n - (RowKit.intOf i).toNat)
  case atStart => exact ⟨0, Nat.zero_le _, rfl, SP.refl _ _⟩
  case round =>
    obtain ⟨k, hk, rfl, hs⟩ := hrel
    by_cases hlt : k < n
    · obtain ⟨g, cs, t, rfl, hg, hb, x, hx⟩ := Sh.at (Sh.soft monoC H.out hs.1) k hlt
      have c0 : wr.cell? ⟨g, k * 3 + 1, none⟩ = some (.int .i64 x) := by rw [blk_cell hb]; simpa using hx
      have f0 := blk_free hb (k * 3 + 1)
      have hi1 : (k : Int) < n := by omega
      have hi0 : (0 : Int) ≤ k := by omega
      have HN : Hid (∀ y : Int, SP base w (wr.setCell ⟨g, k * 3 + 1, none⟩ (.int .i64 y))) := Lib.hid fun y => hs.trans (SP.set hg hb (by simpa using hx) y)
      clear hb hx hs hg
      go_wp2
      go_roundw
      case rel => exact ⟨k + 1, hlt, by go_num, HN.out _⟩
      case measure => simp [RowKit.intOf]; omega
    · have hge : ¬ (k : Int) < n := by omega
      have HS := Lib.hid hs
      clear hs
      go_wp2
      go_end0
      exact ⟨rfl, HS.out⟩
theorem cell_of {w : World} {g i : Nat} {cs : Array Value} {t : TypeId} {v : Value} (hb : w.heap[g]? = some (.cells cs t (0, 0))) (hv : cs[i]? = some v) : w.cell? ⟨g, i, none⟩ = some v := by rw [blk_cell hb]; exact hv
/-- A cell behind what was written over. -/
theorem int_behind {base : Nat} {w w2 : World} {g i : Nat} {cs : Array Value} {t : TypeId} {x : Int} (h : SP base w w2) (hb : w.heap[g]? = some (.cells cs t (0, 0))) (hx : cs[i]? = some (.int .i64 x)) : ∃ cs2 y, w2.heap[g]? = some (.cells cs2 t (0, 0)) ∧ cs2[i]? = some (.int .i64 y) := by
  obtain ⟨cs2, hb2, hc2⟩ := h.1 g cs t hb
  obtain ⟨v2, hx2, hv2⟩ := hc2 _ _ hx
  obtain ⟨y, rfl⟩ := hv2.int
  exact ⟨cs2, y, hb2, hx2⟩
theorem slice_behind {base : Nat} {w w2 : World} {g i : Nat} {cs : Array Value} {t : TypeId} {A : Option Addr} {n c : Nat} (h : SP base w w2) (hb : w.heap[g]? = some (.cells cs t (0, 0))) (hx : cs[i]? = some (.slice A n c)) : ∃ cs2, w2.heap[g]? = some (.cells cs2 t (0, 0)) ∧ cs2[i]? = some (.slice A n c) := by
  obtain ⟨cs2, hb2, hc2⟩ := h.1 g cs t hb
  obtain ⟨v2, hx2, hv2⟩ := hc2 _ _ hx
  obtain rfl := hv2.slice
  exact ⟨cs2, hb2, hx2⟩
set_option maxHeartbeats 2000000 in
theorem SpoilSteps_any (base : Nat) (w : World) (v : Value) (h : ShS base w v) : Calls Tryz.prog 115 #[v] w (SpPost base w) := by
  obtain ⟨A, n, c, rfl, hn⟩ := Sh.slice h
  unfold maxLen at hn
  have H := Lib.hid h
  clear h
  go_enter Tryz.func115, Tryz.ntmps115
  go_wp2
  go_loopw [2] (fun i wr => ∃ k : Nat, k ≤ n ∧ i = .int .i64 k ∧ SP base w wr) (fun i _ => n - (RowKit.intOf i).toNat)
  case atStart => exact ⟨0, Nat.zero_le _, rfl, SP.refl _ _⟩
  case round =>
    obtain ⟨k, hk, rfl, hs⟩ := hrel
    by_cases hlt : k < n
    · obtain ⟨g, cs, t, rfl, hg, hb, ⟨x, hx⟩, kv, hkv, hsh⟩ := Sh.at (Sh.soft (monoS base) H.out hs.1) k hlt
      obtain ⟨A', n', c', rfl, -⟩ := hsh.slice
      have c5 : wr.cell? ⟨g, k * 6 + 5, none⟩ = some (.slice A' n' c') := cell_of hb hkv
      have hi1 : (k : Int) < n := by omega
      have hi0 : (0 : Int) ≤ k := by omega
      have HB := Lib.hid hb
      have HX := Lib.hid hx
      have HS := Lib.hid hs
      have HSh := Lib.hid hsh
      clear hb hx hs hkv hsh
      go_wp2_with fail
      refine (SpoilInts_any base _ _ HSh.out).mono ?_
      rintro e w2 ⟨rfl, hs2⟩
      obtain ⟨cs2, y, hb2, hy⟩ := int_behind hs2 HB.out HX.out
      have c0 : w2.cell? ⟨g, k * 6 + 1, none⟩ = some (.int .i64 y) := cell_of hb2 hy
      have f0 := blk_free hb2 (k * 6 + 1)
      have HN : Hid (∀ z : Int, SP base w (w2.setCell ⟨g, k * 6 + 1, none⟩ (.int .i64 z))) := Lib.hid fun z => (HS.out.trans hs2).trans (SP.set hg hb2 hy z)
      clear hb2 hy hs2 hg c5
      go_wp2
      go_roundw
      case rel => exact ⟨k + 1, hlt, by go_num, HN.out _⟩
      case measure => simp [RowKit.intOf]; omega
    · have hge : ¬ (k : Int) < n := by omega
      have HS := Lib.hid hs
      clear hs
      go_wp2
      go_end0
      exact ⟨rfl, HS.out⟩
set_option maxHeartbeats 2000000 in
theorem SpoilEntries_any (base : Nat) (w : World) (v : Value) (h : ShE base w v) : Calls Tryz.prog 68 #[v] w (SpPost base w) := by
  obtain ⟨A, n, c, rfl, hn⟩ := Sh.slice h
  unfold maxLen at hn
  have H := Lib.hid h
  clear h
  go_enter Tryz.func68, Tryz.ntmps68
  go_wp2
  go_loopw [2] (fun i wr => ∃ k : Nat, k ≤ n ∧ i = .int .i64 k ∧ SP base w wr) (fun i _ => n - (RowKit.intOf i).toNat)
  case atStart => exact ⟨0, Nat.zero_le _, rfl, SP.refl _ _⟩
  case round =>
    obtain ⟨k, hk, rfl, hs⟩ := hrel
    by_cases hlt : k < n
    · obtain ⟨g, cs, t, rfl, hg, hb, ⟨x, hx⟩, ⟨ev, hev, hshC⟩, dv, hdv, hshS⟩ := Sh.at (Sh.soft (monoE base) H.out hs.1) k hlt
      obtain ⟨A', n', c', rfl, -⟩ := hshC.slice
      obtain ⟨A2, n2, c2, rfl, -⟩ := hshS.slice
      have c5 : wr.cell? ⟨g, k * 4 + 2, none⟩ = some (.slice A' n' c') := cell_of hb hev
      have hi1 : (k : Int) < n := by omega
      have hi0 : (0 : Int) ≤ k := by omega
      have HB := Lib.hid hb
      have HX := Lib.hid hx
      have HD := Lib.hid hdv
      have HS := Lib.hid hs
      have HC := Lib.hid hshC
      have HT := Lib.hid hshS
      clear hb hx hs hev hdv hshC hshS
      go_wp2_with fail
      refine (SpoilComps_any base _ _ HC.out).mono ?_
      rintro e w2 ⟨rfl, hs2⟩
      obtain ⟨cs2, hb2, hd2⟩ := slice_behind hs2 HB.out HD.out
      obtain ⟨cs2', y, hb2', hy⟩ := int_behind hs2 HB.out HX.out
      rw [hb2] at hb2'
      injection hb2' with hb2'
      injection hb2' with e1 e2 e3
      subst e1
      have c6 : w2.cell? ⟨g, k * 4 + 3, none⟩ = some (.slice A2 n2 c2) := cell_of hb2 hd2
      have HB2 := Lib.hid hb2
      have HY := Lib.hid hy
      have HS2 := Lib.hid (HS.out.trans hs2)
      have HT2 := Lib.hid (Sh.soft (monoS base) HT.out hs2.1)
      clear hb2 hy hs2 hd2 c5
      go_wp2_with fail
      refine (SpoilSteps_any base _ _ HT2.out).mono ?_
      rintro e w3 ⟨rfl, hs3⟩
      obtain ⟨cs3, z, hb3, hz⟩ := int_behind hs3 HB2.out HY.out
      have c0 : w3.cell? ⟨g, k * 4 + 1, none⟩ = some (.int .i64 z) := cell_of hb3 hz
      have f0 := blk_free hb3 (k * 4 + 1)
      have HN : Hid (∀ z : Int, SP base w (w3.setCell ⟨g, k * 4 + 1, none⟩ (.int .i64 z))) := Lib.hid fun u => (HS2.out.trans hs3).trans (SP.set hg hb3 hz u)
      clear hb3 hz hs3 hg c6
      go_wp2
      go_roundw
      case rel => exact ⟨k + 1, hlt, by go_num, HN.out _⟩
      case measure => simp [RowKit.intOf]; omega
    · have hge : ¬ (k : Int) < n := by omega
      have HS := Lib.hid hs
      clear hs
      go_wp2
      go_end0
      exact ⟨rfl, HS.out⟩
set_option maxHeartbeats 4000000 in
theorem SpoilTree_any (base : Nat) (w : World) (rt nx : Int) (v : Value) (hle : base ≤ w.heap.size) (h : ShN base w v) : Calls Tryz.prog 69 #[.agg #[.int .i64 rt, .int .i64 nx, v]] w (SpPost base w) := by
  obtain ⟨A, n, c, rfl, hn⟩ := Sh.slice h
  unfold maxLen at hn
  have H := Lib.hid h
  clear h
  go_enter Tryz.func69, Tryz.ntmps69
  go_upto_region 1 with (fail)
  generalize hW : World.alloc w _ = w1 at *
  have HB1 := Lib.hid (show w1.heap[w.heap.size]? = some (.cells #[.int .i64 rt, .int .i64 nx, .slice A n c] 26 (0, 0)) by rw [← hW]; exact blk_new w _)
  have HS1 : Hid (SP base w w1) := Lib.hid (SP.no (by rw [← hW]; exact (Step.refl No w).alloc _))
  clear hW
  go_wp2
  go_loopw [2] (fun i wr => ∃ k : Nat, k ≤ n ∧ i = .int .i64 k ∧ SP base w1 wr) (fun i _ => n - (RowKit.intOf i).toNat)
  case atStart => exact ⟨0, Nat.zero_le _, rfl, SP.refl _ _⟩
  case round =>
    obtain ⟨k, hk, rfl, hs⟩ := hrel
    obtain ⟨csb, hbb, hb2⟩ := slice_behind (i := 2) hs HB1.out rfl
    have b2 : wr.cell? ⟨w.heap.size, 2, none⟩ = some (.slice A n c) := cell_of hbb hb2
    by_cases hlt : k < n
    · obtain ⟨g, cs, t, rfl, hg, hb, ⟨x, hx⟩, kv, hkv, hsh⟩ := Sh.at (Sh.soft (monoN base) H.out (HS1.out.trans hs).1) k hlt
      obtain ⟨A', n', c', rfl, -⟩ := hsh.slice
      have c5 : wr.cell? ⟨g, k * 5 + 4, none⟩ = some (.slice A' n' c') := cell_of hb hkv
      have hi1 : (k : Int) < n := by omega
      have hi0 : (0 : Int) ≤ k := by omega
      have HB := Lib.hid hb
      have HX := Lib.hid hx
      have HS := Lib.hid hs
      have HSh := Lib.hid hsh
      have HBb := Lib.hid hbb
      have HBc := Lib.hid hb2
      clear hb hx hs hkv hsh hbb hb2
      go_wp2_with fail
      refine (SpoilInts_any base _ _ HSh.out).mono ?_
      rintro e w2 ⟨rfl, hs2⟩
      obtain ⟨cs2, y, hb2, hy⟩ := int_behind hs2 HB.out HX.out
      obtain ⟨cs3, hb3, hy3⟩ := slice_behind hs2 HBb.out HBc.out
      have c0 : w2.cell? ⟨g, k * 5 + 2, none⟩ = some (.int .i64 y) := cell_of hb2 hy
      have f0 := blk_free hb2 (k * 5 + 2)
      have b3 : w2.cell? ⟨w.heap.size, 2, none⟩ = some (.slice (some ⟨g, 0, none⟩) n c) := cell_of hb3 hy3
      have HN : Hid (∀ (m : Nat) (z : Int), SP base w1 ((w2.drewN m).setCell ⟨g, k * 5 + 2, none⟩ (.int .i64 z))) := Lib.hid fun m z => (HS.out.trans (hs2.trans (SP.no ((Step.refl No w2).drewN m)))).trans (SP.set hg (((Step.refl No w2).drewN m).blk hb2 (fun f => f)) hy z)
      have HN1 : Hid (∀ (z : Int), SP base w1 (w2.drew.setCell ⟨g, k * 5 + 2, none⟩ (.int .i64 z))) := Lib.hid fun z => (HS.out.trans (hs2.trans (SP.no ((Step.refl No w2).drew)))).trans (SP.set hg (((Step.refl No w2).drew).blk hb2 (fun f => f)) hy z)
      clear hb2 hy hs2 hg c5 b2 hb3 hy3
      go_upto_region 5 with (fail)
      go_region
      all_goals
        go_wp2
        go_roundw
        case rel => exact ⟨k + 1, hlt, by go_num, by first | exact HN1.out _ | exact HN.out _ _⟩
        case measure => simp [RowKit.intOf]; omega
    · have hge : ¬ (k : Int) < n := by omega
      have HS := Lib.hid (HS1.out.trans hs)
      clear hs hbb hb2
      go_wp2
      go_end0
      exact ⟨rfl, HS.out⟩
set_option maxHeartbeats 4000000 in
theorem SpoilMsg_any (base : Nat) (w : World) (m : MsgD) (ev env nv : Value) (hle : base ≤ w.heap.size) (hC : ShC base w ev) (hE : ShE base w env) (hN : ShN base w nv) : Calls Tryz.prog 20 #[.agg (msgCells m ev env nv)] w (SpPost base w) := by
  obtain ⟨A1, n1, c1, rfl, -⟩ := Sh.slice hC
  obtain ⟨A2, n2, c2, rfl, -⟩ := Sh.slice hE
  obtain ⟨A3, n3, c3, rfl, -⟩ := Sh.slice hN
  obtain ⟨k, cl, rv, sq, fm, ls, rf, es, en, tx, ⟨rt, nx, ns⟩⟩ := m
  unfold msgCells
  simp only
  have HC := Lib.hid hC
  have HE := Lib.hid hE
  have HN := Lib.hid hN
  clear hC hE hN
  go_enter Tryz.func20, Tryz.ntmps20
  go_upto_region 1 with (fail)
  generalize hW : World.alloc w _ = w1 at *
  have HB1 := Lib.hid (show w1.heap[w.heap.size]? = some _ by rw [← hW]; exact blk_new w _)
  have HS1 : Hid (SP base w w1) := Lib.hid (SP.no (by rw [← hW]; exact (Step.refl No w).alloc _))
  have hz : w.heap.size ≤ w1.heap.size := by rw [← hW]; simp
  have a7 := blk_cell HB1.out 7
  simp at a7
  clear hW
  go_wp2_with fail
  refine (SpoilComps_any base _ _ (Sh.soft monoC HC.out HS1.out.1)).mono ?_
  rintro e w2 ⟨rfl, hs2⟩
  obtain ⟨ca, hba, ha⟩ := slice_behind (i := 8) hs2 HB1.out rfl
  obtain ⟨cb, r10, hbb, hb⟩ := int_behind (i := 10) hs2 HB1.out rfl
  obtain ⟨cc, r11, hbc, hc⟩ := int_behind (i := 11) hs2 HB1.out rfl
  obtain ⟨cd, hbd, hd⟩ := slice_behind (i := 12) hs2 HB1.out rfl
  have a8 := cell_of hba ha
  have HS2 := Lib.hid (HS1.out.trans hs2)
  have hz2 := Nat.le_trans hz hs2.2.size
  have G1 := Lib.hid (And.intro hbb hb)
  have G2 := Lib.hid (And.intro hbc hc)
  have G3 := Lib.hid (And.intro hbd hd)
  clear hs2 hba ha hbb hb hbc hc hbd hd a7
  go_wp2_with fail
  refine (SpoilEntries_any base _ _ (Sh.soft (monoE base) HE.out HS2.out.1)).mono ?_
  rintro e w3 ⟨rfl, hs3⟩
  obtain ⟨cb, r10, hbb, hb⟩ := int_behind hs3 G1.out.1 G1.out.2
  obtain ⟨cc, r11, hbc, hc⟩ := int_behind hs3 G2.out.1 G2.out.2
  obtain ⟨cd, hbd, hd⟩ := slice_behind hs3 G3.out.1 G3.out.2
  have a10 := cell_of hbb hb
  have a11 := cell_of hbc hc
  have a12 := cell_of hbd hd
  have HS3 := Lib.hid (HS2.out.trans hs3)
  have hz3 := Nat.le_trans hle (Nat.le_trans hz2 hs3.2.size)
  clear hs3 hbb hb hbc hc hbd hd a8 G1 G2 G3
  go_wp2_with fail
  refine (SpoilTree_any base _ r10 r11 _ hz3 (Sh.soft (monoN base) HN.out HS3.out.1)).mono ?_
  rintro e w4 ⟨rfl, hs4⟩
  have HS4 := Lib.hid (HS3.out.trans hs4)
  clear hs4
  go_wp2
  go_end0
  exact ⟨rfl, HS4.out⟩
end Go.Proofs.YtjeamfoicpgkhaaGreatDoor.Spoil
