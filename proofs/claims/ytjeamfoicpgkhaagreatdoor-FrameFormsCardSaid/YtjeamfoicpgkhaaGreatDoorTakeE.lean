/- An entry, taken from a text. -/
import Derived.Test.YtjeamfoicpgkhaaGreatDoorEachC
import Derived.Test.YtjeamfoicpgkhaaGreatDoorEachS
namespace Go.Proofs.YtjeamfoicpgkhaaGreatDoor.TakeE
open Go.RowKit Go.Lib Go.Proofs.YtjeamfoicpgkhaaGreatDoor.Mem Go.Proofs.YtjeamfoicpgkhaaGreatDoor.Read Go.Proofs.YtjeamfoicpgkhaaGreatDoor.Tree Go.Proofs.YtjeamfoicpgkhaaGreatDoor.Data Go.Proofs.YtjeamfoicpgkhaaGreatDoor.Env Go.Proofs.YtjeamfoicpgkhaaGreatDoor.Take Go.Proofs.YtjeamfoicpgkhaaGreatDoor.Taker Go.Proofs.YtjeamfoicpgkhaaGreatDoor.Pk Go.Proofs.YtjeamfoicpgkhaaGreatDoor.PkR Go.Proofs.YtjeamfoicpgkhaaGreatDoor.OwnR Go.Proofs.YtjeamfoicpgkhaaGreatDoor.Each Go.Proofs.YtjeamfoicpgkhaaGreatDoor.EachS Go.Proofs.YtjeamfoicpgkhaaGreatDoor.MsgR Go.Proofs.YtjeamfoicpgkhaaGreatDoor.CompR
open Go.Proofs.YtjeamfoicpgkhaaGreatDoor.Writer (EnvS)
open Go.Proofs.YtjeamfoicpgkhaaGreatDoor.TakeS (TS)
set_option linter.unusedVariables false
set_option linter.unusedSimpArgs false
abbrev TE : TypeId := 54
/-- Cells laid one behind the other. -/
def sets (w : World) (r : Nat) : Nat → List Value → World
  | _, [] => w
  | i, v :: vs => sets (w.setCell ⟨r, i, none⟩ v) r (i + 1) vs
theorem sets_blk {r : Nat} {T : TypeId} : ∀ (vs pre old : List Value) (w : World), w.heap[r]? = some (.cells ⟨pre ++ old⟩ T (0, 0)) → old.length = vs.length → (sets w r pre.length vs).heap[r]? = some (.cells ⟨pre ++ vs⟩ T (0, 0))
  | [], pre, old, w, h, hl => by
      obtain rfl : old = [] := List.length_eq_zero_iff.1 hl
      exact h
  | v :: vs, pre, [], w, h, hl => by simp at hl
  | v :: vs, pre, o :: old, w, h, hl => by
      have h1 := blk_set h pre.length v
      have e : (⟨pre ++ o :: old⟩ : Array Value).setIfInBounds pre.length v = ⟨(pre ++ [v]) ++ old⟩ := by simp
      rw [e] at h1
      have h2 := sets_blk vs (pre ++ [v]) old _ h1 (by simpa using hl)
      simpa [sets] using h2
theorem sets_step (r : Nat) : ∀ (vs : List Value) (w : World) (i : Nat), Step (fun k => k = r) w (sets w r i vs)
  | [], w, i => Step.refl _ w
  | v :: vs, w, i => by
      have h1 : Step (fun k => k = r) w (w.setCell ⟨r, i, none⟩ v) := by refine set_at (Step.refl _ _) ?_ _ <;> rfl
      exact h1.trans (sets_step r vs _ (i + 1)) (fun _ f _ => f)
/-- A struct under way: its result's place, its own, and the taker. -/
structure EB (T : TypeId) (z : Array Value) (w : World) (b r s : Nat) (cs : Array Value) (st : St) (wr : World) : Prop where
  res : wr.heap[r]? = some (.cells z T (0, 0))
  own : wr.heap[s]? = some (.cells cs T (0, 0))
  tk : TK w b st wr
  rs : w.heap.size ≤ r ∧ w.heap.size ≤ s ∧ r ≠ s
section
variable {T : TypeId} {z : Array Value} {w wr w2 : World} {b r s : Nat} {cs : Array Value} {st st' : St}
theorem EB.next (hT : T ≠ TT) (h : EB T z w b r s cs st wr) (ht : TK wr b st' w2) : EB T z w b r s cs st' w2 := ⟨res_at h.res h.tk.blk hT ht.2, res_at h.own h.tk.blk hT ht.2, ⟨ht.1, h.tk.2.trans ht.2 (fun _ f _ => f)⟩, h.rs⟩
theorem EB.store (hT : T ≠ TT) (h : EB T z w b r s cs st wr) (i : Nat) (v : Value) : EB T z w b r s (cs.setIfInBounds i v) st (wr.setCell ⟨s, i, none⟩ v) := ⟨blk_set_other h.res (fun e => h.rs.2.2 e.symm) _, blk_set h.own i v, tk_store h.tk h.own hT h.rs.2.1 i v, h.rs⟩
theorem EB.born (hT : T ≠ TT) (hr : wr.heap[r]? = some (.cells z T (0, 0))) (ht : TK w b st wr) (hle : w.heap.size ≤ r) : EB T z w b r wr.heap.size cs st (wr.alloc (.cells cs T)) :=
  ⟨blk_alloc hr _, blk_new _ _, ht.no (Step.alloc (Step.refl _ _) _), hle, ht.2.size, Nat.ne_of_lt (blk_lt hr)⟩
theorem EB.types (h : EB T z w b r s cs st wr) {Ts : TypeId → Prop} {base : Nat} (hT : Ts T) : Types Ts base wr (fun k => k = s) := Types.at h.own hT
/-- The result laid. -/
theorem EB.done (hT : T ≠ TT) (h : EB T z w b r s cs st wr) (vs : List Value) (hl : z.size = vs.length) : (sets wr r 0 vs).heap[r]? = some (.cells ⟨vs⟩ T (0, 0)) ∧ TK w b st (sets wr r 0 vs) ∧ Step (fun k => k = r) wr (sets wr r 0 vs) := by
  have hs := sets_step r vs wr 0
  refine ⟨?_, ⟨h.tk.1.step hs (blk_ne h.tk.blk h.res (fun e => hT e.symm)), h.tk.2.trans hs (fun k f hk => absurd f (by have := h.rs.1; omega))⟩, hs⟩
  have := sets_blk vs [] z.toList wr (by simpa using h.res) (by simpa using hl)
  simpa using this
end
theorem comps_slice {base : Nat} {w : World} {xs : List CompD} {v : Value} (h : CompsW base w xs v) : ∃ A n c, v = .slice A n c := by obtain ⟨A, c, e, _⟩ := row_slice h.1; exact ⟨A, _, c, e⟩
theorem steps_slice {base : Nat} {w : World} {xs : List (StepD × Value)} {v : Value} (h : StepsW base w xs v) : ∃ A n c, v = .slice A n c := by obtain ⟨A, c, e, _⟩ := row_slice h.1; exact ⟨A, _, c, e⟩
theorem comps_base {base base' : Nat} {w : World} {xs : List CompD} {v : Value} (h : CompsW base w xs v) (hb : base' ≤ base) : CompsW base' w xs v := ⟨h.1, fun k hk => Nat.le_trans hb (h.2.1 k hk), h.2.2⟩
theorem steps_base {base base' : Nat} {w : World} {xs : List (StepD × Value)} {v : Value} (h : StepsW base w xs v) (hb : base' ≤ base) : StepsW base' w xs v := ⟨h.1, fun k hk => Nat.le_trans hb (h.2.1 k hk), fun a ha => ints_base (h.2.2 a ha) hb⟩
theorem comps_go {base : Nat} {F : Nat → Prop} {w w' : World} {xs : List CompD} {v : Value} (h : CompsW base w xs v) (hs : Step F w w') (hF : Types (fun t => t ≠ TC) base w F) : CompsW base w' xs v := RowO.step (stabC base) h hs (hF.mono fun _ h => ⟨h, trivial⟩)
theorem steps_go {base : Nat} {F : Nat → Prop} {w w' : World} {xs : List (StepD × Value)} {v : Value} (h : StepsW base w xs v) (hs : Step F w w') (hF : Types (fun t => t ≠ TS ∧ t ≠ TI) base w F) : StepsW base w' xs v := RowO.step (stabS base) h hs (hF.mono fun _ h => ⟨h.1, h.2, trivial⟩)
def subE (base : Nat) (w : World) (p : EntryD × Value × Value) : Prop := CompsW base w p.1.edit p.2.1 ∧ ∃ ss : List (StepD × Value), ss.map (·.1) = p.1.delta ∧ StepsW base w ss p.2.2
def TsE (t : TypeId) : Prop := t ≠ TC ∧ t ≠ TS ∧ t ≠ TI
theorem stabE (base : Nat) : Stable TsE base (subE base) := fun F w w' a h hs hF => by
  obtain ⟨h1, ss, h2, h3⟩ := h
  exact ⟨comps_go h1 hs (hF.mono fun _ h => h.1), ss, h2, steps_go h3 hs (hF.mono fun _ h => h.2)⟩
theorem subE.base {base base' : Nat} {w : World} {p : EntryD × Value × Value} (h : subE base w p) (hb : base' ≤ base) : subE base' w p := by
  obtain ⟨h1, ss, h2, h3⟩ := h
  exact ⟨comps_base h1 hb, ss, h2, steps_base h3 hb⟩
def EntryPost (w : World) (b : Nat) (st : St) (e : Ending) (w' : World) : Prop := ∃ ev dv, e = .returned (.agg #[.int .i64 (digR 44 st).1, .int .i64 (digR 44 (digR 44 st).2).1, ev, dv]) ∧ subE w.heap.size w' ((takeE st).1, ev, dv) ∧ TK w b (takeE st).2 w'
def eZ : Array Value := #[.int .i64 0, .int .i64 0, .slice none 0 0, .slice none 0 0]
theorem tE : TE ≠ TT := by decide
set_option maxHeartbeats 4000000 in
theorem entry_any (w : World) (b : Nat) (st : St) (h : TRep w b st) (hE : EnvS (fun k => k = b) w) : Calls Tryz.prog 94 #[.pointer (some ⟨b, 0, none⟩)] w (EntryPost w b st) := by
  have hs1 : Step No w (w.alloc (.cells eZ TE)) := Step.alloc (Step.refl _ _) _
  have HT := Lib.hid ((TK.start h).no hs1)
  have HR1 : Hid ((w.alloc (.cells eZ TE)).heap[w.heap.size]? = some (.cells eZ TE (0, 0))) := Lib.hid (blk_new _ _)
  have HE := Lib.hid hE
  clear hE h hs1
  simp only [eZ] at HT HR1
  go_enter Tryz.func94, Tryz.ntmps94
  go_wp2_with fail
  generalize hW : World.alloc w _ = w1 at *
  clear hW
  have HL : Hid (w.heap.size ≤ w.heap.size) := Lib.hid (Nat.le_refl _)
  generalize hr : w.heap.size = r at *
  have HRz := Lib.hid hr
  clear hr
  refine (Num_any _ b st HT.out.1 (HE.out _ HT.out.2)).mono ?_
  rintro e w2 hp
  obtain ⟨rfl, ht2⟩ := HT.out.next hp
  have HB := Lib.hid (EB.born (cs := #[.int .i64 (digR 44 st).1, .int .i64 0, .slice none 0 0, .slice none 0 0]) tE (res_at HR1.out HT.out.blk (by decide) hp.2.2) ht2 (by rw [HRz.out]; exact Nat.le_refl _))
  clear hp ht2
  go_wp2_with fail
  generalize hW : World.alloc w2 _ = w3 at *
  generalize hs : w2.heap.size = s at *
  clear hW hs
  refine (Num_any _ b _ HB.out.tk.1 (HE.out _ HB.out.tk.2)).mono ?_
  rintro e w4 hp
  obtain ⟨rfl, ht4⟩ := (TK.start HB.out.tk.1).next hp
  have HB4 := Lib.hid (HB.out.next tE ht4)
  have HB5 := Lib.hid (HB4.out.store tE 1 (.int .i64 (digR 44 (digR 44 st).2).1))
  have d1 := blk_cell HB4.out.own 1
  have f1 := blk_free HB4.out.own 1
  simp at d1 HB5
  clear hp ht4 HB HB4
  go_wp2_with fail
  generalize hW : World.setCell w4 _ _ = w5 at *
  clear hW
  refine (eachComp_any _ b _ HB5.out.tk.1 (fun w' hs => HE.out w' (HB5.out.tk.2.trans hs (fun _ f _ => f)))).mono ?_
  rintro e w6 ⟨ev, xs, rfl, hxs, hrow, ht6⟩
  rw [List.map_id] at hxs
  subst hxs
  have HB6 := Lib.hid (HB5.out.next tE ht6)
  have HC6 := Lib.hid (comps_base hrow HB5.out.tk.2.size)
  obtain ⟨A6, n6, c6, rfl⟩ := comps_slice hrow
  have HB7 := Lib.hid (HB6.out.store tE 2 (.slice A6 n6 c6))
  have HC7 := Lib.hid (comps_go HC6.out (w' := w6.setCell ⟨s, 2, none⟩ (.slice A6 n6 c6)) (F := fun k => k = s) (by refine set_at (Step.refl _ _) ?_ _ <;> rfl) (HB6.out.types (by decide)))
  have d2 := blk_cell HB6.out.own 2
  have f2 := blk_free HB6.out.own 2
  simp at d2 HB7
  clear hrow ht6 HB5 HB6 HC6
  go_wp2_with fail
  generalize hW : World.setCell w6 _ _ = w7 at *
  clear hW
  refine (eachStep_any _ b _ HB7.out.tk.1 (fun w' hs => HE.out w' (HB7.out.tk.2.trans hs (fun _ f _ => f)))).mono ?_
  rintro e w8 ⟨dv, ss, rfl, hss, hrow, ht8⟩
  have HB8 := Lib.hid (HB7.out.next tE ht8)
  have HC8 := Lib.hid (comps_go HC7.out ht8.2 (taker_types HB7.out.tk (by decide)))
  have HS8 := Lib.hid (steps_base hrow HB7.out.tk.2.size)
  have HSS := Lib.hid hss
  obtain ⟨A8, n8, c8, rfl⟩ := steps_slice hrow
  have hs9 : Step (fun k => k = s) w8 (w8.setCell ⟨s, 3, none⟩ (.slice A8 n8 c8)) := by refine set_at (Step.refl _ _) ?_ _ <;> rfl
  have HB9 := Lib.hid (HB8.out.store tE 3 (.slice A8 n8 c8))
  have HC9 := Lib.hid (comps_go HC8.out hs9 (HB8.out.types (by decide)))
  have HS9 := Lib.hid (steps_go HS8.out hs9 (HB8.out.types (by decide)))
  simp at HB9
  have HD := Lib.hid (HB9.out.done tE [.int .i64 (digR 44 st).1, .int .i64 (digR 44 (digR 44 st).2).1, .slice A6 n6 c6, .slice A8 n8 c8] rfl)
  have HC := Lib.hid (comps_go HC9.out HD.out.2.2 (Types.at HB9.out.res (by decide)))
  have HS := Lib.hid (steps_go HS9.out HD.out.2.2 (Types.at HB9.out.res (by decide)))
  have d3 := blk_cell HB8.out.own 3
  have f3 := blk_free HB8.out.own 3
  have g0 := blk_cell HB9.out.own 0
  have g1 := blk_cell HB9.out.own 1
  have g2 := blk_cell HB9.out.own 2
  have g3 := blk_cell HB9.out.own 3
  have k0 := blk_cell HB9.out.res 0
  have k1 := blk_cell HB9.out.res 1
  have k2 := blk_cell HB9.out.res 2
  have k3 := blk_cell HB9.out.res 3
  have y0 := blk_free HB9.out.res 0
  have y1 := blk_free HB9.out.res 1
  have y2 := blk_free HB9.out.res 2
  have y3 := blk_free HB9.out.res 3
  simp at d3 g0 g1 g2 g3 k0 k1 k2 k3
  obtain ⟨-, -, hne⟩ := HB9.out.rs
  have hne2 : ¬ s = r := fun e => hne e.symm
  simp only [sets, Nat.reduceAdd] at HD HC HS
  clear hrow ht8 hss hs9 HB7 HB8 HC7 HC8 HS8 HC9 HS9
  go_wp2
  generalize World.setCell (World.setCell (World.setCell (World.setCell (World.setCell w8 _ _) ⟨r, 0, none⟩ _) ⟨r, 1, none⟩ _) ⟨r, 2, none⟩ _) ⟨r, 3, none⟩ _ = W at *
  have r0 := blk_cell HD.out.1 0
  have r1 := blk_cell HD.out.1 1
  have r2 := blk_cell HD.out.1 2
  have r3 := blk_cell HD.out.1 3
  simp at r0 r1 r2 r3
  exact bodyPost_ret (by simp [results, Tryz.results94, go_sem, r0, r1, r2, r3]) rfl ⟨_, _, rfl, ⟨HC.out, ss, HSS.out, HS.out⟩, HD.out.2.1⟩
theorem infoE : (Tryz.prog.info? TE).map (fun i => (i.zero, i.size, i.bytes)) = some (some (.agg #[.int .i64 0, .int .i64 0, .slice none 0 0, .slice none 0 0]), 4, 64) := by kernel_rfl
def encE (p : EntryD × Value × Value) : List Value := entryCells p.1 p.2.1 p.2.2
abbrev EntriesW (base : Nat) : World → List (EntryD × Value × Value) → Value → Prop := RowO TE 4 base encE (subE base)
theorem sub_slices {base : Nat} {w : World} {p : EntryD} {ev dv : Value} (h : subE base w (p, ev, dv)) : ∃ A n c B m d, ev = .slice A n c ∧ dv = .slice B m d := by
  obtain ⟨h1, ss, _, h2⟩ := h
  obtain ⟨A, n, c, e⟩ := comps_slice h1
  obtain ⟨B, m, d, e2⟩ := steps_slice h2
  exact ⟨A, n, c, B, m, d, e, e2⟩
theorem subE_new {base : Nat} {w : World} {p : EntryD × Value × Value} (h : subE base w p) (o : Obj) : subE base (w.alloc o) p := stabE base No _ _ _ h (Step.alloc (Step.refl No w) o) (Types.no _ _ _)

set_option maxHeartbeats 8000000 in
theorem eachEntry_any (w : World) (b : Nat) (st0 : St) (h : TRep w b st0) (hE : EnvS (fun k => k = b) w) :
    Calls Tryz.prog 93 #[.pointer (some ⟨b, 0, none⟩), .func (.func 94) #[.pointer (some ⟨b, 0, none⟩)] #[]] w (EachPost w b takeE (fun p : EntryD × Value × Value => p.1) (EntriesW w.heap.size) st0) := by
  have HT := Lib.hid (TK.start h)
  have HE := Lib.hid hE
  clear hE h
  go_enter Tryz.func93, Tryz.ntmps93
  go_wp2_with fail
  refine (Num_any _ b st0 HT.out.1 (HE.out _ HT.out.2)).mono ?_
  rintro e w1 hp
  obtain ⟨rfl, ht⟩ := HT.out.next hp
  have hsm := dig_small 44 st0
  obtain ⟨d, hd⟩ : ∃ d, digR 44 st0 = d := ⟨_, rfl⟩
  have HD := Lib.hid hd
  rw [hd] at ht hsm ⊢
  obtain ⟨dn, dst⟩ := d
  simp only at ht hsm ⊢
  obtain ⟨n, hn⟩ : ∃ n : Nat, dn = n := ⟨dn.toNat, by have := hsm.1; omega⟩
  subst hn
  have hn9 : n < 1000000000 := by have := hsm.2; omega
  have HN : Hid (eachR takeE st0 = eachN takeE n dst) := Lib.hid (by unfold eachR; rw [HD.out]; rfl)
  have H1 : Hid (ER w b takeE (fun p : EntryD × Value × Value => p.1) (EntriesW w.heap.size) n dst 0 (.slice none 0 0) w1) := Lib.hid ⟨dst, [], Nat.zero_le _, rfl, by simp, RowO.nil _, ht⟩
  clear hp hd ht hsm
  go_wp2
  go_loopw [5, 7] (fun v i wr => ∃ k : Nat, i = .int .i64 k ∧ ER w b takeE (fun p : EntryD × Value × Value => p.1) (EntriesW w.heap.size) n dst k v wr) (fun _ i _ => n - (RowKit.intOf i).toNat)
  case atStart => exact ⟨0, rfl, H1.out⟩
  case round =>
    obtain ⟨k, rfl, st, xs, hk, hxl, hev, hrow, ht⟩ := hrel
    have t1 : wr.cell? ⟨b, 1, none⟩ = some (.bool st.2) := blk_cell ht.blk 1
    obtain ⟨A, c, rfl, -, -⟩ := row_slice hrow.1
    by_cases hlt : k < n
    · have hk1 : (k : Int) < n := by omega
      cases hb : st.2 with
      | true =>
        rw [hb] at t1
        have HB := Lib.hid hb
        have Hhev := Lib.hid hev
        have Hhrow := Lib.hid hrow
        have Hht := Lib.hid ht
        have Hhxl := Lib.hid hxl
        have Hhb := Lib.hid hb
        clear hev hrow ht hxl hb
        go_wp2
        go_ret
        exact each_end HN.out Hhev.out Hhrow.out Hht.out (.inl HB.out)
      | false =>
        rw [hb] at t1
        have HB := Lib.hid hb
        have hxn : xs.length < 1000000000 := by omega
        have Hbase : Hid (w.heap.size ≤ wr.heap.size) := Lib.hid ht.2.size
        have Hhev := Lib.hid hev
        have Hhrow := Lib.hid hrow
        have Hht := Lib.hid ht
        have Hhxl := Lib.hid hxl
        have Hhb := Lib.hid hb
        clear hev hrow ht hxl hb
        go_wp2_with fail
        refine (entry_any _ b st Hht.out.1 (fun w' hs => HE.out w' (Hht.out.2.trans hs (fun _ f _ => f)))).mono ?_
        rintro e w2 hp
        obtain ⟨ev, dv, rfl, hi, ht3⟩ := hp; obtain ⟨Ae, ne, ce, Ad, nd, cd, rfl, rfl⟩ := sub_slices hi; have hp2 := ht3.2; have ht2 : TK w b (takeE st).2 w2 := ⟨ht3.1, Hht.out.2.trans hp2 (fun _ f _ => f)⟩; have hx2 := hi.base Hbase.out; clear hi ht3
        have HR2 := Lib.hid (RowO.step (stabE _) Hhrow.out hp2 (taker_types Hht.out ⟨by decide, by decide, by decide, by decide⟩))
        have HB2 : Hid (w.heap.size ≤ w2.heap.size) := Lib.hid ht2.2.size
        have Hht2 := Lib.hid ht2
        have Hhx2 := Lib.hid hx2
        clear ht2 hx2
        clear hp2 t1
        go_wp2_with (at_builtin; go_loud (refine list_append_own _ rfl (.tmp 22) (.tmp 25) 23 TE _ 4 64 rfl Tryz.underlying23 infoE rfl (by decide) (.slice A xs.length c) xs.length (xs.flatMap encE) rfl (by exact HR2.out.1.alloc _) ⟨w2.heap.size, 0, none⟩ 1 1 [.int .i64 (digR 44 st).1, .int .i64 (digR 44 (digR 44 st).2).1, .slice Ae ne ce, .slice Ad nd cd] rfl rfl (by exact cells_new w2 #[.int .i64 (digR 44 st).1, .int .i64 (digR 44 (digR 44 st).2).1, .slice Ae ne ce, .slice Ad nd cd] TE) (by simp [Value.oneCell']) (by unfold maxLen; omega) (by omega) ?_; intro v5 w5 hown hg hat; have HT5 := Lib.hid (Hht2.out.grown HR2.out.1 (by decide) HR2.out.2.1 hg); have HR5 := Lib.hid (RowO.next (stabE _) ⟨by decide, by decide, by decide⟩ (HR2.out.no (stabE _) (Step.alloc (Step.refl No w2) _)) (Nat.le_trans HB2.out (by simp)) (x := ((takeE st).1, .slice Ae ne ce, .slice Ad nd cd)) (subE_new Hhx2.out _) hown hg hat); obtain ⟨A5, c5, rfl, -, -⟩ := row_slice hown; clear hown hg hat))
        go_roundw
        case rel => exact ⟨k + 1, rfl, each_next hlt Hhxl.out HB.out Hhev.out rfl HR5.out HT5.out⟩
        case measure => simp [RowKit.intOf]; omega
    · have he : n - k = 0 := by omega
      have HZ := Lib.hid he
      obtain rfl : k = n := by omega
      have Hhev := Lib.hid hev
      have Hhrow := Lib.hid hrow
      have Hht := Lib.hid ht
      have Hhxl := Lib.hid hxl
      clear hev hrow ht hxl
      clear he
      go_wp2
      go_ret
      exact each_end HN.out Hhev.out Hhrow.out Hht.out (.inr HZ.out)
end Go.Proofs.YtjeamfoicpgkhaaGreatDoor.TakeE
