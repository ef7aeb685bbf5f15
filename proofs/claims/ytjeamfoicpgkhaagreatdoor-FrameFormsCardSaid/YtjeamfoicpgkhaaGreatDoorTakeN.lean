/- A node, taken from a text. -/
import Derived.Test.YtjeamfoicpgkhaaGreatDoorEachC
import Derived.Test.YtjeamfoicpgkhaaGreatDoorLumpB
namespace Go.Proofs.YtjeamfoicpgkhaaGreatDoor.TakeN
open Go.RowKit Go.Lib Go.Proofs.YtjeamfoicpgkhaaGreatDoor.Mem Go.Proofs.YtjeamfoicpgkhaaGreatDoor.Read Go.Proofs.YtjeamfoicpgkhaaGreatDoor.Tree Go.Proofs.YtjeamfoicpgkhaaGreatDoor.Data Go.Proofs.YtjeamfoicpgkhaaGreatDoor.Env Go.Proofs.YtjeamfoicpgkhaaGreatDoor.Take Go.Proofs.YtjeamfoicpgkhaaGreatDoor.Taker Go.Proofs.YtjeamfoicpgkhaaGreatDoor.Pk Go.Proofs.YtjeamfoicpgkhaaGreatDoor.PkR Go.Proofs.YtjeamfoicpgkhaaGreatDoor.OwnR Go.Proofs.YtjeamfoicpgkhaaGreatDoor.Each
open Go.Proofs.YtjeamfoicpgkhaaGreatDoor.Writer (EnvS)
set_option linter.unusedVariables false
set_option linter.unusedSimpArgs false
abbrev TS : TypeId := 128
def run (st : St) : Nat → St
  | 0 => st
  | k + 1 => (digR 44 (run st k)).2
def val (st : St) (k : Nat) : Int := (digR 44 (run st k)).1
def arr (st : St) : Nat → Array Value
  | 0 => #[.int .i64 0, .int .i64 0, .int .i64 0, .int .i64 0, .slice none 0 0]
  | 1 => #[.int .i64 (val st 0), .int .i64 0, .int .i64 0, .int .i64 0, .slice none 0 0]
  | 2 => #[.int .i64 (val st 0), .int .i64 (val st 1), .int .i64 0, .int .i64 0, .slice none 0 0]
  | 3 => #[.int .i64 (val st 0), .int .i64 (val st 1), .int .i64 (val st 2), .int .i64 0, .slice none 0 0]
  | _ => #[.int .i64 (val st 0), .int .i64 (val st 1), .int .i64 (val st 2), .int .i64 (val st 3), .slice none 0 0]
def zero : Array Value := #[.int .i64 0, .int .i64 0, .int .i64 0, .int .i64 0, .slice none 0 0]
def ptrs (s : Nat) : Array Value := #[.pointer (some ⟨s, 0, none⟩), .pointer (some ⟨s, 1, none⟩), .pointer (some ⟨s, 2, none⟩), .pointer (some ⟨s, 3, none⟩)]
/-- Under way: k numbers are taken. -/
structure LR (w : World) (b : Nat) (st : St) (r s p : Nat) (k : Nat) (wr : World) : Prop where
  res : wr.heap[r]? = some (.cells zero TS (0, 0))
  own : wr.heap[s]? = some (.cells (arr st k) TS (0, 0))
  ptr : wr.heap[p]? = some (.cells (ptrs s) 171 (0, 0))
  tk : TK w b (run st k) wr
  rs : w.heap.size ≤ r ∧ w.heap.size ≤ s ∧ r ≠ s
theorem LR.taken {w wr w2 : World} {b r s p k : Nat} {st : St} {v : Value} {e : Ending} (h : LR w b st r s p k wr) (hp : TPost wr b v (run st (k + 1)) e w2) : e = .returned v ∧ w2.heap[r]? = some (.cells zero TS (0, 0)) ∧ w2.heap[s]? = some (.cells (arr st k) TS (0, 0)) ∧ w2.heap[p]? = some (.cells (ptrs s) 171 (0, 0)) ∧ TK w b (run st (k + 1)) w2 :=
  ⟨hp.1, res_at h.res h.tk.blk (by decide) hp.2.2, res_at h.own h.tk.blk (by decide) hp.2.2, res_at h.ptr h.tk.blk (by decide) hp.2.2, (h.tk.next hp).2⟩
theorem LR.laid {w w2 : World} {b r s p k k' : Nat} {st : St} {v : Value} {i : Nat} (hr : w2.heap[r]? = some (.cells zero TS (0, 0))) (hs : w2.heap[s]? = some (.cells (arr st k) TS (0, 0))) (hp : w2.heap[p]? = some (.cells (ptrs s) 171 (0, 0))) (ht : TK w b (run st k') w2) (hrs : w.heap.size ≤ r ∧ w.heap.size ≤ s ∧ r ≠ s) (he : (arr st k).setIfInBounds i v = arr st k') : LR w b st r s p k' (w2.setCell ⟨s, i, none⟩ v) :=
  ⟨blk_set_other hr (fun e => hrs.2.2 e.symm) _, by rw [← he]; exact blk_set hs i v, blk_set_other hp (blk_ne hs hp (by decide)) _, tk_store ht hs (by decide) hrs.2.1 i v, hrs⟩
theorem take_is (st : St) : takeN st = (⟨val st 0, val st 1, val st 2, val st 3, (eachR numR (run st 4)).1⟩, (eachR numR (run st 4)).2) := rfl
def Post (w : World) (b : Nat) (st : St) (e : Ending) (w' : World) : Prop := ∃ kv, e = .returned (.agg #[.int .i64 (val st 0), .int .i64 (val st 1), .int .i64 (val st 2), .int .i64 (val st 3), kv]) ∧ IntsR w.heap.size w' (takeN st).1.kids kv ∧ TK w b (takeN st).2 w'
theorem ints_mono {base base' : Nat} {w : World} {xs : List Int} {v : Value} (h : IntsR base w xs v) (hb : base' ≤ base) : IntsR base' w xs v := ⟨h.1, fun k hk => Nat.le_trans hb (h.2.1 k hk), h.2.2⟩
theorem laid {w w5 : World} {b r s : Nat} {st : St} {kv : Value} {ks : List Int} (hr : w5.heap[r]? = some (.cells zero TS (0, 0))) (hs : w5.heap[s]? = some (.cells (arr st 4) TS (0, 0))) (ht : TK w b (eachR numR (run st 4)).2 w5) (hrs : w.heap.size ≤ r ∧ w.heap.size ≤ s ∧ r ≠ s) (hk : IntsR w.heap.size w5 ks kv) :
    ((((((w5.setCell ⟨s, 4, none⟩ kv).setCell ⟨r, 0, none⟩ (.int .i64 (val st 0))).setCell ⟨r, 1, none⟩ (.int .i64 (val st 1))).setCell ⟨r, 2, none⟩ (.int .i64 (val st 2))).setCell ⟨r, 3, none⟩ (.int .i64 (val st 3))).setCell ⟨r, 4, none⟩ kv).heap[r]? = some (.cells #[.int .i64 (val st 0), .int .i64 (val st 1), .int .i64 (val st 2), .int .i64 (val st 3), kv] TS (0, 0)) ∧ TK w b (eachR numR (run st 4)).2 ((((((w5.setCell ⟨s, 4, none⟩ kv).setCell ⟨r, 0, none⟩ (.int .i64 (val st 0))).setCell ⟨r, 1, none⟩ (.int .i64 (val st 1))).setCell ⟨r, 2, none⟩ (.int .i64 (val st 2))).setCell ⟨r, 3, none⟩ (.int .i64 (val st 3))).setCell ⟨r, 4, none⟩ kv) ∧ IntsR w.heap.size ((((((w5.setCell ⟨s, 4, none⟩ kv).setCell ⟨r, 0, none⟩ (.int .i64 (val st 0))).setCell ⟨r, 1, none⟩ (.int .i64 (val st 1))).setCell ⟨r, 2, none⟩ (.int .i64 (val st 2))).setCell ⟨r, 3, none⟩ (.int .i64 (val st 3))).setCell ⟨r, 4, none⟩ kv) ks kv := by
  have h1 := blk_set_other hr (a := ⟨s, 4, none⟩) (fun e => hrs.2.2 e.symm) kv
  have t1 := tk_store ht hs (by decide) hrs.2.1 4 kv
  have k1 : IntsR w.heap.size (w5.setCell ⟨s, 4, none⟩ kv) ks kv := hk.step (stable_true (fun _ => True) _) (F := fun i => i = s) (by refine set_at (Step.refl _ _) ?_ _ <;> rfl) (Types.at hs (by decide))
  have t2 := tk_store t1 h1 (by decide) hrs.1 0 (.int .i64 (val st 0))
  have k2 := RowO.step (stable_true (fun _ => True) _) k1 (F := fun i => i = r) (w' := (w5.setCell ⟨s, 4, none⟩ kv).setCell ⟨r, 0, none⟩ (.int .i64 (val st 0))) (by refine set_at (Step.refl _ _) ?_ _ <;> rfl) (Types.at h1 (by decide))
  have h2 := blk_set h1 0 (.int .i64 (val st 0))
  have t3 := tk_store t2 h2 (by decide) hrs.1 1 (.int .i64 (val st 1))
  have k3 := RowO.step (stable_true (fun _ => True) _) k2 (F := fun i => i = r) (w' := ((w5.setCell ⟨s, 4, none⟩ kv).setCell ⟨r, 0, none⟩ (.int .i64 (val st 0))).setCell ⟨r, 1, none⟩ (.int .i64 (val st 1))) (by refine set_at (Step.refl _ _) ?_ _ <;> rfl) (Types.at h2 (by decide))
  have h3 := blk_set h2 1 (.int .i64 (val st 1))
  have t4 := tk_store t3 h3 (by decide) hrs.1 2 (.int .i64 (val st 2))
  have k4 := RowO.step (stable_true (fun _ => True) _) k3 (F := fun i => i = r) (w' := (((w5.setCell ⟨s, 4, none⟩ kv).setCell ⟨r, 0, none⟩ (.int .i64 (val st 0))).setCell ⟨r, 1, none⟩ (.int .i64 (val st 1))).setCell ⟨r, 2, none⟩ (.int .i64 (val st 2))) (by refine set_at (Step.refl _ _) ?_ _ <;> rfl) (Types.at h3 (by decide))
  have h4 := blk_set h3 2 (.int .i64 (val st 2))
  have t5 := tk_store t4 h4 (by decide) hrs.1 3 (.int .i64 (val st 3))
  have k5 := RowO.step (stable_true (fun _ => True) _) k4 (F := fun i => i = r) (w' := ((((w5.setCell ⟨s, 4, none⟩ kv).setCell ⟨r, 0, none⟩ (.int .i64 (val st 0))).setCell ⟨r, 1, none⟩ (.int .i64 (val st 1))).setCell ⟨r, 2, none⟩ (.int .i64 (val st 2))).setCell ⟨r, 3, none⟩ (.int .i64 (val st 3))) (by refine set_at (Step.refl _ _) ?_ _ <;> rfl) (Types.at h4 (by decide))
  have h5 := blk_set h4 3 (.int .i64 (val st 3))
  have t6 := tk_store t5 h5 (by decide) hrs.1 4 kv
  have k6 := RowO.step (stable_true (fun _ => True) _) k5 (F := fun i => i = r) (w' := (((((w5.setCell ⟨s, 4, none⟩ kv).setCell ⟨r, 0, none⟩ (.int .i64 (val st 0))).setCell ⟨r, 1, none⟩ (.int .i64 (val st 1))).setCell ⟨r, 2, none⟩ (.int .i64 (val st 2))).setCell ⟨r, 3, none⟩ (.int .i64 (val st 3))).setCell ⟨r, 4, none⟩ kv) (by refine set_at (Step.refl _ _) ?_ _ <;> rfl) (Types.at h5 (by decide))
  have h6 := blk_set h5 4 kv
  exact ⟨by simpa [zero] using h6, t6, k6⟩
set_option maxHeartbeats 8000000 in
set_option maxRecDepth 100000 in
theorem take_any (w : World) (b : Nat) (st : St) (h : TRep w b st) (hE : EnvS (fun k => k = b) w) : Calls Tryz.prog 97 #[.pointer (some ⟨b, 0, none⟩)] w (Post w b st) := by
  have hs3 : Step No w (((w.alloc (.cells zero TS)).alloc (.cells zero TS)).alloc (.cells (ptrs (w.heap.size + 1)) 171)) := (((Step.refl No w).alloc _).alloc _).alloc _
  have H0 : Hid (LR w b st w.heap.size (w.heap.size + 1) (w.heap.size + 1 + 1) 0 (((w.alloc (.cells zero TS)).alloc (.cells zero TS)).alloc (.cells (ptrs (w.heap.size + 1)) 171))) := Lib.hid
    ⟨blk_alloc (blk_alloc (blk_new _ _) _) _, blk_alloc (by simpa [arr, zero] using blk_new (w.alloc (.cells zero TS)) (.cells zero TS)) _, by simpa using blk_new ((w.alloc (.cells zero TS)).alloc (.cells zero TS)) (.cells (ptrs (w.heap.size + 1)) 171), (TK.start h).no hs3, by omega, by omega, by omega⟩
  have HE := Lib.hid hE
  clear hE h
  go_enter Tryz.func97, Tryz.ntmps97
  go_wp2
  clear hs3
  simp only [zero, ptrs] at H0
  generalize w.heap.size + 1 + 1 = p at *
  generalize w.heap.size + 1 = s at *
  generalize hrz : w.heap.size = r at *
  have HRZ := Lib.hid hrz
  clear hrz
  go_loopw [12] (fun i wr => ∃ k : Nat, k ≤ 4 ∧ i = .int .i64 k ∧ LR w b st r s p k wr) (fun i _ => 4 - (RowKit.intOf i).toNat)
  case atStart => exact ⟨0, Nat.zero_le _, rfl, H0.out⟩
  case round =>
    obtain ⟨k, hk, rfl, hL⟩ := hrel
    by_cases hlt : k < 4
    · have hkk : k = 0 ∨ k = 1 ∨ k = 2 ∨ k = 3 := by omega
      rcases hkk with rfl | rfl | rfl | rfl
      ·
        have c1 : wr.cell? ⟨p, 0, none⟩ = some (.pointer (some ⟨s, 0, none⟩)) := blk_cell hL.ptr 0
        have HhL := Lib.hid hL
        clear hL
        go_wp2_with fail
        refine (Num_any _ b _ HhL.out.tk.1 (HE.out _ HhL.out.tk.2)).mono ?_
        rintro e w2 hp
        obtain ⟨rfl, q1, q2, q3, q4⟩ := HhL.out.taken hp
        have f0 := blk_free q2 0
        have c2 : w2.cell? ⟨s, 0, none⟩ = some (.int .i64 0) := blk_cell q2 0
        have HL2 := Lib.hid (LR.laid (i := 0) (v := .int .i64 (digR 44 (run st 0)).1) q1 q2 q3 q4 HhL.out.rs (k' := 0 + 1) (by simp [arr, val]))
        clear hp q1 q2 q3 q4 c1
        go_wp2
        go_roundw
        case rel => exact ⟨0 + 1, by decide, by rfl, HL2.out⟩
        case measure => simp [RowKit.intOf]
      ·
        have c1 : wr.cell? ⟨p, 1, none⟩ = some (.pointer (some ⟨s, 1, none⟩)) := blk_cell hL.ptr 1
        have HhL := Lib.hid hL
        clear hL
        go_wp2_with fail
        refine (Num_any _ b _ HhL.out.tk.1 (HE.out _ HhL.out.tk.2)).mono ?_
        rintro e w2 hp
        obtain ⟨rfl, q1, q2, q3, q4⟩ := HhL.out.taken hp
        have f0 := blk_free q2 1
        have c2 : w2.cell? ⟨s, 1, none⟩ = some (.int .i64 0) := blk_cell q2 1
        have HL2 := Lib.hid (LR.laid (i := 1) (v := .int .i64 (digR 44 (run st 1)).1) q1 q2 q3 q4 HhL.out.rs (k' := 1 + 1) (by simp [arr, val]))
        clear hp q1 q2 q3 q4 c1
        go_wp2
        go_roundw
        case rel => exact ⟨1 + 1, by decide, by rfl, HL2.out⟩
        case measure => simp [RowKit.intOf]
      ·
        have c1 : wr.cell? ⟨p, 2, none⟩ = some (.pointer (some ⟨s, 2, none⟩)) := blk_cell hL.ptr 2
        have HhL := Lib.hid hL
        clear hL
        go_wp2_with fail
        refine (Num_any _ b _ HhL.out.tk.1 (HE.out _ HhL.out.tk.2)).mono ?_
        rintro e w2 hp
        obtain ⟨rfl, q1, q2, q3, q4⟩ := HhL.out.taken hp
        have f0 := blk_free q2 2
        have c2 : w2.cell? ⟨s, 2, none⟩ = some (.int .i64 0) := blk_cell q2 2
        have HL2 := Lib.hid (LR.laid (i := 2) (v := .int .i64 (digR 44 (run st 2)).1) q1 q2 q3 q4 HhL.out.rs (k' := 2 + 1) (by simp [arr, val]))
        clear hp q1 q2 q3 q4 c1
        go_wp2
        go_roundw
        case rel => exact ⟨2 + 1, by decide, by rfl, HL2.out⟩
        case measure => simp [RowKit.intOf]
      ·
        have c1 : wr.cell? ⟨p, 3, none⟩ = some (.pointer (some ⟨s, 3, none⟩)) := blk_cell hL.ptr 3
        have HhL := Lib.hid hL
        clear hL
        go_wp2_with fail
        refine (Num_any _ b _ HhL.out.tk.1 (HE.out _ HhL.out.tk.2)).mono ?_
        rintro e w2 hp
        obtain ⟨rfl, q1, q2, q3, q4⟩ := HhL.out.taken hp
        have f0 := blk_free q2 3
        have c2 : w2.cell? ⟨s, 3, none⟩ = some (.int .i64 0) := blk_cell q2 3
        have HL2 := Lib.hid (LR.laid (i := 3) (v := .int .i64 (digR 44 (run st 3)).1) q1 q2 q3 q4 HhL.out.rs (k' := 3 + 1) (by simp [arr, val]))
        clear hp q1 q2 q3 q4 c1
        go_wp2
        go_roundw
        case rel => exact ⟨3 + 1, by decide, by rfl, HL2.out⟩
        case measure => simp [RowKit.intOf]
    · obtain rfl : k = 4 := by omega
      have HhL := Lib.hid hL
      clear hL
      go_wp2_with fail
      refine (eachInt_any _ b _ HhL.out.tk.1 (fun w' hs => HE.out w' (HhL.out.tk.2.trans hs (fun _ f _ => f)))).mono ?_
      rintro e w5 ⟨kv, xs, rfl, hxs, hrow, htk⟩
      rw [List.map_id] at hxs
      subst hxs
      have hr5 := res_at HhL.out.res HhL.out.tk.blk (by decide) htk.2
      have hs5 := res_at HhL.out.own HhL.out.tk.blk (by decide) htk.2
      have HT5 : Hid (TK w b (eachR numR (run st 4)).2 w5) := Lib.hid ⟨htk.1, HhL.out.tk.2.trans htk.2 (fun _ f _ => f)⟩
      have HI5 : Hid (IntsR w.heap.size w5 (eachR numR (run st 4)).1 kv) := Lib.hid (ints_mono hrow HhL.out.tk.2.size)
      obtain ⟨A5, n5, c5, hkv⟩ : ∃ A n c, kv = .slice A n c := by obtain ⟨A, c, e, _⟩ := row_slice hrow.1; exact ⟨A, _, c, e⟩
      clear hrow htk
      subst hkv
      have z0 := blk_cell hr5 0
      have g0 := blk_free hr5 0
      have s0 := blk_cell hs5 0
      have z1 := blk_cell hr5 1
      have g1 := blk_free hr5 1
      have s1 := blk_cell hs5 1
      have z2 := blk_cell hr5 2
      have g2 := blk_free hr5 2
      have s2 := blk_cell hs5 2
      have z3 := blk_cell hr5 3
      have g3 := blk_free hr5 3
      have s3 := blk_cell hs5 3
      have z4 := blk_cell hr5 4
      have g4 := blk_free hr5 4
      have s4 := blk_cell hs5 4
      have gs := blk_free hs5 4
      simp [zero] at z0 z1 z2 z3 z4
      simp [arr] at s0 s1 s2 s3 s4
      obtain ⟨-, -, hne⟩ := HhL.out.rs
      have hne2 : ¬ s = r := fun e => hne e.symm
      have HO := Lib.hid (laid hr5 hs5 HT5.out HhL.out.rs HI5.out)
      clear hr5 hs5
      go_wp2
      generalize World.setCell (World.setCell (World.setCell (World.setCell (World.setCell (World.setCell w5 ⟨s, 4, none⟩ _) ⟨r, 0, none⟩ _) ⟨r, 1, none⟩ _) ⟨r, 2, none⟩ _) ⟨r, 3, none⟩ _) ⟨r, 4, none⟩ _ = W at *
      have r0 := blk_cell HO.out.1 0
      have r1 := blk_cell HO.out.1 1
      have r2 := blk_cell HO.out.1 2
      have r3 := blk_cell HO.out.1 3
      have r4 := blk_cell HO.out.1 4
      exact bodyPost_ret (by simp [results, Tryz.results97, go_sem, r0, r1, r2, r3, r4]) rfl ⟨_, rfl, HO.out.2.2, HO.out.2.1⟩
end Go.Proofs.YtjeamfoicpgkhaaGreatDoor.TakeN
