/- Rows that are taken from a text, element by element. -/
import Derived.Test.YtjeamfoicpgkhaaGreatDoorTaker2
import Derived.Test.YtjeamfoicpgkhaaGreatDoorWriter
import Derived.Test.YtjeamfoicpgkhaaGreatDoorLumpA
import Derived.Test.YtjeamfoicpgkhaaGreatDoorLumpB
namespace Go.Proofs.YtjeamfoicpgkhaaGreatDoor.Each
open Go.RowKit Go.Lib Go.Proofs.YtjeamfoicpgkhaaGreatDoor.Mem Go.Proofs.YtjeamfoicpgkhaaGreatDoor.Read Go.Proofs.YtjeamfoicpgkhaaGreatDoor.Tree Go.Proofs.YtjeamfoicpgkhaaGreatDoor.Data Go.Proofs.YtjeamfoicpgkhaaGreatDoor.Env Go.Proofs.YtjeamfoicpgkhaaGreatDoor.Take Go.Proofs.YtjeamfoicpgkhaaGreatDoor.Taker Go.Proofs.YtjeamfoicpgkhaaGreatDoor.Pk Go.Proofs.YtjeamfoicpgkhaaGreatDoor.PkR Go.Proofs.YtjeamfoicpgkhaaGreatDoor.OwnR
open Go.Proofs.YtjeamfoicpgkhaaGreatDoor.Writer (EnvS)
set_option linter.unusedVariables false
set_option linter.unusedSimpArgs false
abbrev TI : TypeId := 3
theorem infoI : (Tryz.prog.info? TI).map (fun i => (i.zero, i.size, i.bytes)) = some (some (.int .i64 0), 1, 8) := by kernel_rfl
abbrev At (b k : Nat) : Prop := k = b
/-- A taker that has been used since w. -/
def TK (w : World) (b : Nat) (st : St) (wr : World) : Prop := TRep wr b st ∧ Step (fun k => k = b) w wr
theorem TK.start {w : World} {b : Nat} {st : St} (h : TRep w b st) : TK w b st w := ⟨h, Step.refl _ _⟩
theorem TK.no {w wr w' : World} {b : Nat} {st : St} (h : TK w b st wr) (hs : Step No wr w') : TK w b st w' := ⟨h.1.step hs (fun f => f), h.2.trans hs (fun _ f _ => f.elim)⟩
theorem TK.next {w wr w' : World} {b : Nat} {st st' : St} {v : Value} {e : Ending} (h : TK w b st wr) (hp : TPost wr b v st' e w') : e = .returned v ∧ TK w b st' w' := ⟨hp.1, hp.2.1, h.2.trans hp.2.2 (fun _ f _ => f)⟩
theorem TK.blk {w wr : World} {b : Nat} {st : St} (h : TK w b st wr) : wr.heap[b]? = some (.cells #[.string ⟨st.1.toArray⟩, .bool st.2] TT (0, 0)) := h.1.1
def encI (k : Int) : List Value := [.int .i64 k]
abbrev IntsR (base : Nat) : World → List Int → Value → Prop := RowO TI 1 base encI (fun _ _ => True)
def TsI (t : TypeId) : Prop := t ≠ TI ∧ True
theorem ints_stable (base : Nat) : Stable TsI base (fun (w : World) (p : List Int × Value) => IntsR base w p.1 p.2) := RowO.stable (stable_true (fun _ => True) base)
/-- After i rounds. -/
def ER {β α : Type} (w : World) (b : Nat) (one : St → α × St) (f : β → α) (row : World → List β → Value → Prop) (n : Nat) (st0 : St) (i : Nat) (v : Value) (wr : World) : Prop :=
  ∃ (st : St) (xs : List β), i ≤ n ∧ xs.length = i ∧ eachN one n st0 = (xs.map f ++ (eachN one (n - i) st).1, (eachN one (n - i) st).2) ∧ row wr xs v ∧ TK w b st wr
def EachPost {β α : Type} (w : World) (b : Nat) (one : St → α × St) (f : β → α) (row : World → List β → Value → Prop) (st0 : St) (e : Ending) (w' : World) : Prop :=
  ∃ v xs, e = .returned v ∧ xs.map f = (eachR one st0).1 ∧ row w' xs v ∧ TK w b (eachR one st0).2 w'
theorem each_end {β α : Type} {w wr : World} {b : Nat} {one : St → α × St} {f : β → α} {row : World → List β → Value → Prop} {n k : Nat} {st0 dst st : St} {xs : List β} {v : Value} (hN : eachR one st0 = eachN one n dst)
    (hev : eachN one n dst = (xs.map f ++ (eachN one (n - k) st).1, (eachN one (n - k) st).2)) (hrow : row wr xs v) (ht : TK w b st wr) (he : st.2 = true ∨ n - k = 0) : EachPost w b one f row st0 (.returned v) wr := by
  have e : eachN one (n - k) st = ([], st) := by
    rcases he with he | he
    · exact eachN_bad he
    · rw [he]; rfl
  rw [e] at hev
  refine ⟨v, xs, rfl, ?_, hrow, ?_⟩
  · rw [hN, hev]; simp
  · rw [hN, hev]; exact ht
theorem each_next {β α : Type} {w wr : World} {b : Nat} {one : St → α × St} {f : β → α} {row : World → List β → Value → Prop} {n k : Nat} {dst st : St} {xs : List β} {x : β} {v : Value} (hk : k < n) (hxl : xs.length = k) (hb : st.2 = false)
    (hev : eachN one n dst = (xs.map f ++ (eachN one (n - k) st).1, (eachN one (n - k) st).2)) (hx : f x = (one st).1) (hrow : row wr (xs ++ [x]) v) (ht : TK w b (one st).2 wr) : ER w b one f row n dst (k + 1) v wr := by
  refine ⟨(one st).2, xs ++ [x], hk, by simp [hxl], ?_, hrow, ht⟩
  rw [hev, show n - k = (n - (k + 1)) + 1 by omega, eachN_go hb]
  simp [hx]
theorem TK.grown {w w2 w5 : World} {b : Nat} {st : St} {T : TypeId} {sz n b0 : Nat} {v : Value} {xs : List Value} {o : Obj} (h : TK w b st w2) (hr : w2.ownsRow b0 T sz v n xs) (hT : T ≠ TT) (hb : ∀ k, v.ownBlock = some k → w.heap.size ≤ k) (hg : (w2.alloc o).grownBy w5 v.ownBlock) : TK w b st w5 := by
  have hne := row_ne hr h.blk hT
  refine ⟨⟨(hg.block b (by have := blk_lt h.blk; simp; omega) (fun e => hne e.symm)).trans (blk_alloc h.blk o), h.1.2⟩, (h.2.alloc o).grown hg (fun k hk hlt => absurd (hb k hk) (by omega))⟩
theorem taker_types {w wr : World} {b base : Nat} {st : St} {Ts : TypeId → Prop} (h : TK w b st wr) (hT : Ts TT) : Types Ts base wr (fun k => k = b) := Types.at h.blk hT

set_option maxHeartbeats 8000000 in
theorem eachInt_any (w : World) (b : Nat) (st0 : St) (h : TRep w b st0) (hE : EnvS (fun k => k = b) w) :
    Calls Tryz.prog 131 #[.pointer (some ⟨b, 0, none⟩), .func (.func 90) #[.pointer (some ⟨b, 0, none⟩)] #[]] w (EachPost w b numR id (IntsR w.heap.size) st0) := by
  have HT := Lib.hid (TK.start h)
  have HE := Lib.hid hE
  clear hE h
  go_enter Tryz.func131, Tryz.ntmps131
  go_wp2_with fail
  refine (Num_any _ b st0 HT.out.1 (HE.out _ HT.out.2)).mono ?_
  rintro e w1 hp
  obtain ⟨rfl, ht⟩ := HT.out.next hp
  have hsm := dig_small 44 st0
  obtain ⟨d, hd⟩ : ∃ d, digR 44 st0 = d := ⟨_, rfl⟩
  have HD := Lib.hid hd
  rw [hd] at ht hsm ⊢
  obtain ⟨dn, dst⟩ := d
  simp only at ht hsm ⊢
  obtain ⟨n, hn⟩ : ∃ n : Nat, dn = n := ⟨dn.toNat, by have := hsm.1; omega⟩
  subst hn
  have hn9 : n < 1000000000 := by have := hsm.2; omega
  have HN : Hid (eachR numR st0 = eachN numR n dst) := Lib.hid (by unfold eachR; rw [HD.out]; rfl)
  have H1 : Hid (ER w b numR id (IntsR w.heap.size) n dst 0 (.slice none 0 0) w1) := Lib.hid ⟨dst, [], Nat.zero_le _, rfl, by simp, RowO.nil _, ht⟩
  clear hp hd ht hsm
  go_wp2
  go_loopw [5, 7] (fun v i wr => ∃ k : Nat, i = .int .i64 k ∧ ER w b numR id (IntsR w.heap.size) n dst k v wr) (fun _ i _ => n - (RowKit.intOf i).toNat)
  case atStart => exact ⟨0, rfl, H1.out⟩
  case round =>
    obtain ⟨k, rfl, st, xs, hk, hxl, hev, hrow, ht⟩ := hrel
    have t1 : wr.cell? ⟨b, 1, none⟩ = some (.bool st.2) := blk_cell ht.blk 1
    obtain ⟨A, c, rfl, -, -⟩ := row_slice hrow.1
    by_cases hlt : k < n
    · have hk1 : (k : Int) < n := by omega
      cases hb : st.2 with
      | true =>
        rw [hb] at t1
        have HB := Lib.hid hb
        have Hhev := Lib.hid hev
        have Hhrow := Lib.hid hrow
        have Hht := Lib.hid ht
        have Hhxl := Lib.hid hxl
        have Hhb := Lib.hid hb
        clear hev hrow ht hxl hb
        go_wp2
        go_ret
        exact each_end HN.out Hhev.out Hhrow.out Hht.out (.inl HB.out)
      | false =>
        rw [hb] at t1
        have HB := Lib.hid hb
        have hxn : xs.length < 1000000000 := by omega
        have Hbase : Hid (w.heap.size ≤ wr.heap.size) := Lib.hid ht.2.size
        have Hhev := Lib.hid hev
        have Hhrow := Lib.hid hrow
        have Hht := Lib.hid ht
        have Hhxl := Lib.hid hxl
        have Hhb := Lib.hid hb
        clear hev hrow ht hxl hb
        go_wp2_with fail
        refine (Num_any _ b st Hht.out.1 (HE.out _ Hht.out.2)).mono ?_
        rintro e w2 hp
        obtain ⟨rfl, ht2⟩ := Hht.out.next hp; have hp2 := hp.2.2; have hx2 := trivial; clear hp
        have HR2 := Lib.hid (RowO.step (stable_true (fun _ => True) _) Hhrow.out hp2 (taker_types Hht.out (by decide)))
        have HB2 : Hid (w.heap.size ≤ w2.heap.size) := Lib.hid ht2.2.size
        have Hht2 := Lib.hid ht2
        have Hhx2 := Lib.hid hx2
        clear ht2 hx2
        clear hp2 t1
        go_wp2_with (at_builtin; go_loud (refine list_append_own _ rfl (.tmp 22) (.tmp 25) 49 TI _ 1 8 rfl Tryz.underlying49 infoI rfl (by decide) (.slice A xs.length c) xs.length (xs.flatMap encI) rfl (by exact HR2.out.1.alloc _) ⟨w2.heap.size, 0, none⟩ 1 1 [.int .i64 (digR 44 st).1] rfl rfl (by exact cells_new w2 #[.int .i64 (digR 44 st).1] TI) (by simp [Value.oneCell']) (by unfold maxLen; omega) (by omega) ?_; intro v5 w5 hown hg hat; have HT5 := Lib.hid (Hht2.out.grown HR2.out.1 (by decide) HR2.out.2.1 hg); have HR5 := Lib.hid (RowO.next (stable_true (fun _ => True) _) trivial (HR2.out.no (stable_true (fun _ => True) _) (Step.alloc (Step.refl No w2) _)) (Nat.le_trans HB2.out (by simp)) (x := (numR st).1) trivial hown hg hat); obtain ⟨A5, c5, rfl, -, -⟩ := row_slice hown; clear hown hg hat))
        go_roundw
        case rel => exact ⟨k + 1, rfl, each_next hlt Hhxl.out HB.out Hhev.out rfl HR5.out HT5.out⟩
        case measure => simp [RowKit.intOf]; omega
    · have he : n - k = 0 := by omega
      have HZ := Lib.hid he
      obtain rfl : k = n := by omega
      have Hhev := Lib.hid hev
      have Hhrow := Lib.hid hrow
      have Hht := Lib.hid ht
      have Hhxl := Lib.hid hxl
      clear hev hrow ht hxl
      clear he
      go_wp2
      go_ret
      exact each_end HN.out Hhev.out Hhrow.out Hht.out (.inr HZ.out)
end Go.Proofs.YtjeamfoicpgkhaaGreatDoor.Each
