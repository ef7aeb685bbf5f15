/- Steps and nodes, taken from a text. -/
import Derived.Test.YtjeamfoicpgkhaaGreatDoorTakeS
import Derived.Test.YtjeamfoicpgkhaaGreatDoorTakeN
namespace Go.Proofs.YtjeamfoicpgkhaaGreatDoor.EachS
open Go.RowKit Go.Lib Go.Proofs.YtjeamfoicpgkhaaGreatDoor.Mem Go.Proofs.YtjeamfoicpgkhaaGreatDoor.Read Go.Proofs.YtjeamfoicpgkhaaGreatDoor.Tree Go.Proofs.YtjeamfoicpgkhaaGreatDoor.Data Go.Proofs.YtjeamfoicpgkhaaGreatDoor.Env Go.Proofs.YtjeamfoicpgkhaaGreatDoor.Take Go.Proofs.YtjeamfoicpgkhaaGreatDoor.Taker Go.Proofs.YtjeamfoicpgkhaaGreatDoor.Pk Go.Proofs.YtjeamfoicpgkhaaGreatDoor.PkR Go.Proofs.YtjeamfoicpgkhaaGreatDoor.OwnR Go.Proofs.YtjeamfoicpgkhaaGreatDoor.Each Go.Proofs.YtjeamfoicpgkhaaGreatDoor.MsgR
open Go.Proofs.YtjeamfoicpgkhaaGreatDoor.Writer (EnvS)
open Go.Proofs.YtjeamfoicpgkhaaGreatDoor.TakeS (TS)
set_option linter.unusedVariables false
set_option linter.unusedSimpArgs false
abbrev TN : TypeId := 128
theorem infoS : (Tryz.prog.info? TS).map (fun i => (i.zero, i.size, i.bytes)) = some (some (.agg #[.int .i64 0, .int .i64 0, .int .i64 0, .int .i64 0, .int .i64 0, .slice none 0 0]), 6, 64) := by kernel_rfl
theorem infoN : (Tryz.prog.info? TN).map (fun i => (i.zero, i.size, i.bytes)) = some (some (.agg #[.int .i64 0, .int .i64 0, .int .i64 0, .int .i64 0, .slice none 0 0]), 5, 56) := by kernel_rfl
def encS (p : StepD × Value) : List Value := stepCells p.1 p.2
def encN (p : NodeD × Value) : List Value := nodeCells p.1 p.2
def subS (base : Nat) (w : World) (p : StepD × Value) : Prop := IntsR base w p.1.kids p.2
def subN (base : Nat) (w : World) (p : NodeD × Value) : Prop := IntsR base w p.1.kids p.2
theorem stabS (base : Nat) : Stable TsI base (subS base) := fun F w w' a h hs hF => RowO.step (stable_true (fun _ => True) base) h hs hF
theorem stabN (base : Nat) : Stable TsI base (subN base) := fun F w w' a h hs hF => RowO.step (stable_true (fun _ => True) base) h hs hF
abbrev StepsW (base : Nat) : World → List (StepD × Value) → Value → Prop := RowO TS 6 base encS (subS base)
abbrev NodesW (base : Nat) : World → List (NodeD × Value) → Value → Prop := RowO TN 5 base encN (subN base)
theorem ints_base {base base' : Nat} {w : World} {xs : List Int} {v : Value} (h : IntsR base w xs v) (hb : base' ≤ base) : IntsR base' w xs v := ⟨h.1, fun k hk => Nat.le_trans hb (h.2.1 k hk), h.2.2⟩
theorem ints_new {base : Nat} {w : World} {xs : List Int} {v : Value} (h : IntsR base w xs v) (o : Obj) : IntsR base (w.alloc o) xs v := RowO.step (stable_true (fun _ => True) base) h (Step.alloc (Step.refl No w) o) (Types.no _ _ _)
theorem ints_slice {base : Nat} {w : World} {xs : List Int} {v : Value} (h : IntsR base w xs v) : ∃ A n c, v = .slice A n c := by obtain ⟨A, c, e, _⟩ := row_slice h.1; exact ⟨A, _, c, e⟩
theorem tsI {t : TypeId} (h : t ≠ TI) : TsI t := ⟨h, trivial⟩

set_option maxHeartbeats 8000000 in
theorem eachStep_any (w : World) (b : Nat) (st0 : St) (h : TRep w b st0) (hE : EnvS (fun k => k = b) w) :
    Calls Tryz.prog 129 #[.pointer (some ⟨b, 0, none⟩), .func (.func 130) #[.pointer (some ⟨b, 0, none⟩)] #[]] w (EachPost w b takeS (fun p : StepD × Value => p.1) (StepsW w.heap.size) st0) := by
  have HT := Lib.hid (TK.start h)
  have HE := Lib.hid hE
  clear hE h
  go_enter Tryz.func129, Tryz.ntmps129
  go_wp2_with fail
  refine (Num_any _ b st0 HT.out.1 (HE.out _ HT.out.2)).mono ?_
  rintro e w1 hp
  obtain ⟨rfl, ht⟩ := HT.out.next hp
  have hsm := dig_small 44 st0
  obtain ⟨d, hd⟩ : ∃ d, digR 44 st0 = d := ⟨_, rfl⟩
  have HD := Lib.hid hd
  rw [hd] at ht hsm ⊢
  obtain ⟨dn, dst⟩ := d
  simp only at ht hsm ⊢
  obtain ⟨n, hn⟩ : ∃ n : Nat, dn = n := ⟨dn.toNat, by have := hsm.1; omega⟩
  subst hn
  have hn9 : n < 1000000000 := by have := hsm.2; omega
  have HN : Hid (eachR takeS st0 = eachN takeS n dst) := Lib.hid (by unfold eachR; rw [HD.out]; rfl)
  have H1 : Hid (ER w b takeS (fun p : StepD × Value => p.1) (StepsW w.heap.size) n dst 0 (.slice none 0 0) w1) := Lib.hid ⟨dst, [], Nat.zero_le _, rfl, by simp, RowO.nil _, ht⟩
  clear hp hd ht hsm
  go_wp2
  go_loopw [5, 7] (fun v i wr => ∃ k : Nat, i = .int .i64 k ∧ ER w b takeS (fun p : StepD × Value => p.1) (StepsW w.heap.size) n dst k v wr) (fun _ i _ => n - (RowKit.intOf i).toNat)
  case atStart => exact ⟨0, rfl, H1.out⟩
  case round =>
    obtain ⟨k, rfl, st, xs, hk, hxl, hev, hrow, ht⟩ := hrel
    have t1 : wr.cell? ⟨b, 1, none⟩ = some (.bool st.2) := blk_cell ht.blk 1
    obtain ⟨A, c, rfl, -, -⟩ := row_slice hrow.1
    by_cases hlt : k < n
    · have hk1 : (k : Int) < n := by omega
      cases hb : st.2 with
      | true =>
        rw [hb] at t1
        have HB := Lib.hid hb
        have Hhev := Lib.hid hev
        have Hhrow := Lib.hid hrow
        have Hht := Lib.hid ht
        have Hhxl := Lib.hid hxl
        have Hhb := Lib.hid hb
        clear hev hrow ht hxl hb
        go_wp2
        go_ret
        exact each_end HN.out Hhev.out Hhrow.out Hht.out (.inl HB.out)
      | false =>
        rw [hb] at t1
        have HB := Lib.hid hb
        have hxn : xs.length < 1000000000 := by omega
        have Hbase : Hid (w.heap.size ≤ wr.heap.size) := Lib.hid ht.2.size
        have Hhev := Lib.hid hev
        have Hhrow := Lib.hid hrow
        have Hht := Lib.hid ht
        have Hhxl := Lib.hid hxl
        have Hhb := Lib.hid hb
        clear hev hrow ht hxl hb
        go_wp2_with fail
        refine (TakeS.take_any _ b st Hht.out.1 (fun w' hs => HE.out w' (Hht.out.2.trans hs (fun _ f _ => f)))).mono ?_
        rintro e w2 hp
        obtain ⟨kv, rfl, hi, ht3⟩ := hp; obtain ⟨Ak, nk, ck, rfl⟩ := ints_slice hi; have hp2 := ht3.2; have ht2 : TK w b (takeS st).2 w2 := ⟨ht3.1, Hht.out.2.trans hp2 (fun _ f _ => f)⟩; have hx2 := ints_base hi Hbase.out; clear hi ht3
        have HR2 := Lib.hid (RowO.step (stabS _) Hhrow.out hp2 (taker_types Hht.out ⟨by decide, by decide, trivial⟩))
        have HB2 : Hid (w.heap.size ≤ w2.heap.size) := Lib.hid ht2.2.size
        have Hht2 := Lib.hid ht2
        have Hhx2 := Lib.hid hx2
        clear ht2 hx2
        clear hp2 t1
        go_wp2_with (at_builtin; go_loud (refine list_append_own _ rfl (.tmp 22) (.tmp 25) 52 TS _ 6 64 rfl Tryz.underlying52 infoS rfl (by decide) (.slice A xs.length c) xs.length (xs.flatMap encS) rfl (by exact HR2.out.1.alloc _) ⟨w2.heap.size, 0, none⟩ 1 1 [.int .i64 (TakeS.val st 0), .int .i64 (TakeS.val st 1), .int .i64 (TakeS.val st 2), .int .i64 (TakeS.val st 3), .int .i64 (TakeS.val st 4), .slice Ak nk ck] rfl rfl (by exact cells_new w2 #[.int .i64 (TakeS.val st 0), .int .i64 (TakeS.val st 1), .int .i64 (TakeS.val st 2), .int .i64 (TakeS.val st 3), .int .i64 (TakeS.val st 4), .slice Ak nk ck] TS) (by simp [Value.oneCell']) (by unfold maxLen; omega) (by omega) ?_; intro v5 w5 hown hg hat; have HT5 := Lib.hid (Hht2.out.grown HR2.out.1 (by decide) HR2.out.2.1 hg); have HR5 := Lib.hid (RowO.next (stabS _) (tsI (by decide)) (HR2.out.no (stabS _) (Step.alloc (Step.refl No w2) _)) (Nat.le_trans HB2.out (by simp)) (x := ((takeS st).1, .slice Ak nk ck)) (ints_new Hhx2.out _) hown hg hat); obtain ⟨A5, c5, rfl, -, -⟩ := row_slice hown; clear hown hg hat))
        go_roundw
        case rel => exact ⟨k + 1, rfl, each_next hlt Hhxl.out HB.out Hhev.out rfl HR5.out HT5.out⟩
        case measure => simp [RowKit.intOf]; omega
    · have he : n - k = 0 := by omega
      have HZ := Lib.hid he
      obtain rfl : k = n := by omega
      have Hhev := Lib.hid hev
      have Hhrow := Lib.hid hrow
      have Hht := Lib.hid ht
      have Hhxl := Lib.hid hxl
      clear hev hrow ht hxl
      clear he
      go_wp2
      go_ret
      exact each_end HN.out Hhev.out Hhrow.out Hht.out (.inr HZ.out)
set_option maxHeartbeats 8000000 in
theorem eachNode_any (w : World) (b : Nat) (st0 : St) (h : TRep w b st0) (hE : EnvS (fun k => k = b) w) :
    Calls Tryz.prog 96 #[.pointer (some ⟨b, 0, none⟩), .func (.func 97) #[.pointer (some ⟨b, 0, none⟩)] #[]] w (EachPost w b takeN (fun p : NodeD × Value => p.1) (NodesW w.heap.size) st0) := by
  have HT := Lib.hid (TK.start h)
  have HE := Lib.hid hE
  clear hE h
  go_enter Tryz.func96, Tryz.ntmps96
  go_wp2_with fail
  refine (Num_any _ b st0 HT.out.1 (HE.out _ HT.out.2)).mono ?_
  rintro e w1 hp
  obtain ⟨rfl, ht⟩ := HT.out.next hp
  have hsm := dig_small 44 st0
  obtain ⟨d, hd⟩ : ∃ d, digR 44 st0 = d := ⟨_, rfl⟩
  have HD := Lib.hid hd
  rw [hd] at ht hsm ⊢
  obtain ⟨dn, dst⟩ := d
  simp only at ht hsm ⊢
  obtain ⟨n, hn⟩ : ∃ n : Nat, dn = n := ⟨dn.toNat, by have := hsm.1; omega⟩
  subst hn
  have hn9 : n < 1000000000 := by have := hsm.2; omega
  have HN : Hid (eachR takeN st0 = eachN takeN n dst) := Lib.hid (by unfold eachR; rw [HD.out]; rfl)
  have H1 : Hid (ER w b takeN (fun p : NodeD × Value => p.1) (NodesW w.heap.size) n dst 0 (.slice none 0 0) w1) := Lib.hid ⟨dst, [], Nat.zero_le _, rfl, by simp, RowO.nil _, ht⟩
  clear hp hd ht hsm
  go_wp2
  go_loopw [5, 7] (fun v i wr => ∃ k : Nat, i = .int .i64 k ∧ ER w b takeN (fun p : NodeD × Value => p.1) (NodesW w.heap.size) n dst k v wr) (fun _ i _ => n - (RowKit.intOf i).toNat)
  case atStart => exact ⟨0, rfl, H1.out⟩
  case round =>
    obtain ⟨k, rfl, st, xs, hk, hxl, hev, hrow, ht⟩ := hrel
    have t1 : wr.cell? ⟨b, 1, none⟩ = some (.bool st.2) := blk_cell ht.blk 1
    obtain ⟨A, c, rfl, -, -⟩ := row_slice hrow.1
    by_cases hlt : k < n
    · have hk1 : (k : Int) < n := by omega
      cases hb : st.2 with
      | true =>
        rw [hb] at t1
        have HB := Lib.hid hb
        have Hhev := Lib.hid hev
        have Hhrow := Lib.hid hrow
        have Hht := Lib.hid ht
        have Hhxl := Lib.hid hxl
        have Hhb := Lib.hid hb
        clear hev hrow ht hxl hb
        go_wp2
        go_ret
        exact each_end HN.out Hhev.out Hhrow.out Hht.out (.inl HB.out)
      | false =>
        rw [hb] at t1
        have HB := Lib.hid hb
        have hxn : xs.length < 1000000000 := by omega
        have Hbase : Hid (w.heap.size ≤ wr.heap.size) := Lib.hid ht.2.size
        have Hhev := Lib.hid hev
        have Hhrow := Lib.hid hrow
        have Hht := Lib.hid ht
        have Hhxl := Lib.hid hxl
        have Hhb := Lib.hid hb
        clear hev hrow ht hxl hb
        go_wp2_with fail
        refine (TakeN.take_any _ b st Hht.out.1 (fun w' hs => HE.out w' (Hht.out.2.trans hs (fun _ f _ => f)))).mono ?_
        rintro e w2 hp
        obtain ⟨kv, rfl, hi, ht3⟩ := hp; obtain ⟨Ak, nk, ck, rfl⟩ := ints_slice hi; have hp2 := ht3.2; have ht2 : TK w b (takeN st).2 w2 := ⟨ht3.1, Hht.out.2.trans hp2 (fun _ f _ => f)⟩; have hx2 := ints_base hi Hbase.out; clear hi ht3
        have HR2 := Lib.hid (RowO.step (stabN _) Hhrow.out hp2 (taker_types Hht.out ⟨by decide, by decide, trivial⟩))
        have HB2 : Hid (w.heap.size ≤ w2.heap.size) := Lib.hid ht2.2.size
        have Hht2 := Lib.hid ht2
        have Hhx2 := Lib.hid hx2
        clear ht2 hx2
        clear hp2 t1
        go_wp2_with (at_builtin; go_loud (refine list_append_own _ rfl (.tmp 22) (.tmp 25) 24 TN _ 5 56 rfl Tryz.underlying24 infoN rfl (by decide) (.slice A xs.length c) xs.length (xs.flatMap encN) rfl (by exact HR2.out.1.alloc _) ⟨w2.heap.size, 0, none⟩ 1 1 [.int .i64 (TakeN.val st 0), .int .i64 (TakeN.val st 1), .int .i64 (TakeN.val st 2), .int .i64 (TakeN.val st 3), .slice Ak nk ck] rfl rfl (by exact cells_new w2 #[.int .i64 (TakeN.val st 0), .int .i64 (TakeN.val st 1), .int .i64 (TakeN.val st 2), .int .i64 (TakeN.val st 3), .slice Ak nk ck] TN) (by simp [Value.oneCell']) (by unfold maxLen; omega) (by omega) ?_; intro v5 w5 hown hg hat; have HT5 := Lib.hid (Hht2.out.grown HR2.out.1 (by decide) HR2.out.2.1 hg); have HR5 := Lib.hid (RowO.next (stabN _) (tsI (by decide)) (HR2.out.no (stabN _) (Step.alloc (Step.refl No w2) _)) (Nat.le_trans HB2.out (by simp)) (x := ((takeN st).1, .slice Ak nk ck)) (ints_new Hhx2.out _) hown hg hat); obtain ⟨A5, c5, rfl, -, -⟩ := row_slice hown; clear hown hg hat))
        go_roundw
        case rel => exact ⟨k + 1, rfl, each_next hlt Hhxl.out HB.out Hhev.out rfl HR5.out HT5.out⟩
        case measure => simp [RowKit.intOf]; omega
    · have he : n - k = 0 := by omega
      have HZ := Lib.hid he
      obtain rfl : k = n := by omega
      have Hhev := Lib.hid hev
      have Hhrow := Lib.hid hrow
      have Hht := Lib.hid ht
      have Hhxl := Lib.hid hxl
      clear hev hrow ht hxl
      clear he
      go_wp2
      go_ret
      exact each_end HN.out Hhev.out Hhrow.out Hht.out (.inr HZ.out)
end Go.Proofs.YtjeamfoicpgkhaaGreatDoor.EachS
