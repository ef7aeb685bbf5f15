/- Edits, taken from a text. -/
import Derived.Test.YtjeamfoicpgkhaaGreatDoorTakeC
namespace Go.Proofs.YtjeamfoicpgkhaaGreatDoor.Each
open Go.RowKit Go.Lib Go.Proofs.YtjeamfoicpgkhaaGreatDoor.Mem Go.Proofs.YtjeamfoicpgkhaaGreatDoor.Read Go.Proofs.YtjeamfoicpgkhaaGreatDoor.Tree Go.Proofs.YtjeamfoicpgkhaaGreatDoor.Data Go.Proofs.YtjeamfoicpgkhaaGreatDoor.Env Go.Proofs.YtjeamfoicpgkhaaGreatDoor.Take Go.Proofs.YtjeamfoicpgkhaaGreatDoor.Taker Go.Proofs.YtjeamfoicpgkhaaGreatDoor.Pk Go.Proofs.YtjeamfoicpgkhaaGreatDoor.PkR Go.Proofs.YtjeamfoicpgkhaaGreatDoor.OwnR Go.Proofs.YtjeamfoicpgkhaaGreatDoor.CompR
open Go.Proofs.YtjeamfoicpgkhaaGreatDoor.Writer (EnvS)
set_option linter.unusedVariables false
set_option linter.unusedSimpArgs false
abbrev subC : World → CompD → Prop := fun _ c => c.text.size ≤ maxLen
abbrev CompsW (base : Nat) : World → List CompD → Value → Prop := RowO TC 3 base compCells subC
theorem stabC (base : Nat) : Stable (fun _ => True) base subC := stable_pure _ _ _
theorem take_text {b : Nat} {st : St} {w : World} (h : TRep w b st) : (takeC st).1.text.size ≤ maxLen := by
  have hl := h.2
  have h1 : (byteR st).2.1.length ≤ st.1.length := by
    unfold byteR
    split
    · exact Nat.zero_le _
    · rename_i c r e
      split
      · exact Nat.le_refl _
      · rw [e]; simp
  have h2 : ∀ s : St, (Take.strR s).1.length ≤ s.1.length := fun s => by
    unfold Take.strR
    simp only
    split
    · simp
    · rw [List.length_take]
      have : (digR 58 s).2.1.length ≤ s.1.length := by
        unfold digR
        cases hc : Dec.cutAt 58 s.1 with
        | none => exact Nat.le_refl _
        | some p =>
          have := cut_len hc
          simp only
          split
          · split
            · exact Nat.le_refl _
            · simp only; omega
          · exact Nat.le_refl _
      omega
  have h3 : (takeC st).1.text.size ≤ st.1.length := by
    unfold takeC
    simp only
    split
    · show ((Take.strR (byteR st).2).1.toArray).size ≤ _
      simp only [List.size_toArray]
      exact Nat.le_trans (h2 _) h1
    · split
      · exact Nat.zero_le _
      · split <;> exact Nat.zero_le _
  unfold maxLen
  omega

set_option maxHeartbeats 8000000 in
theorem eachComp_any (w : World) (b : Nat) (st0 : St) (h : TRep w b st0) (hE : EnvS (fun k => k = b) w) :
    Calls Tryz.prog 91 #[.pointer (some ⟨b, 0, none⟩), .func (.func 92) #[.pointer (some ⟨b, 0, none⟩)] #[]] w (EachPost w b takeC id (CompsW w.heap.size) st0) := by
  have HT := Lib.hid (TK.start h)
  have HE := Lib.hid hE
  clear hE h
  go_enter Tryz.func91, Tryz.ntmps91
  go_wp2_with fail
  refine (Num_any _ b st0 HT.out.1 (HE.out _ HT.out.2)).mono ?_
  rintro e w1 hp
  obtain ⟨rfl, ht⟩ := HT.out.next hp
  have hsm := dig_small 44 st0
  obtain ⟨d, hd⟩ : ∃ d, digR 44 st0 = d := ⟨_, rfl⟩
  have HD := Lib.hid hd
  rw [hd] at ht hsm ⊢
  obtain ⟨dn, dst⟩ := d
  simp only at ht hsm ⊢
  obtain ⟨n, hn⟩ : ∃ n : Nat, dn = n := ⟨dn.toNat, by have := hsm.1; omega⟩
  subst hn
  have hn9 : n < 1000000000 := by have := hsm.2; omega
  have HN : Hid (eachR takeC st0 = eachN takeC n dst) := Lib.hid (by unfold eachR; rw [HD.out]; rfl)
  have H1 : Hid (ER w b takeC id (CompsW w.heap.size) n dst 0 (.slice none 0 0) w1) := Lib.hid ⟨dst, [], Nat.zero_le _, rfl, by simp, RowO.nil _, ht⟩
  clear hp hd ht hsm
  go_wp2
  go_loopw [5, 7] (fun v i wr => ∃ k : Nat, i = .int .i64 k ∧ ER w b takeC id (CompsW w.heap.size) n dst k v wr) (fun _ i _ => n - (RowKit.intOf i).toNat)
  case atStart => exact ⟨0, rfl, H1.out⟩
  case round =>
    obtain ⟨k, rfl, st, xs, hk, hxl, hev, hrow, ht⟩ := hrel
    have t1 : wr.cell? ⟨b, 1, none⟩ = some (.bool st.2) := blk_cell ht.blk 1
    obtain ⟨A, c, rfl, -, -⟩ := row_slice hrow.1
    by_cases hlt : k < n
    · have hk1 : (k : Int) < n := by omega
      cases hb : st.2 with
      | true =>
        rw [hb] at t1
        have HB := Lib.hid hb
        have Hhev := Lib.hid hev
        have Hhrow := Lib.hid hrow
        have Hht := Lib.hid ht
        have Hhxl := Lib.hid hxl
        have Hhb := Lib.hid hb
        clear hev hrow ht hxl hb
        go_wp2
        go_ret
        exact each_end HN.out Hhev.out Hhrow.out Hht.out (.inl HB.out)
      | false =>
        rw [hb] at t1
        have HB := Lib.hid hb
        have hxn : xs.length < 1000000000 := by omega
        have Hbase : Hid (w.heap.size ≤ wr.heap.size) := Lib.hid ht.2.size
        have Hhev := Lib.hid hev
        have Hhrow := Lib.hid hrow
        have Hht := Lib.hid ht
        have Hhxl := Lib.hid hxl
        have Hhb := Lib.hid hb
        clear hev hrow ht hxl hb
        go_wp2_with fail
        refine (comp_any _ b st Hht.out.1 (fun w' hs => HE.out w' (Hht.out.2.trans hs (fun _ f _ => f)))).mono ?_
        rintro e w2 hp
        obtain ⟨rfl, ht2, hp2⟩ := hp; have ht2 : TK w b (takeC st).2 w2 := ⟨ht2, Hht.out.2.trans hp2 (fun _ f _ => f)⟩; have hx2 := take_text Hht.out.1
        have HR2 := Lib.hid (RowO.step (stabC _) Hhrow.out hp2 (taker_types Hht.out (by decide)))
        have HB2 : Hid (w.heap.size ≤ w2.heap.size) := Lib.hid ht2.2.size
        have Hht2 := Lib.hid ht2
        have Hhx2 := Lib.hid hx2
        clear ht2 hx2
        clear hp2 t1
        go_wp2_with (at_builtin; go_loud (refine list_append_own _ rfl (.tmp 22) (.tmp 25) 22 TC _ 3 32 rfl Tryz.underlying22 infoC rfl (by decide) (.slice A xs.length c) xs.length (xs.flatMap compCells) rfl (by exact HR2.out.1.alloc _) ⟨w2.heap.size, 0, none⟩ 1 1 [.int .i64 (takeC st).1.kind, .int .i64 (takeC st).1.n, .string (takeC st).1.text] rfl rfl (by exact cells_new w2 #[.int .i64 (takeC st).1.kind, .int .i64 (takeC st).1.n, .string (takeC st).1.text] TC) (by simp [Value.oneCell']) (by unfold maxLen; omega) (by omega) ?_; intro v5 w5 hown hg hat; have HT5 := Lib.hid (Hht2.out.grown HR2.out.1 (by decide) HR2.out.2.1 hg); have HR5 := Lib.hid (RowO.next (stabC _) trivial (HR2.out.no (stabC _) (Step.alloc (Step.refl No w2) _)) (Nat.le_trans HB2.out (by simp)) (x := (takeC st).1) Hhx2.out hown hg hat); obtain ⟨A5, c5, rfl, -, -⟩ := row_slice hown; clear hown hg hat))
        go_roundw
        case rel => exact ⟨k + 1, rfl, each_next hlt Hhxl.out HB.out Hhev.out rfl HR5.out HT5.out⟩
        case measure => simp [RowKit.intOf]; omega
    · have he : n - k = 0 := by omega
      have HZ := Lib.hid he
      obtain rfl : k = n := by omega
      have Hhev := Lib.hid hev
      have Hhrow := Lib.hid hrow
      have Hht := Lib.hid ht
      have Hhxl := Lib.hid hxl
      clear hev hrow ht hxl
      clear he
      go_wp2
      go_ret
      exact each_end HN.out Hhev.out Hhrow.out Hht.out (.inr HZ.out)
end Go.Proofs.YtjeamfoicpgkhaaGreatDoor.Each
