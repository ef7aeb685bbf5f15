/- Entries that are the same. -/
import Derived.Test.YtkamhpbfebdhjaaGreatDoorSameT
import Derived.Deep.RegionHeld3
namespace Go.Proofs.YtkamhpbfebdhjaaGreatDoor.Same
open Go.RowKit Go.Lib Go.Proofs.YtkamhpbfebdhjaaGreatDoor Go.Proofs.YtkamhpbfebdhjaaGreatDoor.Mem Go.Proofs.YtkamhpbfebdhjaaGreatDoor.Read Go.Proofs.YtkamhpbfebdhjaaGreatDoor.AppSl Go.Proofs.YtkamhpbfebdhjaaGreatDoor.Tree Go.Proofs.YtkamhpbfebdhjaaGreatDoor.Data Go.Proofs.YtkamhpbfebdhjaaGreatDoor.CompR Go.Proofs.YtkamhpbfebdhjaaGreatDoor.MsgR
set_option linter.unusedVariables false
set_option linter.unusedSimpArgs false

theorem SameD.no {α : Type} {x y : α} {w w' : World} {e : Ending} (h : SameD x y w e w') (hn : x ≠ y) : e = .returned (.bool false) ∧ ∃ m, w' = w.drewN m := by
  obtain ⟨r, h1, h2, h3⟩ := h
  cases r
  · exact ⟨h1, h3⟩
  · exact absurd (h2.1 rfl) hn
theorem SameD.yes {α : Type} {x y : α} {w w' : World} {e : Ending} (h : SameD x y w e w') (hn : x = y) : e = .returned (.bool true) ∧ ∃ m, w' = w.drewN m := by
  obtain ⟨r, h1, h2, h3⟩ := h
  cases r
  · exact absurd (h2.2 hn) (by simp)
  · exact ⟨h1, h3⟩
def CutE (w : World) (s t : EntryD) (v : Value) (wx : World) : Prop := ∃ b : Bool, v = .bool b ∧ (b = false ↔ s = t) ∧ Step No w wx
theorem cutE_no {w wx : World} {s t : EntryD} (h : s ≠ t) (hs : Step No w wx) : CutE w s t (.bool true) wx := ⟨true, rfl, ⟨fun e => (by cases e), fun e => absurd e h⟩, hs⟩
theorem cutE_yes {w wx : World} {s t : EntryD} (h : s = t) (hs : Step No w wx) : CutE w s t (.bool false) wx := ⟨false, rfl, ⟨fun _ => h, fun _ => rfl⟩, hs⟩
def CellsE (w : World) (p : Addr) (k : Nat) (a b : Int) (e d : Value) : Prop := w.cell? (p.add (k * 4)) = some (.int .i64 a) ∧ w.cell? ⟨(p.add (k * 4)).block, (p.add (k * 4)).off + 1, none⟩ = some (.int .i64 b) ∧ w.cell? ⟨(p.add (k * 4)).block, (p.add (k * 4)).off + 2, none⟩ = some e ∧ w.cell? ⟨(p.add (k * 4)).block, (p.add (k * 4)).off + 3, none⟩ = some d
theorem CellsE.to {w w' : World} {p : Addr} {k : Nat} {a b : Int} {e d : Value} (h : CellsE w p k a b e d) (hs : Step No w w') : CellsE w' p k a b e d := ⟨hs.cell h.1 (fun f => f), hs.cell h.2.1 (fun f => f), hs.cell h.2.2.1 (fun f => f), hs.cell h.2.2.2 (fun f => f)⟩
set_option maxHeartbeats 16000000 in
set_option maxRecDepth 100000 in
theorem SameEntries_any (w : World) (xs ys : List EntryD) (a b : Value) (ha : EntriesR w xs a) (hb : EntriesR w ys b) : Calls Tryz.prog 37 #[a, b] w (SamePost xs ys w) := by
  obtain ⟨A, c, rfl, h1, h2⟩ := sl_len ha
  obtain ⟨B, d, rfl, h3, h4⟩ := sl_len hb
  unfold maxLen at h2 h4
  have HA := Lib.hid ha
  have HB := Lib.hid hb
  clear ha hb
  by_cases hl : xs.length = ys.length
  · have hne : ((xs.length : Int) != (ys.length : Int)) = false := by rw [hl]; exact bne_self_eq_false _
    have hne' : (xs.length != ys.length) = false := by rw [hl]; exact bne_self_eq_false _
    have HL := Lib.hid hl
    clear hl
    go_enter Tryz.func37, Tryz.ntmps37
    go_wp2
    go_loopw [5] (fun i wr => ∃ k : Nat, k ≤ xs.length ∧ i = .int .i64 k ∧ Step No w wr ∧ ∀ j, j < k → xs[j]? = ys[j]?) (fun i _ => xs.length - (RowKit.intOf i).toNat)
    case atStart => exact ⟨0, Nat.zero_le _, rfl, Step.refl _ _, fun j h => absurd h (Nat.not_lt_zero _)⟩
    case round =>
      obtain ⟨k, hk, rfl, hs, he⟩ := hrel
      by_cases hlt : k < xs.length
      · have hlt2 : k < ys.length := by rw [← HL.out]; exact hlt
        have HA2 := Lib.hid (show EntriesR wr xs _ from EntriesR.to HA.out (id hs))
        have HB2 := Lib.hid (show EntriesR wr ys _ from EntriesR.to HB.out (id hs))
        obtain ⟨p, ev, dv, rfl, hev, hdv, c0, c1, c2, c3⟩ := entries_cells HA2.out k hlt
        obtain ⟨q, ev', dv', rfl, hev', hdv', d0, d1, d2, d3⟩ := entries_cells HB2.out k hlt2
        have hi1 : (k : Int) < xs.length := by omega
        have hi2 : (k : Int) < ys.length := by omega
        have hi0 : (0 : Int) ≤ k := by omega
        have HX : Hid (xs[k]? = some xs[k]) := Lib.hid (List.getElem?_eq_getElem hlt)
        have HY : Hid (ys[k]? = some ys[k]) := Lib.hid (List.getElem?_eq_getElem hlt2)
        generalize xs[k] = s at *
        generalize ys[k] = t at *
        have Hhe := Lib.hid he
        have Hhs := Lib.hid hs
        clear he hs
        have HE1 := Lib.hid hev
        have HE2 := Lib.hid hev'
        have HD1 := Lib.hid hdv
        have HD2 := Lib.hid hdv'
        obtain ⟨A1, n1, rfl, -, -⟩ := sl_len hev
        obtain ⟨A2, n2, rfl, -, -⟩ := sl_len hev'
        obtain ⟨A3, n3, rfl, -, -⟩ := sl_len hdv
        obtain ⟨A4, n4, rfl, -, -⟩ := sl_len hdv'
        clear hev hdv hev' hdv'
        obtain ⟨a0, a1, ae, ad⟩ := s
        obtain ⟨b0, b1, be, bd⟩ := t
        simp only at c0 c1 c2 c3 d0 d1 d2 d3 HE1 HE2 HD1 HD2
        have HP : Hid (CellsE wr p k a0 a1 (.slice A1 ae.length n1) (.slice A3 ad.length n3)) := Lib.hid ⟨c0, c1, c2, c3⟩
        have HQ : Hid (CellsE wr q k b0 b1 (.slice A2 be.length n2) (.slice A4 bd.length n4)) := Lib.hid ⟨d0, d1, d2, d3⟩
        go_upto_region 6 with (fail)
        by_cases q0 : a0 = b0
        · subst q0
          by_cases q1 : a1 = b1
          · subst q1
            by_cases qe : ae = be
            · subst qe
              go_cut [68] (fun s68 wx => CutE wr ⟨a0, a1, ae, ad⟩ ⟨a0, a1, ae, bd⟩ s68 wx)
              case first =>
                have HS : Hid (∀ w', Step No wr w' → (w'.cell? (p.add (k * 4)) = some (.int .i64 a0) ∧ w'.cell? ⟨(p.add (k * 4)).block, (p.add (k * 4)).off + 1, none⟩ = some (.int .i64 a1) ∧ w'.cell? ⟨(p.add (k * 4)).block, (p.add (k * 4)).off + 2, none⟩ = some (.slice A1 ae.length n1) ∧ w'.cell? ⟨(p.add (k * 4)).block, (p.add (k * 4)).off + 3, none⟩ = some (.slice A3 ad.length n3) ∧ w'.cell? (q.add (k * 4)) = some (.int .i64 a0) ∧ w'.cell? ⟨(q.add (k * 4)).block, (q.add (k * 4)).off + 1, none⟩ = some (.int .i64 a1) ∧ w'.cell? ⟨(q.add (k * 4)).block, (q.add (k * 4)).off + 2, none⟩ = some (.slice A2 ae.length n2) ∧ w'.cell? ⟨(q.add (k * 4)).block, (q.add (k * 4)).off + 3, none⟩ = some (.slice A4 bd.length n4))) := Lib.hid (fun w' hs => by obtain ⟨x0, x1, x2, x3⟩ := HP.out.to hs; obtain ⟨y0, y1, y2, y3⟩ := HQ.out.to hs; exact ⟨x0, x1, x2, x3, y0, y1, y2, y3⟩); go_region_held3 (fun w' => w'.cell? (p.add (k * 4)) = some (.int .i64 a0) ∧ w'.cell? ⟨(p.add (k * 4)).block, (p.add (k * 4)).off + 1, none⟩ = some (.int .i64 a1) ∧ w'.cell? ⟨(p.add (k * 4)).block, (p.add (k * 4)).off + 2, none⟩ = some (.slice A1 ae.length n1) ∧ w'.cell? ⟨(p.add (k * 4)).block, (p.add (k * 4)).off + 3, none⟩ = some (.slice A3 ad.length n3) ∧ w'.cell? (q.add (k * 4)) = some (.int .i64 a0) ∧ w'.cell? ⟨(q.add (k * 4)).block, (q.add (k * 4)).off + 1, none⟩ = some (.int .i64 a1) ∧ w'.cell? ⟨(q.add (k * 4)).block, (q.add (k * 4)).off + 2, none⟩ = some (.slice A2 ae.length n2) ∧ w'.cell? ⟨(q.add (k * 4)).block, (q.add (k * 4)).off + 3, none⟩ = some (.slice A4 bd.length n4)) (first | exact HS.out _ (Step.refl No wr).drew | exact HS.out _ (Step.refl No wr) | exact HS.out _ HS5.out | exact HS.out _ HS6.out) (first | (go_at_call 36; refine (SameComps_any _ ae ae _ _ (CompsR.to HE1.out (by repeat' (first | exact Step.refl _ _ | with_reducible assumption | refine Step.drew ?_ | refine Step.drewN ?_ _ | refine Step.alloc ?_ _))) (CompsR.to HE2.out (by repeat' (first | exact Step.refl _ _ | with_reducible assumption | refine Step.drew ?_ | refine Step.drewN ?_ _ | refine Step.alloc ?_ _)))).mono ?_; rintro e w5 ⟨r1, rfl, hr1, hs5⟩; obtain rfl := hr1.2 rfl; have HS5 := Lib.hid (Step.trans (F := No) (G := No) (show Step No wr _ from (by repeat' (first | exact Step.refl _ _ | with_reducible assumption | refine Step.drew ?_ | refine Step.drewN ?_ _ | refine Step.alloc ?_ _))) hs5 (fun _ f _ => f)); clear hr1 hs5) | (go_at_call 65; refine (SameSteps_any _ ad bd _ _ (StepsR.to HD1.out HS5.out) (StepsR.to HD2.out HS5.out)).mono ?_; rintro e w6 ⟨r2, rfl, hr2, hs6⟩; have HR2 := Lib.hid hr2; have HS6 := Lib.hid (Step.trans (F := No) (G := No) HS5.out hs6 (fun _ f _ => f)); clear hr2 hs6)); cases r2; (go_wp2; go_meet; exact cutE_no (fun e => by have := HR2.out.2 (EntryD.mk.inj e).2.2.2; cases this) HS6.out); (go_wp2; go_meet; exact cutE_yes (by rw [HR2.out.1 (by simp)]) HS6.out)
              case rest =>
                obtain ⟨b, rfl, hb, hs2⟩ := hcut
                have HBb := Lib.hid hb
                have HS2 := Lib.hid (Hhs.out.trans hs2 (fun _ f _ => f))
                clear c0 c1 c2 c3 d0 d1 d2 d3 hb hs2
                cases b with
                | false =>
                  go_wp2
                  go_roundw
                  case rel => exact ⟨k + 1, hlt, rfl, HS2.out, fun j hj => by
                      rcases Nat.lt_succ_iff_lt_or_eq.1 hj with h | rfl
                      · exact Hhe.out j h
                      · rw [HX.out, HY.out, HBb.out.1 (by simp)]⟩
                  case measure => simp [RowKit.intOf]; omega
                | true =>
                  have HF : Hid (xs ≠ ys) := Lib.hid (fun e => by have := HX.out; rw [e, HY.out] at this; injection this with this; have := HBb.out.2 this.symm; cases this)
                  go_wp2
                  go_ret
                  exact ⟨false, rfl, (Iff.intro (fun h => by cases h) (fun h => absurd h HF.out)), HS2.out⟩
            · have HN : Hid ((⟨a0, a1, ae, ad⟩ : EntryD) ≠ ⟨a0, a1, be, bd⟩) := Lib.hid (fun e => qe (EntryD.mk.inj e).2.2.1)
              have HNE := Lib.hid qe
              clear qe
              go_cut [68] (fun s68 wx => CutE wr ⟨a0, a1, ae, ad⟩ ⟨a0, a1, be, bd⟩ s68 wx)
              case first =>
                go_quiet ((go_at_call 36; exact Calls.quiet_of ((SameComps_dr _ ae be _ _ (CompsR.to HE1.out ((Step.refl No wr).drewN _)) (CompsR.to HE2.out ((Step.refl No wr).drewN _))).mono fun e w' h => h.no HNE.out))); go_wp2; go_meet; exact cutE_no HN.out ((Step.refl No wr).drewN _)
              case rest =>
                obtain ⟨b, rfl, hb, hs2⟩ := hcut
                have HBb := Lib.hid hb
                have HS2 := Lib.hid (Hhs.out.trans hs2 (fun _ f _ => f))
                clear c0 c1 c2 c3 d0 d1 d2 d3 hb hs2
                cases b with
                | false =>
                  go_wp2
                  go_roundw
                  case rel => exact ⟨k + 1, hlt, rfl, HS2.out, fun j hj => by
                      rcases Nat.lt_succ_iff_lt_or_eq.1 hj with h | rfl
                      · exact Hhe.out j h
                      · rw [HX.out, HY.out, HBb.out.1 (by simp)]⟩
                  case measure => simp [RowKit.intOf]; omega
                | true =>
                  have HF : Hid (xs ≠ ys) := Lib.hid (fun e => by have := HX.out; rw [e, HY.out] at this; injection this with this; have := HBb.out.2 this.symm; cases this)
                  go_wp2
                  go_ret
                  exact ⟨false, rfl, (Iff.intro (fun h => by cases h) (fun h => absurd h HF.out)), HS2.out⟩
          · have hb : (a1 != b1) = true := by rw [bne_iff_ne]; exact q1
            have HN : Hid ((⟨a0, a1, ae, ad⟩ : EntryD) ≠ ⟨a0, b1, be, bd⟩) := Lib.hid (fun e => q1 (EntryD.mk.inj e).2.1)
            clear q1
            go_cut [68] (fun s68 wx => CutE wr ⟨a0, a1, ae, ad⟩ ⟨a0, b1, be, bd⟩ s68 wx)
            case first =>
              go_quiet (fail); go_wp2; go_meet; exact cutE_no HN.out (by repeat' (first | exact Step.refl _ _ | with_reducible assumption | refine Step.drew ?_ | refine Step.drewN ?_ _ | refine Step.alloc ?_ _))
            case rest =>
              obtain ⟨b, rfl, hb, hs2⟩ := hcut
              have HBb := Lib.hid hb
              have HS2 := Lib.hid (Hhs.out.trans hs2 (fun _ f _ => f))
              clear c0 c1 c2 c3 d0 d1 d2 d3 hb hs2
              cases b with
              | false =>
                go_wp2
                go_roundw
                case rel => exact ⟨k + 1, hlt, rfl, HS2.out, fun j hj => by
                    rcases Nat.lt_succ_iff_lt_or_eq.1 hj with h | rfl
                    · exact Hhe.out j h
                    · rw [HX.out, HY.out, HBb.out.1 (by simp)]⟩
                case measure => simp [RowKit.intOf]; omega
              | true =>
                have HF : Hid (xs ≠ ys) := Lib.hid (fun e => by have := HX.out; rw [e, HY.out] at this; injection this with this; have := HBb.out.2 this.symm; cases this)
                go_wp2
                go_ret
                exact ⟨false, rfl, (Iff.intro (fun h => by cases h) (fun h => absurd h HF.out)), HS2.out⟩
        · have hb : (a0 != b0) = true := by rw [bne_iff_ne]; exact q0
          have HN : Hid ((⟨a0, a1, ae, ad⟩ : EntryD) ≠ ⟨b0, b1, be, bd⟩) := Lib.hid (fun e => q0 (EntryD.mk.inj e).1)
          clear q0
          go_cut [68] (fun s68 wx => CutE wr ⟨a0, a1, ae, ad⟩ ⟨b0, b1, be, bd⟩ s68 wx)
          case first =>
            go_quiet (fail); go_wp2; go_meet; exact cutE_no HN.out (by repeat' (first | exact Step.refl _ _ | with_reducible assumption | refine Step.drew ?_ | refine Step.drewN ?_ _ | refine Step.alloc ?_ _))
          case rest =>
            obtain ⟨b, rfl, hb, hs2⟩ := hcut
            have HBb := Lib.hid hb
            have HS2 := Lib.hid (Hhs.out.trans hs2 (fun _ f _ => f))
            clear c0 c1 c2 c3 d0 d1 d2 d3 hb hs2
            cases b with
            | false =>
              go_wp2
              go_roundw
              case rel => exact ⟨k + 1, hlt, rfl, HS2.out, fun j hj => by
                  rcases Nat.lt_succ_iff_lt_or_eq.1 hj with h | rfl
                  · exact Hhe.out j h
                  · rw [HX.out, HY.out, HBb.out.1 (by simp)]⟩
              case measure => simp [RowKit.intOf]; omega
            | true =>
              have HF : Hid (xs ≠ ys) := Lib.hid (fun e => by have := HX.out; rw [e, HY.out] at this; injection this with this; have := HBb.out.2 this.symm; cases this)
              go_wp2
              go_ret
              exact ⟨false, rfl, (Iff.intro (fun h => by cases h) (fun h => absurd h HF.out)), HS2.out⟩
      · have hke : k = xs.length := by omega
        subst hke
        have HT : Hid (xs = ys) := Lib.hid (by
          apply List.ext_getElem?
          intro j
          by_cases hj : j < xs.length
          · exact he j hj
          · rw [List.getElem?_eq_none (by omega), List.getElem?_eq_none (by rw [← HL.out]; omega)])
        have Hhe := Lib.hid he
        have Hhs := Lib.hid hs
        clear he hs
        go_wp2
        go_ret
        exact ⟨true, rfl, ⟨fun _ => HT.out, fun _ => rfl⟩, Hhs.out⟩
  · have hne : ((xs.length : Int) != (ys.length : Int)) = true := by rw [bne_iff_ne]; omega
    have hne' : (xs.length != ys.length) = true := by rw [bne_iff_ne]; exact hl
    have hd : Hid (xs ≠ ys) := Lib.hid (fun e => hl (by rw [e]))
    clear hl
    go_enter Tryz.func37, Tryz.ntmps37
    go_wp2
    go_ret
    exact ⟨false, rfl, (Iff.intro (fun h => by cases h) (fun h => absurd h hd.out)), Step.refl _ _⟩
end Go.Proofs.YtkamhpbfebdhjaaGreatDoor.Same
