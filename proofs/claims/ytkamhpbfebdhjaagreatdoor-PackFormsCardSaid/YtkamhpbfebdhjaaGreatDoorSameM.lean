/- Messages that are the same. -/
import Derived.Test.YtkamhpbfebdhjaaGreatDoorSameE
namespace Go.Proofs.YtkamhpbfebdhjaaGreatDoor.Same
open Go.RowKit Go.Lib Go.Proofs.YtkamhpbfebdhjaaGreatDoor Go.Proofs.YtkamhpbfebdhjaaGreatDoor.Mem Go.Proofs.YtkamhpbfebdhjaaGreatDoor.Read Go.Proofs.YtkamhpbfebdhjaaGreatDoor.AppSl Go.Proofs.YtkamhpbfebdhjaaGreatDoor.Tree Go.Proofs.YtkamhpbfebdhjaaGreatDoor.Data Go.Proofs.YtkamhpbfebdhjaaGreatDoor.CompR Go.Proofs.YtkamhpbfebdhjaaGreatDoor.MsgR
set_option linter.unusedVariables false
set_option linter.unusedSimpArgs false
abbrev TMs : TypeId := 33
theorem SamePost.yes {α : Type} {x : α} {w w' : World} {e : Ending} (h : SamePost x x w e w') : e = .returned (.bool true) ∧ Step No w w' := by
  obtain ⟨r, h1, h2, h3⟩ := h
  obtain rfl := h2.2 rfl
  exact ⟨h1, h3⟩
theorem text_ne {a b : ByteArray} (h : a ≠ b) : (a.toList == b.toList) = false := by
  rw [beq_eq_false_iff_ne, ByteArray.toList_eq, ByteArray.toList_eq]
  exact fun e => h (ByteArray.ext (Array.toList_inj.1 e))
set_option maxHeartbeats 16000000 in
set_option maxRecDepth 100000 in
theorem SameMsg_any (w : World) (m k : MsgD) (ev env nv ev' env' nv' : Value) (ha : MsgR w m ev env nv) (hb : MsgR w k ev' env' nv') : Calls Tryz.prog 11 #[aggM m ev env nv, aggM k ev' env' nv'] w (SamePost m k w) := by
  obtain ⟨A1, n1, rfl, -, -⟩ := comps_len ha.edit
  obtain ⟨A2, n2, rfl, -, -⟩ := sl_len ha.entries
  obtain ⟨A3, n3, rfl, -, -⟩ := nodes_len ha.nodes
  obtain ⟨B1, m1, rfl, -, -⟩ := comps_len hb.edit
  obtain ⟨B2, m2, rfl, -, -⟩ := sl_len hb.entries
  obtain ⟨B3, m3, rfl, -, -⟩ := nodes_len hb.nodes
  have HA := Lib.hid ha
  have HB := Lib.hid hb
  clear ha hb
  obtain ⟨kd, cl, rv, sq, fm, ls, rf, es, en, tx, ⟨rt, nx, ns⟩⟩ := m
  obtain ⟨kd', cl', rv', sq', fm', ls', rf', es', en', tx', ⟨rt', nx', ns'⟩⟩ := k
  unfold aggM msgCells
  simp only at HA HB ⊢
  have HBA : Hid (((w.alloc (.cells #[.int .i64 kd, .int .i64 cl, .int .i64 rv, .int .i64 sq, .int .i64 fm, .int .i64 ls, .bool rf, .slice A1 es.length n1, .slice A2 en.length n2, .string tx, .int .i64 rt, .int .i64 nx, .slice A3 ns.length n3] TMs)).alloc (.cells #[.int .i64 kd', .int .i64 cl', .int .i64 rv', .int .i64 sq', .int .i64 fm', .int .i64 ls', .bool rf', .slice B1 es'.length m1, .slice B2 en'.length m2, .string tx', .int .i64 rt', .int .i64 nx', .slice B3 ns'.length m3] TMs)).heap[w.heap.size]? = some (.cells #[.int .i64 kd, .int .i64 cl, .int .i64 rv, .int .i64 sq, .int .i64 fm, .int .i64 ls, .bool rf, .slice A1 es.length n1, .slice A2 en.length n2, .string tx, .int .i64 rt, .int .i64 nx, .slice A3 ns.length n3] TMs (0, 0))) := Lib.hid (blk_alloc (blk_new _ _) _)
  have HBB : Hid (((w.alloc (.cells #[.int .i64 kd, .int .i64 cl, .int .i64 rv, .int .i64 sq, .int .i64 fm, .int .i64 ls, .bool rf, .slice A1 es.length n1, .slice A2 en.length n2, .string tx, .int .i64 rt, .int .i64 nx, .slice A3 ns.length n3] TMs)).alloc (.cells #[.int .i64 kd', .int .i64 cl', .int .i64 rv', .int .i64 sq', .int .i64 fm', .int .i64 ls', .bool rf', .slice B1 es'.length m1, .slice B2 en'.length m2, .string tx', .int .i64 rt', .int .i64 nx', .slice B3 ns'.length m3] TMs)).heap[w.heap.size + 1]? = some (.cells #[.int .i64 kd', .int .i64 cl', .int .i64 rv', .int .i64 sq', .int .i64 fm', .int .i64 ls', .bool rf', .slice B1 es'.length m1, .slice B2 en'.length m2, .string tx', .int .i64 rt', .int .i64 nx', .slice B3 ns'.length m3] TMs (0, 0))) := Lib.hid (new2 _ _ _)
  have HW0 : Hid (Step No w ((w.alloc (.cells #[.int .i64 kd, .int .i64 cl, .int .i64 rv, .int .i64 sq, .int .i64 fm, .int .i64 ls, .bool rf, .slice A1 es.length n1, .slice A2 en.length n2, .string tx, .int .i64 rt, .int .i64 nx, .slice A3 ns.length n3] TMs)).alloc (.cells #[.int .i64 kd', .int .i64 cl', .int .i64 rv', .int .i64 sq', .int .i64 fm', .int .i64 ls', .bool rf', .slice B1 es'.length m1, .slice B2 en'.length m2, .string tx', .int .i64 rt', .int .i64 nx', .slice B3 ns'.length m3] TMs))) := Lib.hid (((Step.refl No w).alloc _).alloc _)
  go_enter Tryz.func11, Tryz.ntmps11
  go_upto_region 1 with (fail)
  generalize hW : World.alloc (World.alloc w _) _ = W at *
  clear hW
  generalize hh : w.heap.size + 1 = h at *
  generalize hg : w.heap.size = g at *
  clear hh hg
  have a0 := blk_cell HBA.out 0
  have b0 := blk_cell HBB.out 0
  have a1 := blk_cell HBA.out 1
  have b1 := blk_cell HBB.out 1
  have a2 := blk_cell HBA.out 2
  have b2 := blk_cell HBB.out 2
  have a3 := blk_cell HBA.out 3
  have b3 := blk_cell HBB.out 3
  have a4 := blk_cell HBA.out 4
  have b4 := blk_cell HBB.out 4
  have a5 := blk_cell HBA.out 5
  have b5 := blk_cell HBB.out 5
  have a6 := blk_cell HBA.out 6
  have b6 := blk_cell HBB.out 6
  have a7 := blk_cell HBA.out 7
  have b7 := blk_cell HBB.out 7
  have a8 := blk_cell HBA.out 8
  have b8 := blk_cell HBB.out 8
  have a9 := blk_cell HBA.out 9
  have b9 := blk_cell HBB.out 9
  have a10 := blk_cell HBA.out 10
  have b10 := blk_cell HBB.out 10
  have a11 := blk_cell HBA.out 11
  have b11 := blk_cell HBB.out 11
  have a12 := blk_cell HBA.out 12
  have b12 := blk_cell HBB.out 12
  simp at a0 b0 a1 b1 a2 b2 a3 b3 a4 b4 a5 b5 a6 b6 a7 b7 a8 b8 a9 b9 a10 b10 a11 b11 a12 b12
  by_cases qkd : kd = kd'
  · subst qkd
    by_cases qcl : cl = cl'
    · subst qcl
      by_cases qrv : rv = rv'
      · subst qrv
        by_cases qsq : sq = sq'
        · subst qsq
          by_cases qfm : fm = fm'
          · subst qfm
            by_cases qls : ls = ls'
            · subst qls
              by_cases qrf : rf = rf'
              · subst qrf
                by_cases qtx : tx = tx'
                · subst qtx
                  go_wp2_with fail
                  refine (SameComps_any _ es es' _ _ (CompsR.to HA.out.edit HW0.out) (CompsR.to HB.out.edit HW0.out)).mono ?_
                  rintro e w5 ⟨r, rfl, hr, hs⟩
                  have HR1 := Lib.hid hr
                  have HS5 := Lib.hid ((Step.refl No W).trans hs (fun _ f _ => f))
                  clear hr hs
                  have xa := HS5.out.blk HBA.out (fun f => f)
                  have xb := HS5.out.blk HBB.out (fun f => f)
                  have ca8 := blk_cell xa 8
                  have cb8 := blk_cell xb 8
                  have ca10 := blk_cell xa 10
                  have cb10 := blk_cell xb 10
                  have ca11 := blk_cell xa 11
                  have cb11 := blk_cell xb 11
                  have ca12 := blk_cell xa 12
                  have cb12 := blk_cell xb 12
                  simp at ca8 cb8 ca10 cb10 ca11 cb11 ca12 cb12
                  clear xa xb
                  cases r with
                  | false =>
                    have qq : ¬ es = es' := fun e => by have := HR1.out.2 e; cases this
                    have HF := Lib.hid qq
                    clear qq
                    go_wp2
                    go_ret
                    exact ⟨false, rfl, (Iff.intro (fun h => by cases h) (fun h => absurd ((MsgD.mk.inj h).2.2.2.2.2.2.2.1) HF.out)), HW0.out.trans HS5.out (fun _ f _ => f)⟩
                  | true =>
                    obtain rfl := HR1.out.1 (by simp)
                    go_wp2_with fail
                    refine (SameEntries_any _ en en' _ _ (EntriesR.to HA.out.entries (HW0.out.trans HS5.out (fun _ f _ => f))) (EntriesR.to HB.out.entries (HW0.out.trans HS5.out (fun _ f _ => f)))).mono ?_
                    rintro e w6 ⟨r, rfl, hr, hs⟩
                    have HR2 := Lib.hid hr
                    have HS6 := Lib.hid (HS5.out.trans hs (fun _ f _ => f))
                    clear hr hs
                    have xa := HS6.out.blk HBA.out (fun f => f)
                    have xb := HS6.out.blk HBB.out (fun f => f)
                    have da8 := blk_cell xa 8
                    have db8 := blk_cell xb 8
                    have da10 := blk_cell xa 10
                    have db10 := blk_cell xb 10
                    have da11 := blk_cell xa 11
                    have db11 := blk_cell xb 11
                    have da12 := blk_cell xa 12
                    have db12 := blk_cell xb 12
                    simp at da8 db8 da10 db10 da11 db11 da12 db12
                    clear xa xb
                    cases r with
                    | false =>
                      have qq : ¬ en = en' := fun e => by have := HR2.out.2 e; cases this
                      have HF := Lib.hid qq
                      clear qq
                      go_wp2
                      go_ret
                      exact ⟨false, rfl, (Iff.intro (fun h => by cases h) (fun h => absurd ((MsgD.mk.inj h).2.2.2.2.2.2.2.2.1) HF.out)), HW0.out.trans HS6.out (fun _ f _ => f)⟩
                    | true =>
                      obtain rfl := HR2.out.1 (by simp)
                      go_wp2_with fail
                      refine (SameTree_any _ ⟨rt, nx, ns⟩ ⟨rt', nx', ns'⟩ _ _ (NodesR.to HA.out.nodes (HW0.out.trans HS6.out (fun _ f _ => f))) (NodesR.to HB.out.nodes (HW0.out.trans HS6.out (fun _ f _ => f)))).mono ?_
                      rintro e w7 ⟨r, rfl, hr, hs⟩
                      have HR3 := Lib.hid hr
                      have HS7 := Lib.hid (HS6.out.trans hs (fun _ f _ => f))
                      clear hr hs
                      have HZ : Hid (r = true ↔ (⟨kd, cl, rv, sq, fm, ls, rf, es, en, tx, ⟨rt, nx, ns⟩⟩ : MsgD) = ⟨kd, cl, rv, sq, fm, ls, rf, es, en, tx, ⟨rt', nx', ns'⟩⟩) := Lib.hid ⟨fun h => by rw [HR3.out.1 h], fun h => HR3.out.2 ((MsgD.mk.inj h).2.2.2.2.2.2.2.2.2.2)⟩
                      go_wp2
                      go_ret
                      exact ⟨r, rfl, HZ.out, HW0.out.trans HS7.out (fun _ f _ => f)⟩
                ·
                  have hbtx := text_ne qtx
                  have HF := Lib.hid qtx
                  clear qtx
                  go_wp2
                  go_ret
                  exact ⟨false, rfl, (Iff.intro (fun h => by cases h) (fun h => absurd ((MsgD.mk.inj h).2.2.2.2.2.2.2.2.2.1) HF.out)), HW0.out.trans (Step.refl No W) (fun _ f _ => f)⟩
              ·
                have hbrf : (rf == rf') = false := beq_eq_false_iff_ne.2 qrf
                have HF := Lib.hid qrf
                clear qrf
                go_wp2
                go_ret
                exact ⟨false, rfl, (Iff.intro (fun h => by cases h) (fun h => absurd ((MsgD.mk.inj h).2.2.2.2.2.2.1) HF.out)), HW0.out.trans (Step.refl No W) (fun _ f _ => f)⟩
            ·
              have hbls : (ls == ls') = false := beq_eq_false_iff_ne.2 qls
              have HF := Lib.hid qls
              clear qls
              go_wp2
              go_ret
              exact ⟨false, rfl, (Iff.intro (fun h => by cases h) (fun h => absurd ((MsgD.mk.inj h).2.2.2.2.2.1) HF.out)), HW0.out.trans (Step.refl No W) (fun _ f _ => f)⟩
          ·
            have hbfm : (fm == fm') = false := beq_eq_false_iff_ne.2 qfm
            have HF := Lib.hid qfm
            clear qfm
            go_wp2
            go_ret
            exact ⟨false, rfl, (Iff.intro (fun h => by cases h) (fun h => absurd ((MsgD.mk.inj h).2.2.2.2.1) HF.out)), HW0.out.trans (Step.refl No W) (fun _ f _ => f)⟩
        ·
          have hbsq : (sq == sq') = false := beq_eq_false_iff_ne.2 qsq
          have HF := Lib.hid qsq
          clear qsq
          go_wp2
          go_ret
          exact ⟨false, rfl, (Iff.intro (fun h => by cases h) (fun h => absurd ((MsgD.mk.inj h).2.2.2.1) HF.out)), HW0.out.trans (Step.refl No W) (fun _ f _ => f)⟩
      ·
        have hbrv : (rv == rv') = false := beq_eq_false_iff_ne.2 qrv
        have HF := Lib.hid qrv
        clear qrv
        go_wp2
        go_ret
        exact ⟨false, rfl, (Iff.intro (fun h => by cases h) (fun h => absurd ((MsgD.mk.inj h).2.2.1) HF.out)), HW0.out.trans (Step.refl No W) (fun _ f _ => f)⟩
    ·
      have hbcl : (cl == cl') = false := beq_eq_false_iff_ne.2 qcl
      have HF := Lib.hid qcl
      clear qcl
      go_wp2
      go_ret
      exact ⟨false, rfl, (Iff.intro (fun h => by cases h) (fun h => absurd ((MsgD.mk.inj h).2.1) HF.out)), HW0.out.trans (Step.refl No W) (fun _ f _ => f)⟩
  ·
    have hbkd : (kd == kd') = false := beq_eq_false_iff_ne.2 qkd
    have HF := Lib.hid qkd
    clear qkd
    go_wp2
    go_ret
    exact ⟨false, rfl, (Iff.intro (fun h => by cases h) (fun h => absurd ((MsgD.mk.inj h).1) HF.out)), HW0.out.trans (Step.refl No W) (fun _ f _ => f)⟩
end Go.Proofs.YtkamhpbfebdhjaaGreatDoor.Same
