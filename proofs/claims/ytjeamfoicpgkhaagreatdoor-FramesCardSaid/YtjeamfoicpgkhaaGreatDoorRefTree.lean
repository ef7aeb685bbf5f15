/- May a tree be? The reference's way. -/
import Derived.Test.YtjeamfoicpgkhaaGreatDoorTreeL
import Derived.Test.YtjeamfoicpgkhaaGreatDoorRefMay1
import Derived.Test.YtjeamfoicpgkhaaGreatDoorAlone
namespace Go.Proofs.YtjeamfoicpgkhaaGreatDoor.RefTree
open Go.RowKit Go.Lib Go.Proofs.YtjeamfoicpgkhaaGreatDoor.Mem Go.Proofs.YtjeamfoicpgkhaaGreatDoor.Read Go.Proofs.YtjeamfoicpgkhaaGreatDoor.Tree Go.Proofs.YtjeamfoicpgkhaaGreatDoor.Data Go.Proofs.YtjeamfoicpgkhaaGreatDoor.CompR Go.Proofs.YtjeamfoicpgkhaaGreatDoor.MsgR Go.Proofs.YtjeamfoicpgkhaaGreatDoor.May Go.Proofs.YtjeamfoicpgkhaaGreatDoor.TreeEq Go.Proofs.YtjeamfoicpgkhaaGreatDoor.TreeL
open Go.Proofs.YtjeamfoicpgkhaaGreatDoor.RefFind (posI Find_ref)
open Go.Proofs.YtjeamfoicpgkhaaGreatDoor.RefReach (reach_ref reach_le)
open Go.Proofs.YtjeamfoicpgkhaaGreatDoor.RefMay1 (leaf_ref)
open Go.Proofs.YtjeamfoicpgkhaaGreatDoor.Alone (tailB tail_yes tail_no)
open Go.Proofs.YtjeamfoicpgkhaaGreatDoor.CompMay (ret_bool)
open Go.Proofs.YtjeamfoicpgkhaaGreatDoor.Same (ints_cell)
set_option linter.unusedVariables false
set_option linter.unusedSimpArgs false
abbrev TI : TypeId := 3
abbrev TN : TypeId := 128
theorem infoIn : (Tryz.prog.info? TI).map (fun i => (i.zero, i.size, i.bytes)) = some (some (.int .i64 0), 1, 8) := by kernel_rfl
def numV (ps : List Nat) : List Value := ps.map fun (k : Nat) => Value.int .i64 (k : Int)
/-- The row of counts. -/
def PO (S : Nat) (w : World) (ps : List Nat) : Prop := w.heap[S]? = some (.cells (numV ps).toArray TI (0, 0))
theorem PO.at {S : Nat} {w : World} {ps : List Nat} (h : PO S w ps) {k c : Nat} (hk : ps[k]? = some c) : w.cell? ⟨S, k, none⟩ = some (.int .i64 (c : Int)) := by
  rw [blk_cell h]; simp [numV, hk]
theorem PO.set {S : Nat} {w : World} {ps : List Nat} (h : PO S w ps) (k c : Nat) : PO S (w.setCell ⟨S, k, none⟩ (.int .i64 (c : Int))) (ps.set k c) := by
  have := blk_set h k (.int .i64 (c : Int))
  unfold PO
  rw [this]
  congr 2
  refine Array.toList_inj.1 ?_
  simp [numV, List.map_set]
theorem made_zero (n : Nat) : madeCells #[.int .i64 0] n = (numV (List.replicate n 0)).toArray := by
  refine Array.ext (by simp [numV, size_madeCells]) fun i h1 h2 => ?_
  simp [numV, madeCells, Nat.mod_one]
def KidsN (ns : List NodeD) : Prop := ∀ x ∈ ns, x.kids.length ≤ 140737488355328
def Loop1 (t : TreeD) (size : Int) (S : Nat) (w1 : World) (q i : Value) (wr : World) : Prop :=
  ∃ k : Nat, k ≤ t.nodes.length ∧ i = .int .i64 k ∧ q = .int .i64 (((t.nodes.take k).filter fun x => decide (x.kind = 0)).length : Nat) ∧ Upto t size k ∧ PO S wr (cnt t.nodes.length ((t.nodes.take k).flatMap (kpos t.nodes))) ∧ Step No w1 wr
set_option maxHeartbeats 16000000 in
set_option maxRecDepth 100000 in
theorem Tree_lim (t : TreeD) (nv : Value) (size : Int) (w : World) (hx : NodesR w t.nodes nv) (hl : ¬ treeLim t size) : Calls Tryz.prog 66 #[aggT t nv, .int .i64 size] w fun e w' => e = .returned (.bool (treeB t size)) ∧ Step No w w' := by
  obtain ⟨rt, nx, ns⟩ := t
  unfold aggT
  simp only at *
  obtain ⟨A, c, rfl, h1, h2⟩ := sl_len hx
  unfold maxLen at h2
  have HX := Lib.hid hx
  have HL := Lib.hid hl
  clear hx h1 h2 hl
  by_cases l1 : ns.length < 1
  · have l1b : decide ((ns.length : Int) < 1) = true := decide_eq_true (by omega)
    have HN : Hid (treeB ⟨rt, nx, ns⟩ size = false) := Lib.hid (no_lim fun e => (by have := e.1; simp only at this; omega))
    clear l1
    go_enter Tryz.func66, Tryz.ntmps66
    go_wp2
    go_ret
    exact ⟨ret_bool HN.out.symm, (by repeat' (first | exact Step.refl _ _ | with_reducible assumption | refine Step.drew ?_ | refine Step.drewN ?_ _ | refine Step.alloc ?_ _))⟩
  by_cases l2 : 2048 < ns.length
  · have l2b : decide ((2048 : Int) < ns.length) = true := decide_eq_true (by omega)
    have l1b : decide ((ns.length : Int) < 1) = false := decide_eq_false (by omega)
    have HN : Hid (treeB ⟨rt, nx, ns⟩ size = false) := Lib.hid (no_lim fun e => (by have := e.2.1; simp only at this; omega))
    clear l1 l2
    go_enter Tryz.func66, Tryz.ntmps66
    go_wp2
    go_ret
    exact ⟨ret_bool HN.out.symm, (by repeat' (first | exact Step.refl _ _ | with_reducible assumption | refine Step.drew ?_ | refine Step.drewN ?_ _ | refine Step.alloc ?_ _))⟩
  have l1b : decide ((ns.length : Int) < 1) = false := decide_eq_false (by omega)
  have l2b : decide ((2048 : Int) < ns.length) = false := decide_eq_false (by omega)
  by_cases l3 : nx < 0
  · have HN : Hid (treeB ⟨rt, nx, ns⟩ size = false) := Lib.hid (no_lim fun e => (by have := e.2.2.1; simp only at this; omega))
    clear l1 l2
    go_enter Tryz.func66, Tryz.ntmps66
    go_wp2
    go_ret
    exact ⟨ret_bool HN.out.symm, (by repeat' (first | exact Step.refl _ _ | with_reducible assumption | refine Step.drew ?_ | refine Step.drewN ?_ _ | refine Step.alloc ?_ _))⟩
  by_cases l4 : 16777216 < nx
  · have HN : Hid (treeB ⟨rt, nx, ns⟩ size = false) := Lib.hid (no_lim fun e => (by have := e.2.2.2.1; simp only at this; omega))
    clear l1 l2
    go_enter Tryz.func66, Tryz.ntmps66
    go_wp2
    go_ret
    exact ⟨ret_bool HN.out.symm, (by repeat' (first | exact Step.refl _ _ | with_reducible assumption | refine Step.drew ?_ | refine Step.drewN ?_ _ | refine Step.alloc ?_ _))⟩
  by_cases l5 : size < 0
  · have HN : Hid (treeB ⟨rt, nx, ns⟩ size = false) := Lib.hid (no_lim fun e => (by have := e.2.2.2.2.1; omega))
    clear l1 l2
    go_enter Tryz.func66, Tryz.ntmps66
    go_wp2
    go_ret
    exact ⟨ret_bool HN.out.symm, (by repeat' (first | exact Step.refl _ _ | with_reducible assumption | refine Step.drew ?_ | refine Step.drewN ?_ _ | refine Step.alloc ?_ _))⟩
  by_cases l6 : 4096 < size
  · have HN : Hid (treeB ⟨rt, nx, ns⟩ size = false) := Lib.hid (no_lim fun e => (by have := e.2.2.2.2.2; omega))
    clear l1 l2
    go_enter Tryz.func66, Tryz.ntmps66
    go_wp2
    go_ret
    exact ⟨ret_bool HN.out.symm, (by repeat' (first | exact Step.refl _ _ | with_reducible assumption | refine Step.drew ?_ | refine Step.drewN ?_ _ | refine Step.alloc ?_ _))⟩
  exact absurd (show treeLim ⟨rt, nx, ns⟩ size from ⟨by simp only; omega, by simp only; omega, by simp only; omega, by simp only; omega, by omega, by omega⟩) HL.out
set_option maxHeartbeats 16000000 in
set_option maxRecDepth 100000 in
theorem Tree_in (t : TreeD) (nv : Value) (size : Int) (w : World) (hx : NodesR w t.nodes nv) (hk : KidsN t.nodes) (hl : treeLim t size) : Calls Tryz.prog 66 #[aggT t nv, .int .i64 size] w fun e w' => e = .returned (.bool (treeB t size)) ∧ Step No w w' := by
  obtain ⟨rt, nx, ns⟩ := t
  unfold aggT
  simp only at *
  obtain ⟨A, c, rfl, h1, h2⟩ := sl_len hx
  unfold maxLen at h2
  have HX := Lib.hid hx
  have HK := Lib.hid hk
  have HL := Lib.hid hl
  obtain ⟨q1, q2, q3, q4, q5, q6⟩ := hl
  simp only at q1 q2 q3 q4
  have l1 : ¬ ns.length < 1 := by omega
  have l2 : ¬ 2048 < ns.length := by omega
  have l1b : decide ((ns.length : Int) < 1) = false := decide_eq_false (by omega)
  have l2b : decide ((2048 : Int) < ns.length) = false := decide_eq_false (by omega)
  have l3 : ¬ nx < 0 := by omega
  have l4 : ¬ 16777216 < nx := by omega
  have l5 : ¬ size < 0 := by omega
  have l6 : ¬ 4096 < size := by omega
  clear hx hk h1 h2 q1 q2 q3 q4 q5 q6
  go_enter Tryz.func66, Tryz.ntmps66
  go_upto_region 1 with (fail)
  generalize hW : World.alloc w _ = w1 at *
  have HB1 := Lib.hid (show w1.heap[w.heap.size]? = some (.cells #[.int .i64 rt, .int .i64 nx, .slice A ns.length c] 26 (0, 0)) by rw [← hW]; exact blk_new w _)
  have HS1 : Hid (Step No w w1) := Lib.hid (by rw [← hW]; exact (Step.refl No w).alloc _)
  clear hW
  have HBx : Hid (∀ wx, Step No w1 wx → wx.cell? ⟨w.heap.size, 0, none⟩ = some (.int .i64 rt) ∧ wx.cell? ⟨w.heap.size, 1, none⟩ = some (.int .i64 nx) ∧ wx.cell? ⟨w.heap.size, 2, none⟩ = some (.slice A ns.length c)) := Lib.hid fun wx h =>
    have hb := h.blk HB1.out (fun f => f)
    ⟨blk_cell hb 0, blk_cell hb 1, blk_cell hb 2⟩
  have HX1 : Hid (∀ wx, Step No w1 wx → NodesR wx ns (.slice A ns.length c)) := Lib.hid fun wx h => (HX.out.to HS1.out).to h
  obtain ⟨b0, b1, b2⟩ := HBx.out w1 (Step.refl _ _)
  have hmk := run_make_row' (P := Tryz.prog) 49 TI (.int .i64 0) 8 Tryz.underlying49 infoIn rfl .i64 .i64 ns.length (by omega) (by omega)
  go_upto_region 6 with (fail)
  have hP : PO w1.heap.size (w1.alloc (.cells (madeCells #[.int .i64 0] ns.length) TI)) (cnt ns.length []) := by unfold PO; rw [cnt_nil, ← made_zero]; exact blk_new _ _
  have hs2 : Step No w1 (w1.alloc (.cells (madeCells #[.int .i64 0] ns.length) TI)) := (Step.refl _ _).alloc _
  obtain ⟨S, hSe⟩ : ∃ S, w1.heap.size = S := ⟨_, rfl⟩
  generalize hW : World.alloc w1 _ = w2 at *
  rw [hSe] at hP ⊢
  clear hmk hW b0 b1 b2
  have H0 : Hid (Loop1 ⟨rt, nx, ns⟩ size S w1 (.int .i64 0) (.int .i64 0) w2) := Lib.hid ⟨0, Nat.zero_le _, rfl, rfl, fun j h h0 => absurd h0 (Nat.not_lt_zero _), by simpa using hP, hs2⟩
  have HhSe := Lib.hid hSe
  have HhP := Lib.hid hP
  have Hhs2 := Lib.hid hs2
  clear hSe hP hs2
  go_wp2
  go_loopw [6, 8] (fun q i wr => Loop1 ⟨rt, nx, ns⟩ size S w1 q i wr) (fun _ i _ => ns.length - (RowKit.intOf i).toNat)
  case atStart => exact H0.out
  case round =>
    clear H0
    obtain ⟨k, hk, rfl, rfl, hall, hP, hs⟩ := hrel
    simp only at hk hall hP
    by_cases hlt : k < ns.length
    · obtain ⟨ad, kv, rfl, hkv, d0, d1, d2, d3, d4⟩ := nodes_cells HX.out k hlt
      obtain ⟨Ak, ck, rfl, hkc, hkm⟩ := sl_len hkv
      unfold maxLen at hkm
      have HW0 : Hid (Step No w wr) := Lib.hid (HS1.out.trans hs (fun _ f _ => f))
      have c0 := HW0.out.cell d0 (fun f => f)
      have c1 := HW0.out.cell d1 (fun f => f)
      have c2 := HW0.out.cell d2 (fun f => f)
      have c3 := HW0.out.cell d3 (fun f => f)
      have c4 := HW0.out.cell d4 (fun f => f)
      clear d0 d1 d2 d3 d4
      have hi1 : (k : Int) < ns.length := by omega
      have hi0 : (0 : Int) ≤ k := by omega
      have HPre : Hid (∀ m, k = m + 1 → wr.cell? (ad.add (m * 5)) = some (.int .i64 (prevId ns k)) ∧ 0 ≤ prevId ns k) := Lib.hid fun m hm => by
        subst hm
        obtain ⟨ad', kv', he, -, p0, -⟩ := nodes_cells (HX1.out wr hs) m (by omega)
        injection he with he
        subst he
        have e := prev_id (xs := ns) (m := m) (by omega)
        exact ⟨by rw [e]; exact p0, prev_pos hall (by simp only; omega)⟩
      have HKl := Lib.hid (HK.out _ (List.getElem_mem hlt))
      have HRt := Lib.hid (roots_take ns hlt)
      have HFl := Lib.hid (flat_take ns hlt)
      have HNoA := Lib.hid (fun h => no_alone (t := ⟨rt, nx, ns⟩) (size := size) (i := k) hlt h)
      have HNoK := Lib.hid (fun h => no_kids (t := ⟨rt, nx, ns⟩) (size := size) (i := k) hlt h)
      have HAll := Lib.hid (fun h1 h2 => hall.next (show k < (⟨rt, nx, ns⟩ : TreeD).nodes.length from hlt) h1 h2)
      simp only at HNoA HNoK HAll
      generalize ns[k] = x at *
      obtain ⟨id, kind, fr, up, ks⟩ := x
      have HPn := Lib.hid (prev_nn hall (show k ≤ (⟨rt, nx, ns⟩ : TreeD).nodes.length from hk))
      have HP0 : Hid (k = 0 → prevId ns k = -1) := Lib.hid fun e => by subst e; rfl
      simp only at HPn
      generalize prevId ns k = bf at *
      simp only at c0 c1 c2 c3 c4 hkc hkv HKl HNoA HNoK HAll HRt
      obtain ⟨b0, b1, b2⟩ := HBx.out wr hs
      have HKv := Lib.hid hkv
      clear hkv
      have Hhall := Lib.hid hall
      have HhP := Lib.hid hP
      have Hhs := Lib.hid hs
      clear hall hP hs
      go_upto_region 10 with (fail)
      clear c0 c1 c2 c3 c4 b0 b1 b2
      have hXb := blk_new wr (.cells #[.int .i64 id, .int .i64 kind, .int .i64 fr, .int .i64 up, .slice Ak ks.length ck] TN)
      have hs3 : Step No wr (wr.alloc (.cells #[.int .i64 id, .int .i64 kind, .int .i64 fr, .int .i64 up, .slice Ak ks.length ck] TN)) := (Step.refl _ _).alloc _
      obtain ⟨X, hXe⟩ : ∃ X, wr.heap.size = X := ⟨_, rfl⟩
      have HXS : Hid (S < X) := Lib.hid (by rw [← hXe]; exact blk_lt HhP.out)
      generalize hW : World.alloc wr _ = w3 at *
      rw [hXe] at hXb ⊢
      clear hW
      obtain ⟨b0, b1, b2⟩ := HBx.out w3 (Hhs.out.trans hs3 (fun _ f _ => f))
      have x0 : w3.cell? ⟨X, 0, none⟩ = some (.int .i64 id) := by rw [blk_cell hXb]; rfl
      have x1 : w3.cell? ⟨X, 1, none⟩ = some (.int .i64 kind) := by rw [blk_cell hXb]; rfl
      have x2 : w3.cell? ⟨X, 2, none⟩ = some (.int .i64 fr) := by rw [blk_cell hXb]; rfl
      have x3 : w3.cell? ⟨X, 3, none⟩ = some (.int .i64 up) := by rw [blk_cell hXb]; rfl
      have x4 : w3.cell? ⟨X, 4, none⟩ = some (.slice Ak ks.length ck) := by rw [blk_cell hXb]; rfl
      have HX3 := Lib.hid hXb
      have HPr3 : Hid (∀ m, k = m + 1 → w3.cell? (ad.add (m * 5)) = some (.int .i64 bf) ∧ 0 ≤ bf) := Lib.hid fun m hm => ⟨hs3.cell (HPre.out m hm).1 (fun f => f), (HPre.out m hm).2⟩
      clear hXb
      have Hhs3 := Lib.hid hs3
      have HhXe := Lib.hid hXe
      clear hs3 hXe
      go_cut [117] (fun s9 wx => s9 = .bool (!tailB nx size bf id kind fr up ks.length) ∧ Step No w3 wx)
      case first =>
        as_aux_lemma =>
          have HLe := Lib.hid (leaf_ref kind)
          rcases Nat.eq_zero_or_pos k with hk0 | hk0
          · have hb0 := HP0.out hk0
            subst hk0
            have H1 : Hid (0 ≤ id → bf < id) := Lib.hid fun h => by omega
            clear hb0
            refine wp_region_quiet_lit (by kernel_rfl) (by kernel_rfl) ?_
            repeat (go_big_quiet_step ((go_at_call 112; exact Calls.quiet_of_same (HLe.out _))))
            by_cases h0 : id < 0
            · rw [decide_eq_true h0]
              have HT : Hid (tailB nx size bf id kind fr up ks.length = false) := Lib.hid (tail_no fun e => by have := HPn.out; have := e; omega)
              clear h0
              repeat (go_big_quiet_step ((go_at_call 112; exact Calls.quiet_of_same (HLe.out _))))
              refine wpQuiet_nil ?_
              intro _ hw'
              obtain ⟨nq, hw''⟩ := hw'
              subst hw''
              go_wp2
              go_meet
              exact ⟨by rw [HT.out]; rfl, (by repeat' (first | exact Step.refl _ _ | with_reducible assumption | refine Step.drew ?_ | refine Step.drewN ?_ _ | refine Step.alloc ?_ _))⟩
            rw [decide_eq_false h0]
            repeat (go_big_quiet_step ((go_at_call 112; exact Calls.quiet_of_same (HLe.out _))))
            by_cases h1 : nx ≤ id
            · rw [decide_eq_true h1]
              have HT : Hid (tailB nx size bf id kind fr up ks.length = false) := Lib.hid (tail_no fun e => by have := HPn.out; have := e; omega)
              clear h0 h1
              repeat (go_big_quiet_step ((go_at_call 112; exact Calls.quiet_of_same (HLe.out _))))
              refine wpQuiet_nil ?_
              intro _ hw'
              obtain ⟨nq, hw''⟩ := hw'
              subst hw''
              go_wp2
              go_meet
              exact ⟨by rw [HT.out]; rfl, (by repeat' (first | exact Step.refl _ _ | with_reducible assumption | refine Step.drew ?_ | refine Step.drewN ?_ _ | refine Step.alloc ?_ _))⟩
            rw [decide_eq_false h1]
            repeat (go_big_quiet_step ((go_at_call 112; exact Calls.quiet_of_same (HLe.out _))))
            skip
            by_cases h3 : kind < 0
            · rw [decide_eq_true h3]
              have HT : Hid (tailB nx size bf id kind fr up ks.length = false) := Lib.hid (tail_no fun e => by have := HPn.out; have := e; omega)
              clear h0 h1 h3
              repeat (go_big_quiet_step ((go_at_call 112; exact Calls.quiet_of_same (HLe.out _))))
              refine wpQuiet_nil ?_
              intro _ hw'
              obtain ⟨nq, hw''⟩ := hw'
              subst hw''
              go_wp2
              go_meet
              exact ⟨by rw [HT.out]; rfl, (by repeat' (first | exact Step.refl _ _ | with_reducible assumption | refine Step.drew ?_ | refine Step.drewN ?_ _ | refine Step.alloc ?_ _))⟩
            rw [decide_eq_false h3]
            repeat (go_big_quiet_step ((go_at_call 112; exact Calls.quiet_of_same (HLe.out _))))
            by_cases h4 : 7 < kind
            · rw [decide_eq_true h4]
              have HT : Hid (tailB nx size bf id kind fr up ks.length = false) := Lib.hid (tail_no fun e => by have := HPn.out; have := e; omega)
              clear h0 h1 h3 h4
              repeat (go_big_quiet_step ((go_at_call 112; exact Calls.quiet_of_same (HLe.out _))))
              refine wpQuiet_nil ?_
              intro _ hw'
              obtain ⟨nq, hw''⟩ := hw'
              subst hw''
              go_wp2
              go_meet
              exact ⟨by rw [HT.out]; rfl, (by repeat' (first | exact Step.refl _ _ | with_reducible assumption | refine Step.drew ?_ | refine Step.drewN ?_ _ | refine Step.alloc ?_ _))⟩
            rw [decide_eq_false h4]
            repeat (go_big_quiet_step ((go_at_call 112; exact Calls.quiet_of_same (HLe.out _))))
            by_cases h5 : fr < 0
            · rw [decide_eq_true h5]
              have HT : Hid (tailB nx size bf id kind fr up ks.length = false) := Lib.hid (tail_no fun e => by have := HPn.out; have := e; omega)
              clear h0 h1 h3 h4 h5
              repeat (go_big_quiet_step ((go_at_call 112; exact Calls.quiet_of_same (HLe.out _))))
              refine wpQuiet_nil ?_
              intro _ hw'
              obtain ⟨nq, hw''⟩ := hw'
              subst hw''
              go_wp2
              go_meet
              exact ⟨by rw [HT.out]; rfl, (by repeat' (first | exact Step.refl _ _ | with_reducible assumption | refine Step.drew ?_ | refine Step.drewN ?_ _ | refine Step.alloc ?_ _))⟩
            rw [decide_eq_false h5]
            repeat (go_big_quiet_step ((go_at_call 112; exact Calls.quiet_of_same (HLe.out _))))
            by_cases h6 : up < fr
            · rw [decide_eq_true h6]
              have HT : Hid (tailB nx size bf id kind fr up ks.length = false) := Lib.hid (tail_no fun e => by have := HPn.out; have := e; omega)
              clear h0 h1 h3 h4 h5 h6
              repeat (go_big_quiet_step ((go_at_call 112; exact Calls.quiet_of_same (HLe.out _))))
              refine wpQuiet_nil ?_
              intro _ hw'
              obtain ⟨nq, hw''⟩ := hw'
              subst hw''
              go_wp2
              go_meet
              exact ⟨by rw [HT.out]; rfl, (by repeat' (first | exact Step.refl _ _ | with_reducible assumption | refine Step.drew ?_ | refine Step.drewN ?_ _ | refine Step.alloc ?_ _))⟩
            rw [decide_eq_false h6]
            repeat (go_big_quiet_step ((go_at_call 112; exact Calls.quiet_of_same (HLe.out _))))
            by_cases h7 : size < up
            · rw [decide_eq_true h7]
              have HT : Hid (tailB nx size bf id kind fr up ks.length = false) := Lib.hid (tail_no fun e => by have := HPn.out; have := e; omega)
              clear h0 h1 h3 h4 h5 h6 h7
              repeat (go_big_quiet_step ((go_at_call 112; exact Calls.quiet_of_same (HLe.out _))))
              refine wpQuiet_nil ?_
              intro _ hw'
              obtain ⟨nq, hw''⟩ := hw'
              subst hw''
              go_wp2
              go_meet
              exact ⟨by rw [HT.out]; rfl, (by repeat' (first | exact Step.refl _ _ | with_reducible assumption | refine Step.drew ?_ | refine Step.drewN ?_ _ | refine Step.alloc ?_ _))⟩
            rw [decide_eq_false h7]
            repeat (go_big_quiet_step ((go_at_call 112; exact Calls.quiet_of_same (HLe.out _))))
            have HH : Hid (bf < id ∧ id < nx ∧ 0 ≤ kind ∧ kind ≤ 7 ∧ 0 ≤ fr ∧ fr ≤ up ∧ up ≤ size) := Lib.hid ⟨H1.out (by omega), by omega, by omega, by omega, by omega, by omega, by omega⟩
            clear h0 h1 h3 h4 h5 h6 h7
            by_cases hlf : leafP kind
            · rw [decide_eq_true hlf]
              have HLf := Lib.hid hlf
              clear hlf
              by_cases h8 : ks.length = 0
              · have h8b : decide ((0 : Int) < ks.length) = false := decide_eq_false (by omega)
                have h8n : decide (0 < ks.length) = false := decide_eq_false (by omega)
                have HT : Hid (tailB nx size bf id kind fr up ks.length = true) := Lib.hid (tail_yes ⟨HH.out.1, HH.out.2.1, HH.out.2.2.1, HH.out.2.2.2.1, HH.out.2.2.2.2.1, HH.out.2.2.2.2.2.1, HH.out.2.2.2.2.2.2, fun _ => h8⟩)
                clear h8
                repeat (go_big_quiet_step ((go_at_call 112; exact Calls.quiet_of_same (HLe.out _))))
                refine wpQuiet_nil ?_
                intro _ hw'
                obtain ⟨nq, hw''⟩ := hw'
                subst hw''
                go_wp2
                go_meet
                exact ⟨by rw [HT.out]; rfl, (by repeat' (first | exact Step.refl _ _ | with_reducible assumption | refine Step.drew ?_ | refine Step.drewN ?_ _ | refine Step.alloc ?_ _))⟩
              · have h8b : decide ((0 : Int) < ks.length) = true := decide_eq_true (by omega)
                have h8n : decide (0 < ks.length) = true := decide_eq_true (by omega)
                have HT : Hid (tailB nx size bf id kind fr up ks.length = false) := Lib.hid (tail_no fun e => h8 (e.2.2.2.2.2.2.2 HLf.out))
                clear h8
                repeat (go_big_quiet_step ((go_at_call 112; exact Calls.quiet_of_same (HLe.out _))))
                refine wpQuiet_nil ?_
                intro _ hw'
                obtain ⟨nq, hw''⟩ := hw'
                subst hw''
                go_wp2
                go_meet
                exact ⟨by rw [HT.out]; rfl, (by repeat' (first | exact Step.refl _ _ | with_reducible assumption | refine Step.drew ?_ | refine Step.drewN ?_ _ | refine Step.alloc ?_ _))⟩
            · rw [decide_eq_false hlf]
              have HT : Hid (tailB nx size bf id kind fr up ks.length = true) := Lib.hid (tail_yes ⟨HH.out.1, HH.out.2.1, HH.out.2.2.1, HH.out.2.2.2.1, HH.out.2.2.2.2.1, HH.out.2.2.2.2.2.1, HH.out.2.2.2.2.2.2, fun e => absurd e hlf⟩)
              clear hlf
              repeat (go_big_quiet_step ((go_at_call 112; exact Calls.quiet_of_same (HLe.out _))))
              refine wpQuiet_nil ?_
              intro _ hw'
              obtain ⟨nq, hw''⟩ := hw'
              subst hw''
              go_wp2
              go_meet
              exact ⟨by rw [HT.out]; rfl, (by repeat' (first | exact Step.refl _ _ | with_reducible assumption | refine Step.drew ?_ | refine Step.drewN ?_ _ | refine Step.alloc ?_ _))⟩
          · obtain ⟨m, rfl⟩ : ∃ m, k = m + 1 := ⟨k - 1, by omega⟩
            obtain ⟨p0, hp0⟩ := HPr3.out m rfl
            have hm0 : (0 : Int) ≤ m := by omega
            have hm1 : (m : Int) < ns.length := by omega
            have hmw : IntKind.i64.wrap (((m + 1 : Nat) : Int) - 1) = (m : Int) := by rw [IntWalk.i64_in _ ⟨by omega, by omega⟩]; omega
            have hmp : decide ((0 : Int) < ((m + 1 : Nat) : Int)) = true := decide_eq_true (by omega)
            refine wp_region_quiet_lit (by kernel_rfl) (by kernel_rfl) ?_
            repeat (go_big_quiet_step ((go_at_call 112; exact Calls.quiet_of_same (HLe.out _))))
            by_cases h0 : id < 0
            · rw [decide_eq_true h0]
              have HT : Hid (tailB nx size bf id kind fr up ks.length = false) := Lib.hid (tail_no fun e => by have := HPn.out; have := e; omega)
              clear h0
              repeat (go_big_quiet_step ((go_at_call 112; exact Calls.quiet_of_same (HLe.out _))))
              refine wpQuiet_nil ?_
              intro _ hw'
              obtain ⟨nq, hw''⟩ := hw'
              subst hw''
              go_wp2
              go_meet
              exact ⟨by rw [HT.out]; rfl, (by repeat' (first | exact Step.refl _ _ | with_reducible assumption | refine Step.drew ?_ | refine Step.drewN ?_ _ | refine Step.alloc ?_ _))⟩
            rw [decide_eq_false h0]
            repeat (go_big_quiet_step ((go_at_call 112; exact Calls.quiet_of_same (HLe.out _))))
            by_cases h1 : nx ≤ id
            · rw [decide_eq_true h1]
              have HT : Hid (tailB nx size bf id kind fr up ks.length = false) := Lib.hid (tail_no fun e => by have := HPn.out; have := e; omega)
              clear h0 h1
              repeat (go_big_quiet_step ((go_at_call 112; exact Calls.quiet_of_same (HLe.out _))))
              refine wpQuiet_nil ?_
              intro _ hw'
              obtain ⟨nq, hw''⟩ := hw'
              subst hw''
              go_wp2
              go_meet
              exact ⟨by rw [HT.out]; rfl, (by repeat' (first | exact Step.refl _ _ | with_reducible assumption | refine Step.drew ?_ | refine Step.drewN ?_ _ | refine Step.alloc ?_ _))⟩
            rw [decide_eq_false h1]
            repeat (go_big_quiet_step ((go_at_call 112; exact Calls.quiet_of_same (HLe.out _))))
            by_cases h2 : id ≤ bf
            · rw [decide_eq_true h2]
              have HT : Hid (tailB nx size bf id kind fr up ks.length = false) := Lib.hid (tail_no fun e => by have := HPn.out; have := e; omega)
              clear h0 h1 h2
              repeat (go_big_quiet_step ((go_at_call 112; exact Calls.quiet_of_same (HLe.out _))))
              refine wpQuiet_nil ?_
              intro _ hw'
              obtain ⟨nq, hw''⟩ := hw'
              subst hw''
              go_wp2
              go_meet
              exact ⟨by rw [HT.out]; rfl, (by repeat' (first | exact Step.refl _ _ | with_reducible assumption | refine Step.drew ?_ | refine Step.drewN ?_ _ | refine Step.alloc ?_ _))⟩
            rw [decide_eq_false h2]
            repeat (go_big_quiet_step ((go_at_call 112; exact Calls.quiet_of_same (HLe.out _))))
            have H1 : Hid (0 ≤ id → bf < id) := Lib.hid fun h => by omega
            clear h2
            by_cases h3 : kind < 0
            · rw [decide_eq_true h3]
              have HT : Hid (tailB nx size bf id kind fr up ks.length = false) := Lib.hid (tail_no fun e => by have := HPn.out; have := e; omega)
              clear h0 h1 h3
              repeat (go_big_quiet_step ((go_at_call 112; exact Calls.quiet_of_same (HLe.out _))))
              refine wpQuiet_nil ?_
              intro _ hw'
              obtain ⟨nq, hw''⟩ := hw'
              subst hw''
              go_wp2
              go_meet
              exact ⟨by rw [HT.out]; rfl, (by repeat' (first | exact Step.refl _ _ | with_reducible assumption | refine Step.drew ?_ | refine Step.drewN ?_ _ | refine Step.alloc ?_ _))⟩
            rw [decide_eq_false h3]
            repeat (go_big_quiet_step ((go_at_call 112; exact Calls.quiet_of_same (HLe.out _))))
            by_cases h4 : 7 < kind
            · rw [decide_eq_true h4]
              have HT : Hid (tailB nx size bf id kind fr up ks.length = false) := Lib.hid (tail_no fun e => by have := HPn.out; have := e; omega)
              clear h0 h1 h3 h4
              repeat (go_big_quiet_step ((go_at_call 112; exact Calls.quiet_of_same (HLe.out _))))
              refine wpQuiet_nil ?_
              intro _ hw'
              obtain ⟨nq, hw''⟩ := hw'
              subst hw''
              go_wp2
              go_meet
              exact ⟨by rw [HT.out]; rfl, (by repeat' (first | exact Step.refl _ _ | with_reducible assumption | refine Step.drew ?_ | refine Step.drewN ?_ _ | refine Step.alloc ?_ _))⟩
            rw [decide_eq_false h4]
            repeat (go_big_quiet_step ((go_at_call 112; exact Calls.quiet_of_same (HLe.out _))))
            by_cases h5 : fr < 0
            · rw [decide_eq_true h5]
              have HT : Hid (tailB nx size bf id kind fr up ks.length = false) := Lib.hid (tail_no fun e => by have := HPn.out; have := e; omega)
              clear h0 h1 h3 h4 h5
              repeat (go_big_quiet_step ((go_at_call 112; exact Calls.quiet_of_same (HLe.out _))))
              refine wpQuiet_nil ?_
              intro _ hw'
              obtain ⟨nq, hw''⟩ := hw'
              subst hw''
              go_wp2
              go_meet
              exact ⟨by rw [HT.out]; rfl, (by repeat' (first | exact Step.refl _ _ | with_reducible assumption | refine Step.drew ?_ | refine Step.drewN ?_ _ | refine Step.alloc ?_ _))⟩
            rw [decide_eq_false h5]
            repeat (go_big_quiet_step ((go_at_call 112; exact Calls.quiet_of_same (HLe.out _))))
            by_cases h6 : up < fr
            · rw [decide_eq_true h6]
              have HT : Hid (tailB nx size bf id kind fr up ks.length = false) := Lib.hid (tail_no fun e => by have := HPn.out; have := e; omega)
              clear h0 h1 h3 h4 h5 h6
              repeat (go_big_quiet_step ((go_at_call 112; exact Calls.quiet_of_same (HLe.out _))))
              refine wpQuiet_nil ?_
              intro _ hw'
              obtain ⟨nq, hw''⟩ := hw'
              subst hw''
              go_wp2
              go_meet
              exact ⟨by rw [HT.out]; rfl, (by repeat' (first | exact Step.refl _ _ | with_reducible assumption | refine Step.drew ?_ | refine Step.drewN ?_ _ | refine Step.alloc ?_ _))⟩
            rw [decide_eq_false h6]
            repeat (go_big_quiet_step ((go_at_call 112; exact Calls.quiet_of_same (HLe.out _))))
            by_cases h7 : size < up
            · rw [decide_eq_true h7]
              have HT : Hid (tailB nx size bf id kind fr up ks.length = false) := Lib.hid (tail_no fun e => by have := HPn.out; have := e; omega)
              clear h0 h1 h3 h4 h5 h6 h7
              repeat (go_big_quiet_step ((go_at_call 112; exact Calls.quiet_of_same (HLe.out _))))
              refine wpQuiet_nil ?_
              intro _ hw'
              obtain ⟨nq, hw''⟩ := hw'
              subst hw''
              go_wp2
              go_meet
              exact ⟨by rw [HT.out]; rfl, (by repeat' (first | exact Step.refl _ _ | with_reducible assumption | refine Step.drew ?_ | refine Step.drewN ?_ _ | refine Step.alloc ?_ _))⟩
            rw [decide_eq_false h7]
            repeat (go_big_quiet_step ((go_at_call 112; exact Calls.quiet_of_same (HLe.out _))))
            have HH : Hid (bf < id ∧ id < nx ∧ 0 ≤ kind ∧ kind ≤ 7 ∧ 0 ≤ fr ∧ fr ≤ up ∧ up ≤ size) := Lib.hid ⟨H1.out (by omega), by omega, by omega, by omega, by omega, by omega, by omega⟩
            clear h0 h1 h3 h4 h5 h6 h7
            by_cases hlf : leafP kind
            · rw [decide_eq_true hlf]
              have HLf := Lib.hid hlf
              clear hlf
              by_cases h8 : ks.length = 0
              · have h8b : decide ((0 : Int) < ks.length) = false := decide_eq_false (by omega)
                have h8n : decide (0 < ks.length) = false := decide_eq_false (by omega)
                have HT : Hid (tailB nx size bf id kind fr up ks.length = true) := Lib.hid (tail_yes ⟨HH.out.1, HH.out.2.1, HH.out.2.2.1, HH.out.2.2.2.1, HH.out.2.2.2.2.1, HH.out.2.2.2.2.2.1, HH.out.2.2.2.2.2.2, fun _ => h8⟩)
                clear h8
                repeat (go_big_quiet_step ((go_at_call 112; exact Calls.quiet_of_same (HLe.out _))))
                refine wpQuiet_nil ?_
                intro _ hw'
                obtain ⟨nq, hw''⟩ := hw'
                subst hw''
                go_wp2
                go_meet
                exact ⟨by rw [HT.out]; rfl, (by repeat' (first | exact Step.refl _ _ | with_reducible assumption | refine Step.drew ?_ | refine Step.drewN ?_ _ | refine Step.alloc ?_ _))⟩
              · have h8b : decide ((0 : Int) < ks.length) = true := decide_eq_true (by omega)
                have h8n : decide (0 < ks.length) = true := decide_eq_true (by omega)
                have HT : Hid (tailB nx size bf id kind fr up ks.length = false) := Lib.hid (tail_no fun e => h8 (e.2.2.2.2.2.2.2 HLf.out))
                clear h8
                repeat (go_big_quiet_step ((go_at_call 112; exact Calls.quiet_of_same (HLe.out _))))
                refine wpQuiet_nil ?_
                intro _ hw'
                obtain ⟨nq, hw''⟩ := hw'
                subst hw''
                go_wp2
                go_meet
                exact ⟨by rw [HT.out]; rfl, (by repeat' (first | exact Step.refl _ _ | with_reducible assumption | refine Step.drew ?_ | refine Step.drewN ?_ _ | refine Step.alloc ?_ _))⟩
            · rw [decide_eq_false hlf]
              have HT : Hid (tailB nx size bf id kind fr up ks.length = true) := Lib.hid (tail_yes ⟨HH.out.1, HH.out.2.1, HH.out.2.2.1, HH.out.2.2.2.1, HH.out.2.2.2.2.1, HH.out.2.2.2.2.2.1, HH.out.2.2.2.2.2.2, fun e => absurd e hlf⟩)
              clear hlf
              repeat (go_big_quiet_step ((go_at_call 112; exact Calls.quiet_of_same (HLe.out _))))
              refine wpQuiet_nil ?_
              intro _ hw'
              obtain ⟨nq, hw''⟩ := hw'
              subst hw''
              go_wp2
              go_meet
              exact ⟨by rw [HT.out]; rfl, (by repeat' (first | exact Step.refl _ _ | with_reducible assumption | refine Step.drew ?_ | refine Step.drewN ?_ _ | refine Step.alloc ?_ _))⟩
      case rest =>
        obtain ⟨rfl, hs9⟩ := hcut
        obtain ⟨wx, hwx⟩ : ∃ wx, wx = wc := ⟨_, rfl⟩
        subst hwx
        obtain ⟨wo, hwo⟩ : ∃ wo, wo = wr := ⟨_, rfl⟩
        subst hwo
        clear b0 b1 b2 x0 x1 x2 x3 x4
        have HS9 : Hid (Step No wo wx) := Lib.hid (Hhs3.out.trans hs9 (fun _ f _ => f))
        have HX9 := Lib.hid (hs9.blk HX3.out (fun f => f))
        have HP9 : Hid (PO S wx (cnt ns.length ((ns.take k).flatMap (kpos ns)))) := Lib.hid (HS9.out.blk HhP.out (fun f => f))
        have HW9 : Hid (Step No w1 wx) := Lib.hid (Hhs.out.trans HS9.out (fun _ f _ => f))
        have HWw : Hid (Step No w wx) := Lib.hid (HS1.out.trans HW9.out (fun _ f _ => f))
        clear hs9 HPr3 HPre HX3 HP0 HPn
        obtain ⟨b0, b1, b2⟩ := HBx.out wx HW9.out
        have x0 : wx.cell? ⟨X, 0, none⟩ = some (.int .i64 id) := by rw [blk_cell HX9.out]; rfl
        have x1 : wx.cell? ⟨X, 1, none⟩ = some (.int .i64 kind) := by rw [blk_cell HX9.out]; rfl
        have x2 : wx.cell? ⟨X, 2, none⟩ = some (.int .i64 fr) := by rw [blk_cell HX9.out]; rfl
        have x3 : wx.cell? ⟨X, 3, none⟩ = some (.int .i64 up) := by rw [blk_cell HX9.out]; rfl
        have x4 : wx.cell? ⟨X, 4, none⟩ = some (.slice Ak ks.length ck) := by rw [blk_cell HX9.out]; rfl
        cases htl : tailB nx size bf id kind fr up ks.length with
        | false =>
          have HN : Hid (treeB ⟨rt, nx, ns⟩ size = false) := Lib.hid (HNoA.out fun ha => by have := tail_yes ha.2; rw [this] at htl; cases htl)
          clear htl
          go_wp2
          go_ret
          exact ⟨ret_bool HN.out.symm, HWw.out⟩
        | true =>
          have HTl : Hid (bf < id ∧ id < nx ∧ 0 ≤ kind ∧ kind ≤ 7 ∧ 0 ≤ fr ∧ fr ≤ up ∧ up ≤ size ∧ (leafP kind → ks.length = 0)) := Lib.hid (of_decide_eq_true htl)
          clear htl
          have HQw : Hid (((ns.take k).filter fun x => decide (x.kind = 0)).length ≤ 2048) := Lib.hid (by
            have := List.length_filter_le (fun x : NodeD => decide (x.kind = 0)) (ns.take k)
            rw [List.length_take] at this
            omega)
          have hqw := HQw.out
          have HL0 : Hid (((ns.take k).flatMap (kpos ns)).length ≤ 2048 * 140737488355328) := Lib.hid (by
            have h1 := count_le ns 140737488355328 (ns.take k) (fun y hy => HK.out y (List.mem_of_mem_take hy))
            have h2 : (ns.take k).length ≤ 2048 := by rw [List.length_take]; omega
            exact Nat.le_trans h1 (Nat.mul_le_mul_right _ h2))
          generalize hL0 : (ns.take k).flatMap (kpos ns) = L0 at *
          generalize hQ0 : ((ns.take k).filter fun x => decide (x.kind = 0)).length = q0 at *
          clear hL0 hQ0
          have hqw1 : IntKind.i64.wrap ((q0 : Int) + 1) = ((q0 + 1 : Nat) : Int) := by rw [IntWalk.i64_in _ ⟨by omega, by omega⟩]; omega
          go_upto_if 120 with (fail)
          go_cut [6] (fun s6 wy => s6 = .int .i64 ((q0 + (if kind = 0 then 1 else 0) : Nat) : Int) ∧ aloneP ⟨rt, nx, ns⟩ size bf ⟨id, kind, fr, up, ks⟩ ∧ wx = wy)
          case first =>
            by_cases hk0 : kind = 0
            · subst hk0
              have HI : ∀ n : Nat, (n + if (0 : Int) = 0 then 1 else 0) = n + 1 := fun n => by simp
              by_cases e1 : id = rt
              rotate_left
              · have e1b : (id == rt) = false := beq_eq_false_iff_ne.2 e1
                have HN : Hid (treeB ⟨rt, nx, ns⟩ size = false) := Lib.hid (HNoA.out fun ha => e1 (ha.1 rfl).1)
                go_wp2
                go_ret
                exact ⟨ret_bool HN.out.symm, HWw.out⟩
              subst e1
              by_cases e2 : fr = 0
              rotate_left
              · have e2b : (fr == 0) = false := beq_eq_false_iff_ne.2 e2
                have HN : Hid (treeB ⟨id, nx, ns⟩ size = false) := Lib.hid (HNoA.out fun ha => e2 (ha.1 rfl).2.1)
                go_wp2
                go_ret
                exact ⟨ret_bool HN.out.symm, HWw.out⟩
              subst e2
              by_cases e3 : up = size
              rotate_left
              · have e3b : (up == size) = false := beq_eq_false_iff_ne.2 e3
                have HN : Hid (treeB ⟨id, nx, ns⟩ size = false) := Lib.hid (HNoA.out fun ha => e3 (ha.1 rfl).2.2)
                go_wp2
                go_ret
                exact ⟨ret_bool HN.out.symm, HWw.out⟩
              subst e3
              go_wp2
              go_meet
              exact ⟨by rw [HI, Int.natCast_add]; rfl, ⟨fun _ => ⟨rfl, rfl, rfl⟩, HTl.out⟩, rfl⟩
            · have k0b : (kind == 0) = false := beq_eq_false_iff_ne.2 hk0
              have HI : Hid (∀ n : Nat, (n + if kind = 0 then 1 else 0) = n) := Lib.hid fun n => by rw [if_neg hk0]; rfl
              have HK0 := Lib.hid hk0
              clear hk0
              go_wp2
              go_meet
              exact ⟨by rw [HI.out], ⟨fun e => absurd e HK0.out, HTl.out⟩, rfl⟩
          case rest =>
            obtain ⟨rfl, hal, hwy⟩ := hcut
            subst hwy
            have HAl := Lib.hid hal
            obtain ⟨q1, hq1⟩ : ∃ q1, q0 + (if kind = 0 then 1 else 0) = q1 := ⟨_, rfl⟩
            rw [hq1]
            have HQ1 := Lib.hid hq1
            clear hal hqw1 b0 b1 b2 x0 x1 x3 hq1
            go_wp2
            go_loopw [10, 11] (fun f i wv => ∃ (j : Nat) (f' : Int), j ≤ ks.length ∧ i = .int .i64 j ∧ f = .int .i64 f' ∧ (kidsOk ns up ks fr ↔ kidsOk ns up (ks.drop j) f') ∧ PO S wv (cnt ns.length (L0 ++ (ks.take j).filterMap (posOf ns))) ∧ Step (fun i => i = S) wx wv) (fun _ i _ => ks.length - (RowKit.intOf i).toNat)
            case atStart => exact ⟨0, fr, Nat.zero_le _, rfl, rfl, Iff.rfl, by simpa using HP9.out, Step.refl _ _⟩
            case round =>
              obtain ⟨j, f, hj, rfl, rfl, hok, hpo, hst⟩ := hrel
              obtain ⟨wv, hwv⟩ : ∃ wv, wv = wr := ⟨_, rfl⟩
              subst hwv
              have HOk := Lib.hid hok
              have HPo := Lib.hid hpo
              have HSt := Lib.hid hst
              have HV1 : Hid (Step No w1 wv) := Lib.hid (HW9.out.trans hst (fun i e hlt => absurd hlt (by have := HhSe.out; omega)))
              have HVw : Hid (Step No w wv) := Lib.hid (HS1.out.trans HV1.out (fun _ f _ => f))
              have HXv := Lib.hid (hst.blk HX9.out (fun e => by have := HXS.out; omega))
              clear hok hpo hst x4
              have HE : Hid (∀ w', Step No wv w' → w'.cell? ⟨w.heap.size, 0, none⟩ = some (.int .i64 rt) ∧ w'.cell? ⟨w.heap.size, 1, none⟩ = some (.int .i64 nx) ∧ w'.cell? ⟨w.heap.size, 2, none⟩ = some (.slice (some ad) ns.length c) ∧ w'.cell? ⟨X, 3, none⟩ = some (.int .i64 up) ∧ w'.cell? ⟨X, 4, none⟩ = some (.slice Ak ks.length ck)) := Lib.hid fun w' h =>
                have hb := HBx.out w' (HV1.out.trans h (fun _ f _ => f))
                have hx := h.blk HXv.out (fun f => f)
                ⟨hb.1, hb.2.1, hb.2.2, blk_cell hx 3, blk_cell hx 4⟩
              obtain ⟨b0, b1, b2, x3, x4⟩ := HE.out wv (Step.refl _ _)
              by_cases hlt2 : j < ks.length
              · have hj0 : (0 : Int) ≤ j := by omega
                have hj1 : (j : Int) < ks.length := by omega
                obtain ⟨ad2, rfl, k0⟩ := ints_cell (ints_to HKv.out HVw.out) j hlt2
                have HDr := Lib.hid (kidsOk_drop (xs := ns) (up := up) hlt2 f)
                have HTk := Lib.hid (fun k' => pos_take ns (k := k') hlt2)
                have HKI : Hid (∀ w', Step No wv w' → w'.cell? (ad2.add j) = some (.int .i64 ks[j])) := Lib.hid fun w' hst => hst.cell k0 (fun f => f)
                have HCn : Hid (∀ k', (L0 ++ (ks.take j).filterMap (posOf ns)).count k' ≤ 2049 * 140737488355328) := Lib.hid fun k' => by
                  have h1 := List.count_le_length (a := k') (l := L0 ++ (ks.take j).filterMap (posOf ns))
                  have h2 := List.length_filterMap_le (posOf ns) (ks.take j)
                  rw [List.length_append] at h1
                  rw [List.length_take] at h2
                  have := HL0.out
                  have := HKl.out
                  omega
                generalize ks[j] = a at *
                cases hp : posOf ns a with
                | none =>
                  have HP : Hid (posI ns a = -1) := Lib.hid (by unfold posI; rw [hp])
                  have HN : Hid (treeB ⟨rt, nx, ns⟩ size = false) := Lib.hid (HNoK.out fun hh => by
                    obtain ⟨k2, y2, h1, -⟩ := HDr.out.1 (HOk.out.1 hh)
                    rw [hp] at h1
                    cases h1)
                  clear hp
                  go_upto_region 20 with (fail)
                  have H2 : Hid (Step No wv wv.drew) := Lib.hid ((Step.refl No wv).drew)
                  have k1 := HKI.out _ H2.out
                  obtain ⟨d0, d1, d2, d3, d4⟩ := HE.out _ H2.out
                  clear b0 b1 b2 x3 x4 k0
                  go_region_held3 (fun w' => w'.cell? ⟨w.heap.size, 0, none⟩ = some (.int .i64 rt) ∧ w'.cell? ⟨w.heap.size, 1, none⟩ = some (.int .i64 nx) ∧ w'.cell? ⟨w.heap.size, 2, none⟩ = some (.slice (some ad) ns.length c) ∧ w'.cell? ⟨X, 4, none⟩ = some (.slice (some ad2) ks.length ck) ∧ w'.cell? (ad2.add j) = some (.int .i64 a)) (first | exact ⟨d0, d1, d2, d4, k1⟩ | exact ⟨f0, f1, f2, f4, fk⟩) ((go_at_call 113; refine (Find_ref _ ⟨rt, nx, ns⟩ (.slice (some ad) ns.length c) a (HX.out.to (HVw.out.trans H2.out (fun _ f _ => f)))).mono ?_; rintro e wz ⟨rfl, hs5⟩; rw [HP.out]; have H6 := Lib.hid (Step.trans (F := No) (G := No) H2.out hs5 (fun _ f _ => f)); obtain ⟨f0, f1, f2, f3, f4⟩ := HE.out _ H6.out; have fk := HKI.out _ H6.out; clear hs5))
                  go_upto_region 21 with (fail)
                  go_quiet (fail)
                  go_wp2
                  go_ret
                  exact ⟨ret_bool HN.out.symm, (HVw.out.trans H6.out (fun _ f _ => f)).drewN _⟩
                | some k2 =>
                  have HP : Hid (posI ns a = (k2 : Int)) := Lib.hid (by unfold posI; rw [hp])
                  obtain ⟨y, hy, -⟩ := posOf_some hp
                  have hkl : k2 < ns.length := (List.getElem?_eq_some_iff.1 hy).1
                  have HIf : Hid (kidsOk ns up (ks.drop j) f ↔ y.kind ≠ 0 ∧ f ≤ y.fr ∧ y.up ≤ up ∧ kidsOk ns up (ks.drop (j + 1)) y.up) := Lib.hid (HDr.out.trans ⟨fun ⟨k3, y3, h1, h2, h3, h4, h5, h6⟩ => by
                    rw [hp] at h1
                    injection h1 with h1
                    subst h1
                    rw [hy] at h2
                    injection h2 with h2
                    subst h2
                    exact ⟨h3, h4, h5, h6⟩, fun ⟨h3, h4, h5, h6⟩ => ⟨k2, y, hp, hy, h3, h4, h5, h6⟩⟩)
                  have HTk2 := Lib.hid (HTk.out k2 hp)
                  have hyk : ns[k2] = y := by rw [List.getElem?_eq_getElem hkl] at hy; injection hy
                  have HYc : Hid (∀ w', Step No w w' → w'.cell? ⟨(ad.add (k2 * 5)).block, (ad.add (k2 * 5)).off + 1, none⟩ = some (.int .i64 y.kind) ∧ w'.cell? ⟨(ad.add (k2 * 5)).block, (ad.add (k2 * 5)).off + 2, none⟩ = some (.int .i64 y.fr) ∧ w'.cell? ⟨(ad.add (k2 * 5)).block, (ad.add (k2 * 5)).off + 3, none⟩ = some (.int .i64 y.up)) := Lib.hid fun w' h => by
                    obtain ⟨ad', kv', he, -, -, c1, c2, c3, -⟩ := nodes_cells (HX.out.to h) k2 hkl
                    injection he with he
                    subst he
                    rw [hyk] at c1 c2 c3
                    exact ⟨c1, c2, c3⟩
                  clear hp hy hyk HDr HTk
                  obtain ⟨yi, yk, yf, yu, yks⟩ := y
                  simp only at HIf HYc
                  go_upto_region 20 with (fail)
                  have H2 : Hid (Step No wv wv.drew) := Lib.hid ((Step.refl No wv).drew)
                  have k1 := HKI.out _ H2.out
                  obtain ⟨d0, d1, d2, d3, d4⟩ := HE.out _ H2.out
                  clear b0 b1 b2 x3 x4 k0
                  go_region_held3 (fun w' => w'.cell? ⟨w.heap.size, 0, none⟩ = some (.int .i64 rt) ∧ w'.cell? ⟨w.heap.size, 1, none⟩ = some (.int .i64 nx) ∧ w'.cell? ⟨w.heap.size, 2, none⟩ = some (.slice (some ad) ns.length c) ∧ w'.cell? ⟨X, 4, none⟩ = some (.slice (some ad2) ks.length ck) ∧ w'.cell? (ad2.add j) = some (.int .i64 a)) (first | exact ⟨d0, d1, d2, d4, k1⟩ | exact ⟨f0, f1, f2, f4, fk⟩) ((go_at_call 113; refine (Find_ref _ ⟨rt, nx, ns⟩ (.slice (some ad) ns.length c) a (HX.out.to (HVw.out.trans H2.out (fun _ f _ => f)))).mono ?_; rintro e wz ⟨rfl, hs5⟩; rw [HP.out]; have H6 := Lib.hid (Step.trans (F := No) (G := No) H2.out hs5 (fun _ f _ => f)); obtain ⟨f0, f1, f2, f3, f4⟩ := HE.out _ H6.out; have fk := HKI.out _ H6.out; clear hs5))
                  go_upto_region 21 with (fail)
                  have hk0 : (0 : Int) ≤ k2 := by omega
                  have hk1 : (k2 : Int) < ns.length := by omega
                  have hkn : decide ((k2 : Int) < 0) = false := decide_eq_false (by omega)
                  obtain ⟨y1, y2, y3⟩ := HYc.out _ (HVw.out.trans H6.out (fun _ f _ => f))
                  by_cases e1 : yf < f
                  · have e1b : decide (yf < f) = true := decide_eq_true e1
                    have HN : Hid (treeB ⟨rt, nx, ns⟩ size = false) := Lib.hid (HNoK.out fun hh => (by have := (HIf.out.1 (HOk.out.1 hh)).2.1; omega))
                    clear e1
                    go_quiet (fail)
                    go_wp2
                    go_ret
                    exact ⟨ret_bool HN.out.symm, (HVw.out.trans H6.out (fun _ f _ => f)).drewN _⟩
                  have e1b : decide (yf < f) = false := decide_eq_false e1
                  by_cases e2 : up < yu
                  · have e2b : decide (up < yu) = true := decide_eq_true e2
                    have HN : Hid (treeB ⟨rt, nx, ns⟩ size = false) := Lib.hid (HNoK.out fun hh => (by have := (HIf.out.1 (HOk.out.1 hh)).2.2.1; omega))
                    clear e1 e2
                    go_quiet (fail)
                    go_wp2
                    go_ret
                    exact ⟨ret_bool HN.out.symm, (HVw.out.trans H6.out (fun _ f _ => f)).drewN _⟩
                  have e2b : decide (up < yu) = false := decide_eq_false e2
                  by_cases e3 : yk = 0
                  · subst e3
                    have HN : Hid (treeB ⟨rt, nx, ns⟩ size = false) := Lib.hid (HNoK.out fun hh => ((HIf.out.1 (HOk.out.1 hh)).1 rfl))
                    clear e1 e2
                    go_quiet (fail)
                    go_wp2
                    go_ret
                    exact ⟨ret_bool HN.out.symm, (HVw.out.trans H6.out (fun _ f _ => f)).drewN _⟩
                  have e3b : (yk == 0) = false := beq_eq_false_iff_ne.2 e3
                  have HNx : Hid (kidsOk ns up ks fr ↔ kidsOk ns up (ks.drop (j + 1)) yu) := Lib.hid (HOk.out.trans (HIf.out.trans ⟨fun h => h.2.2.2, fun h => ⟨e3, by omega, by omega, h⟩⟩))
                  clear e1 e2 e3
                  have hP6 : PO S wz (cnt ns.length (L0 ++ (ks.take j).filterMap (posOf ns))) := H6.out.blk HPo.out (fun f => f)
                  have hcc := hP6.at (cnt_at (L := L0 ++ (ks.take j).filterMap (posOf ns)) hkl)
                  have hfz := blk_free hP6 k2
                  have hle := HCn.out k2
                  have hsn := cnt_snoc (L0 ++ (ks.take j).filterMap (posOf ns)) hkl
                  rw [List.append_assoc, ← HTk2.out] at hsn
                  generalize (L0 ++ (ks.take j).filterMap (posOf ns)).count k2 = cc at *
                  have hcw : IntKind.i64.wrap ((cc : Int) + 1) = ((cc + 1 : Nat) : Int) := by rw [IntWalk.i64_in _ ⟨by omega, by omega⟩]; omega
                  have HW7 : Hid (∀ m, PO S ((wz.drewN m).setCell ⟨S, k2, none⟩ (.int .i64 ((cc : Int) + 1))) (cnt ns.length (L0 ++ (ks.take (j + 1)).filterMap (posOf ns))) ∧ Step (fun i => i = S) wv ((wz.drewN m).setCell ⟨S, k2, none⟩ (.int .i64 ((cc : Int) + 1)))) := Lib.hid fun m => by
                    have h := PO.set (w := wz.drewN m) (((Step.refl No wz).drewN m).blk hP6 (fun f => f)) k2 (cc + 1)
                    rw [hsn, show ((cc + 1 : Nat) : Int) = (cc : Int) + 1 from by omega] at h
                    exact ⟨h, ((show Step (fun i => i = S) wv wz from H6.out.none).drewN m).setCell (p := ⟨S, k2, none⟩) (fun _ => rfl) _⟩
                  clear hP6 hle hsn
                  go_quiet (fail)
                  go_upto_region 24 with (fail)
                  generalize hW : World.setCell _ _ _ = w7 at *
                  obtain ⟨hp7, hs7⟩ : PO S w7 (cnt ns.length (L0 ++ (ks.take (j + 1)).filterMap (posOf ns))) ∧ Step (fun i => i = S) wv w7 := by
                    rw [← hW]
                    exact HW7.out _
                  have HP7 := Lib.hid hp7
                  have HS7 := Lib.hid (HSt.out.trans hs7 (fun _ f _ => f))
                  have HV7 : Hid (Step No w1 w7) := Lib.hid (HW9.out.trans HS7.out (fun i e hlt => absurd hlt (by have := HhSe.out; omega)))
                  clear hW hp7 hs7 HW7 hcc hfz hcw y1 y2 y3 f0 f1 f2 f3 f4 fk
                  obtain ⟨b0, b1, b2⟩ := HBx.out w7 HV7.out
                  obtain ⟨y1, y2, y3⟩ := HYc.out _ (HS1.out.trans HV7.out (fun _ f _ => f))
                  go_wp2
                  go_roundw
                  case rel => exact ⟨j + 1, yu, hlt2, by go_num, rfl, HNx.out, HP7.out, HS7.out⟩
                  case measure => simp [RowKit.intOf]; omega
              · obtain rfl : j = ks.length := by omega
                have HKs : Hid (kidsOk ns up ks fr) := Lib.hid (HOk.out.2 (by rw [List.drop_length]; trivial))
                have HPx : Hid (PO S wv (cnt ns.length ((ns.take (k + 1)).flatMap (kpos ns)))) := Lib.hid (by
                  have := HPo.out
                  rw [List.take_length] at this
                  rw [HFl.out]
                  exact this)
                go_wp2
                go_roundw
                case rel => exact ⟨k + 1, hlt, by go_num, by rw [HRt.out, HQ1.out], HAll.out HAl.out HKs.out, HPx.out, HV1.out⟩
                case measure => simp [RowKit.intOf]; omega
    · obtain rfl : k = ns.length := by omega
      rw [List.take_length] at hP ⊢
      have HG := Lib.hid (show Gone ⟨rt, nx, ns⟩ size from ⟨HL.out, fun i hi => hall i hi hi⟩)
      have HPf := Lib.hid hP
      have HVf := Lib.hid hs
      have HNp := Lib.hid (fun (m : Nat) (x : NodeD) => no_parent (t := ⟨rt, nx, ns⟩) (size := size) (k := m) (x := x))
      have HNr := Lib.hid (no_root (t := ⟨rt, nx, ns⟩) (size := size))
      have HRf := Lib.hid (fun (hp : ∀ k x, ns[k]? = some x → x.kind ≠ 0 → (ns.flatMap (kpos ns)).count k = 1) h1 (r : Nat) hr => HG.out.ref hp h1 (r := r) hr)
      have HRt := Lib.hid HG.out.root
      have HCn : Hid (∀ m, (ns.flatMap (kpos ns)).count m ≤ 2048 * 140737488355328) := Lib.hid fun m => by
        have h1 := List.count_le_length (a := m) (l := ns.flatMap (kpos ns))
        have h2 := count_le ns 140737488355328 ns (fun y hy => HK.out y hy)
        have h3 : ns.length * 140737488355328 ≤ 2048 * 140737488355328 := Nat.mul_le_mul_right _ (by omega)
        omega
      simp only at HNp HNr HRf HRt
      generalize hq : (ns.filter fun x => decide (x.kind = 0)).length = q at *
      obtain ⟨wo, hwo⟩ : ∃ wo, wo = wr := ⟨_, rfl⟩
      subst hwo
      have hq0 : (0 : Int) ≤ q := by omega
      clear hall hP hs hlt hk hq
      go_wp2
      go_loopw [13] (fun i wv => ∃ j : Nat, j ≤ ns.length ∧ i = .int .i64 j ∧ (∀ m x, m < j → ns[m]? = some x → x.kind ≠ 0 → (ns.flatMap (kpos ns)).count m = 1) ∧ Step No wo wv) (fun i _ => ns.length - (RowKit.intOf i).toNat)
      case atStart => exact ⟨0, Nat.zero_le _, rfl, fun m x h => absurd h (Nat.not_lt_zero _), Step.refl _ _⟩
      case round =>
        obtain ⟨j, hj, rfl, hall, hst⟩ := hrel
        obtain ⟨wv, hwv⟩ : ∃ wv, wv = wr := ⟨_, rfl⟩
        subst hwv
        have HV1 : Hid (Step No w1 wv) := Lib.hid (HVf.out.trans hst (fun _ f _ => f))
        have HVw : Hid (Step No w wv) := Lib.hid (HS1.out.trans HV1.out (fun _ f _ => f))
        have HSt := Lib.hid hst
        have HAll := Lib.hid hall
        have hP := hst.blk HPf.out (fun f => f)
        clear hst hall
        obtain ⟨b0, b1, b2⟩ := HBx.out wv HV1.out
        by_cases hlt : j < ns.length
        · obtain ⟨ad, kv, rfl, -, -, c1, -, -, -⟩ := nodes_cells (HX.out.to HVw.out) j hlt
          have hj0 : (0 : Int) ≤ j := by omega
          have hj1 : (j : Int) < ns.length := by omega
          have hcc := PO.at hP (cnt_at (L := ns.flatMap (kpos ns)) hlt)
          have HGe := Lib.hid (List.getElem?_eq_getElem hlt)
          generalize ns[j] = x at *
          obtain ⟨xi, xk, xf, xu, xks⟩ := x
          simp only at c1
          have HNj := Lib.hid (HNp.out j _ HGe.out)
          have HAj := Lib.hid (fun (h0 : xk ≠ 0 → (ns.flatMap (kpos ns)).count j = 1) (m : Nat) (y : NodeD) (hm : m < j + 1) (hy : ns[m]? = some y) (hk : y.kind ≠ 0) => show (ns.flatMap (kpos ns)).count m = 1 from by
            rcases Nat.lt_succ_iff_lt_or_eq.1 hm with hm | rfl
            · exact HAll.out m y hm hy hk
            · rw [HGe.out] at hy
              injection hy with hy
              subst hy
              exact h0 hk)
          simp only at HNj
          generalize hC : (ns.flatMap (kpos ns)).count j = cc at *
          clear hP hC
          by_cases hk0 : xk = 0
          · have kb : (xk == 0) = true := beq_iff_eq.2 hk0
            have HQ := Lib.hid (HAj.out fun h => absurd hk0 h)
            subst hk0
            go_wp2
            go_roundw
            case rel => exact ⟨j + 1, hlt, by go_num, HQ.out, HSt.out⟩
            case measure => simp [RowKit.intOf]; omega
          · have kb : (xk == 0) = false := beq_eq_false_iff_ne.2 hk0
            by_cases hc1 : cc = 1
            · have cb : ((cc : Int) == 1) = true := by rw [beq_iff_eq]; omega
              have HQ := Lib.hid (HAj.out fun _ => hc1)
              subst hc1
              simp only [Int.natCast_one] at hcc
              go_wp2
              go_roundw
              case rel => exact ⟨j + 1, hlt, by go_num, HQ.out, HSt.out⟩
              case measure => simp [RowKit.intOf]; omega
            · have cb : ((cc : Int) == 1) = false := by rw [beq_eq_false_iff_ne]; omega
              have HN := Lib.hid (HNj.out hk0 hc1)
              have cb2 : ((cc : Int) != 1) = true := by simp only [bne, cb]; rfl
              have kb2 : (xk != 0) = true := by simp only [bne, kb]; rfl
              clear hc1
              go_wp2
              go_ret
              exact ⟨ret_bool HN.out.symm, HVw.out⟩
        · obtain rfl : j = ns.length := by omega
          have HAl : Hid (∀ k x, ns[k]? = some x → x.kind ≠ 0 → (ns.flatMap (kpos ns)).count k = 1) := Lib.hid fun m x hx hk => HAll.out m x (List.getElem?_eq_some_iff.1 hx).1 hx hk
          clear hP hlt hj
          by_cases hq1 : q = 1
          · subst hq1
            obtain ⟨r, hr, hrl⟩ := HRt.out rfl
            have HRe := Lib.hid (HRf.out HAl.out rfl r hr)
            have HP : Hid (posI ns rt = (r : Int)) := Lib.hid (by unfold posI; rw [hr])
            have HRr := Lib.hid (reach_ref ⟨rt, nx, ns⟩ (.slice A ns.length c) HG.out.found (HG.out.nodup HAl.out) (by simp only; omega) (ns.length + 1) (Nat.le_refl _))
            have HE : Hid (∀ w', Step No wv w' → w'.cell? ⟨w.heap.size, 0, none⟩ = some (.int .i64 rt) ∧ w'.cell? ⟨w.heap.size, 1, none⟩ = some (.int .i64 nx) ∧ w'.cell? ⟨w.heap.size, 2, none⟩ = some (.slice A ns.length c)) := Lib.hid fun w' h => HBx.out w' (HV1.out.trans h (fun _ f _ => f))
            have HD : Hid ((0 : Int) = ((ns.length + 1 - (ns.length + 1) : Nat) : Int)) := Lib.hid (by omega)
            have HFn : Hid (∀ R : Nat, reachF ns (ns.length + 1) r = R → ((R : Int) == (ns.length : Int)) = treeB ⟨rt, nx, ns⟩ size) := Lib.hid fun R hR => by
              rw [HRe.out, hR]
              rw [Bool.eq_iff_iff, beq_iff_eq, decide_eq_true_eq]
              omega
            have HRl := Lib.hid hrl
            obtain ⟨R, hR⟩ : ∃ R, reachF ns (ns.length + 1) r = R := ⟨_, rfl⟩
            have HR := Lib.hid hR
            clear hr hrl hR
            go_upto_region 30 with (fail)
            have H2 : Hid (Step No wv wv.drew) := Lib.hid ((Step.refl No wv).drew)
            obtain ⟨d0, d1, d2⟩ := HE.out _ H2.out
            clear b0 b1 b2
            go_region_held3 (fun w' => w'.cell? ⟨w.heap.size, 0, none⟩ = some (.int .i64 rt) ∧ w'.cell? ⟨w.heap.size, 1, none⟩ = some (.int .i64 nx) ∧ w'.cell? ⟨w.heap.size, 2, none⟩ = some (.slice A ns.length c)) (first | exact ⟨d0, d1, d2⟩ | exact ⟨g0, g1, g2⟩ | exact ⟨f0, f1, f2⟩) (first | (go_at_call 113; refine (Find_ref _ ⟨rt, nx, ns⟩ (.slice A ns.length c) rt (HX.out.to (HVw.out.trans H2.out (fun _ f _ => f)))).mono ?_; rintro e w5 ⟨rfl, hs5⟩; rw [HP.out]; have H5 := Lib.hid (Step.trans (F := No) (G := No) H2.out hs5 (fun _ f _ => f)); obtain ⟨f0, f1, f2⟩ := HE.out _ H5.out; clear hs5) | (go_at_call 114; refine (HRr.out _ r 0 (HX.out.to (HVw.out.trans H5.out (fun _ f _ => f))) HRl.out HD.out).mono ?_; rintro e w6 ⟨rfl, hs6⟩; rw [HR.out]; have H6 := Lib.hid (Step.trans (F := No) (G := No) H5.out hs6 (fun _ f _ => f)); obtain ⟨g0, g1, g2⟩ := HE.out _ H6.out; clear hs6))
            go_wp2
            go_ret
            exact ⟨by rw [← HFn.out R HR.out]; rfl, HVw.out.trans H6.out (fun _ f _ => f)⟩
          · have qb : ((q : Int) == 1) = false := by rw [beq_eq_false_iff_ne]; omega
            have HN := Lib.hid (HNr.out hq1)
            clear hq1
            go_upto_region 30 with (fail)
            go_quiet (fail)
            go_wp2
            go_ret
            exact ⟨ret_bool HN.out.symm, HVw.out.drewN _⟩
theorem TreeMay_ref (t : TreeD) (nv : Value) (size : Int) (w : World) (hx : NodesR w t.nodes nv) (hk : KidsN t.nodes) : Calls Tryz.prog 66 #[aggT t nv, .int .i64 size] w fun e w' => e = .returned (.bool (treeB t size)) ∧ Step No w w' := by
  by_cases hl : treeLim t size
  · exact Tree_in t nv size w hx hk hl
  · exact Tree_lim t nv size w hx hl
end Go.Proofs.YtjeamfoicpgkhaaGreatDoor.RefTree
