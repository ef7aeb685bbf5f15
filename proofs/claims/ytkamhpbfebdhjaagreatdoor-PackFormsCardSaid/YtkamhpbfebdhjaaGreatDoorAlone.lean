/- May a node be by itself? The program's answer. -/
import Derived.Test.YtkamhpbfebdhjaaGreatDoorEntMay
namespace Go.Proofs.YtkamhpbfebdhjaaGreatDoor.Alone
open Go.RowKit Go.Lib Go.Proofs.YtkamhpbfebdhjaaGreatDoor.Mem Go.Proofs.YtkamhpbfebdhjaaGreatDoor.Read Go.Proofs.YtkamhpbfebdhjaaGreatDoor.Tree Go.Proofs.YtkamhpbfebdhjaaGreatDoor.Data Go.Proofs.YtkamhpbfebdhjaaGreatDoor.May Go.Proofs.YtkamhpbfebdhjaaGreatDoor.CompMay
set_option linter.unusedVariables false
set_option linter.unusedSimpArgs false
def leafB (k : Int) : Bool := decide (leafP k)
theorem leafB_no {k : Int} (h4 : k ≠ 4) (h5 : k ≠ 5) (h6 : k ≠ 6) : leafB k = false := by simp [leafB, leafP, h4, h5, h6]
theorem leaf_any (k : Int) (w : World) : Calls Tryz.prog 77 #[.int .i64 k] w fun e w' => e = .returned (.bool (leafB k)) ∧ w' = w := by
  by_cases h4 : k = 4
  · subst h4
    rw [show leafB 4 = true from rfl]
    go_enter Tryz.func77, Tryz.ntmps77
    go_wp2
    go_ret
    exact ⟨rfl, rfl⟩
  · have b4 : (k == 4) = false := beq_eq_false_iff_ne.2 h4
    by_cases h5 : k = 5
    · subst h5
      rw [show leafB 5 = true from rfl]
      clear h4
      go_enter Tryz.func77, Tryz.ntmps77
      go_wp2
      go_ret
      exact ⟨rfl, rfl⟩
    · have b5 : (k == 5) = false := beq_eq_false_iff_ne.2 h5
      have HL : Hid (leafB k = (k == 6)) := Lib.hid (by
        by_cases h6 : k = 6
        · subst h6; rfl
        · rw [leafB_no h4 h5 h6]; exact (beq_eq_false_iff_ne.2 h6).symm)
      rw [HL.out]
      clear h4 h5
      go_enter Tryz.func77, Tryz.ntmps77
      go_wp2
      go_ret
      exact ⟨rfl, rfl⟩
theorem leaf_is {k : Int} {b : Bool} (h : leafB k = b) (w : World) : Calls Tryz.prog 77 #[.int .i64 k] w fun e w' => e = .returned (.bool b) ∧ w' = w := by
  subst h
  exact leaf_any k w
def rootB (root size id kind fr up : Int) : Bool := decide (kind = 0 → id = root ∧ fr = 0 ∧ up = size)
def aloneB (root next size before id kind fr up : Int) (n : Nat) : Bool :=
  rootB root size id kind fr up && decide (before < id ∧ id < next ∧ 0 ≤ kind ∧ kind ≤ 7 ∧ 0 ≤ fr ∧ fr ≤ up ∧ up ≤ size ∧ (leafP kind → n = 0))
theorem aloneB_is (t : TreeD) (size before : Int) (x : NodeD) : aloneB t.root t.next size before x.id x.kind x.fr x.up x.kids.length = decide (aloneP t size before x) := by
  unfold aloneB rootB aloneP
  rw [← Bool.decide_and]
def tailB (next size before id kind fr up : Int) (n : Nat) : Bool := decide (before < id ∧ id < next ∧ 0 ≤ kind ∧ kind ≤ 7 ∧ 0 ≤ fr ∧ fr ≤ up ∧ up ≤ size ∧ (leafP kind → n = 0))
theorem tail_no {next size before id kind fr up : Int} {n : Nat} (h : ¬ (before < id ∧ id < next ∧ 0 ≤ kind ∧ kind ≤ 7 ∧ 0 ≤ fr ∧ fr ≤ up ∧ up ≤ size ∧ (leafP kind → n = 0))) : tailB next size before id kind fr up n = false := decide_eq_false h
theorem tail_yes {next size before id kind fr up : Int} {n : Nat} (h : before < id ∧ id < next ∧ 0 ≤ kind ∧ kind ≤ 7 ∧ 0 ≤ fr ∧ fr ≤ up ∧ up ≤ size ∧ (leafP kind → n = 0)) : tailB next size before id kind fr up n = true := decide_eq_true h
set_option maxHeartbeats 8000000 in
set_option maxRecDepth 100000 in
theorem alone_t (w : World) (b off : Nat) (x : Addr) (root next size before id kind fr up : Int) (A : Option Addr) (n c : Nat) (t0 : w.cell? ⟨b, off, none⟩ = some (.int .i64 root)) (t1 : w.cell? ⟨b, off + 1, none⟩ = some (.int .i64 next))
    (x0 : w.cell? x = some (.int .i64 id)) (x1 : w.cell? ⟨x.block, x.off + 1, none⟩ = some (.int .i64 kind)) (x2 : w.cell? ⟨x.block, x.off + 2, none⟩ = some (.int .i64 fr)) (x3 : w.cell? ⟨x.block, x.off + 3, none⟩ = some (.int .i64 up)) (x4 : w.cell? ⟨x.block, x.off + 4, none⟩ = some (.slice A n c)) :
    Calls Tryz.prog 50 #[.pointer (some ⟨b, off, none⟩), .pointer (some x), .int .i64 before, .int .i64 size] w fun e w' => e = .returned (.bool (aloneB root next size before id kind fr up n)) ∧ Step No w w' := by
  have HQ : Hid (aloneB root next size before id kind fr up n = (rootB root size id kind fr up && tailB next size before id kind fr up n)) := Lib.hid rfl
  rw [HQ.out]
  clear HQ
  go_enter Tryz.func50, Tryz.ntmps50
  go_upto_region 1 with (fail)
  go_cut [9] (fun s9 wx => s9 = .bool (rootB root size id kind fr up) ∧ Step No w wx)
  case first =>
    by_cases k0 : kind = 0
    · have q0 : (kind == 0) = true := beq_iff_eq.2 k0
      have q0' : (kind != 0) = false := by rw [bne_eq_false_iff_eq]; exact k0
      by_cases k1 : id = root
      · have q1 : (id == root) = true := beq_iff_eq.2 k1
        by_cases k2 : fr = 0
        · have q2 : (fr == 0) = true := beq_iff_eq.2 k2
          by_cases k3 : up = size
          · have q3 : (up == size) = true := beq_iff_eq.2 k3
            have HR : Hid (.bool true = Value.bool (rootB root size id kind fr up)) := Lib.hid (by rw [show rootB root size id kind fr up = true by (clear q0 q0' q1 q2 q3; simp [rootB, *])])
            clear k0 k1 k2 k3
            go_quiet (fail)
            go_wp2
            go_meet
            exact ⟨HR.out, (by repeat' (first | exact Step.refl _ _ | with_reducible assumption | refine Step.drew ?_ | refine Step.drewN ?_ _ | refine Step.alloc ?_ _))⟩
          · have q3 : (up == size) = false := beq_eq_false_iff_ne.2 k3
            have HR : Hid (.bool false = Value.bool (rootB root size id kind fr up)) := Lib.hid (by rw [show rootB root size id kind fr up = false by (clear q0 q0' q1 q2 q3; simp [rootB, *])])
            clear k0 k1 k2 k3
            go_quiet (fail)
            go_wp2
            go_meet
            exact ⟨HR.out, (by repeat' (first | exact Step.refl _ _ | with_reducible assumption | refine Step.drew ?_ | refine Step.drewN ?_ _ | refine Step.alloc ?_ _))⟩
        · have q2 : (fr == 0) = false := beq_eq_false_iff_ne.2 k2
          have HR : Hid (.bool false = Value.bool (rootB root size id kind fr up)) := Lib.hid (by rw [show rootB root size id kind fr up = false by (clear q0 q0' q1 q2; simp [rootB, *])])
          clear k0 k1 k2
          go_quiet (fail)
          go_wp2
          go_meet
          exact ⟨HR.out, (by repeat' (first | exact Step.refl _ _ | with_reducible assumption | refine Step.drew ?_ | refine Step.drewN ?_ _ | refine Step.alloc ?_ _))⟩
      · have q1 : (id == root) = false := beq_eq_false_iff_ne.2 k1
        have HR : Hid (.bool false = Value.bool (rootB root size id kind fr up)) := Lib.hid (by rw [show rootB root size id kind fr up = false by (clear q0 q0' q1; simp [rootB, *])])
        clear k0 k1
        go_quiet (fail)
        go_wp2
        go_meet
        exact ⟨HR.out, (by repeat' (first | exact Step.refl _ _ | with_reducible assumption | refine Step.drew ?_ | refine Step.drewN ?_ _ | refine Step.alloc ?_ _))⟩
    · have q0 : (kind == 0) = false := beq_eq_false_iff_ne.2 k0
      have q0' : (kind != 0) = true := by rw [bne_iff_ne]; exact k0
      have HR : Hid (.bool true = Value.bool (rootB root size id kind fr up)) := Lib.hid (by rw [show rootB root size id kind fr up = true by (clear q0 q0'; simp [rootB, *])])
      clear k0
      go_quiet (fail)
      go_wp2
      go_meet
      exact ⟨HR.out, (by repeat' (first | exact Step.refl _ _ | with_reducible assumption | refine Step.drew ?_ | refine Step.drewN ?_ _ | refine Step.alloc ?_ _))⟩
  case rest =>
    obtain ⟨rfl, hs⟩ := hcut
    replace t0 := hs.cell t0 (fun f => f)
    replace t1 := hs.cell t1 (fun f => f)
    replace x0 := hs.cell x0 (fun f => f)
    replace x1 := hs.cell x1 (fun f => f)
    replace x2 := hs.cell x2 (fun f => f)
    replace x3 := hs.cell x3 (fun f => f)
    replace x4 := hs.cell x4 (fun f => f)
    cases hr : rootB root size id kind fr up with
    | false =>
      have HLf : Hid (leafB kind = leafB kind) := Lib.hid rfl
      have HP : Hid ((rootB root size id kind fr up && tailB next size before id kind fr up n) = false) := Lib.hid (by rw [hr, Bool.false_and])
      clear hr
      go_wp2_with fail
      go_quiet ((go_at_call 77; exact Calls.quiet_of_same (leaf_is HLf.out _)))
      go_wp2
      go_ret
      exact ⟨ret_bool HP.out.symm, Step.trans (F := No) (G := No) hs (by repeat' (first | exact Step.refl _ _ | with_reducible assumption | refine Step.drew ?_ | refine Step.drewN ?_ _ | refine Step.alloc ?_ _)) (fun _ f _ => f)⟩
    | true =>
      have HRt := Lib.hid hr
      clear hr
      have HLf0 : Hid (leafB kind = leafB kind) := Lib.hid rfl
      by_cases h0 : before < id
      · have h0b : decide (before < id) = true := decide_eq_true h0
        by_cases h1 : id < next
        · have h1b : decide (id < next) = true := decide_eq_true h1
          by_cases h2 : 0 ≤ kind
          · have h2b : decide (0 ≤ kind) = true := decide_eq_true h2
            by_cases h3 : kind ≤ 7
            · have h3b : decide (kind ≤ 7) = true := decide_eq_true h3
              by_cases h4 : 0 ≤ fr
              · have h4b : decide (0 ≤ fr) = true := decide_eq_true h4
                by_cases h5 : fr ≤ up
                · have h5b : decide (fr ≤ up) = true := decide_eq_true h5
                  by_cases h6 : up ≤ size
                  · have h6b : decide (up ≤ size) = true := decide_eq_true h6
                    cases hl : leafB kind with
                    | false =>
                      have HLf := Lib.hid hl
                      have HP : Hid ((rootB root size id kind fr up && tailB next size before id kind fr up n) = true) := Lib.hid (by rw [HRt.out, Bool.true_and]; (exact tail_yes ⟨h0, h1, h2, h3, h4, h5, h6, fun e => absurd (of_decide_eq_false hl) (fun g => g e)⟩))
                      clear hl h0 h1 h2 h3 h4 h5 h6
                      go_wp2_with fail
                      go_quiet ((go_at_call 77; exact Calls.quiet_of_same (leaf_is HLf.out _)))
                      go_wp2
                      go_ret
                      exact ⟨ret_bool HP.out.symm, Step.trans (F := No) (G := No) hs (by repeat' (first | exact Step.refl _ _ | with_reducible assumption | refine Step.drew ?_ | refine Step.drewN ?_ _ | refine Step.alloc ?_ _)) (fun _ f _ => f)⟩
                    | true =>
                      have HLf := Lib.hid hl
                      by_cases h7 : n = 0
                      · have h7b : ((n : Int) == 0) = true := beq_iff_eq.2 (by omega)
                        have HP : Hid ((rootB root size id kind fr up && tailB next size before id kind fr up n) = true) := Lib.hid (by rw [HRt.out, Bool.true_and]; (exact tail_yes ⟨h0, h1, h2, h3, h4, h5, h6, fun _ => h7⟩))
                        clear hl h7 h0 h1 h2 h3 h4 h5 h6
                        go_wp2_with fail
                        go_quiet ((go_at_call 77; exact Calls.quiet_of_same (leaf_is HLf.out _)))
                        go_wp2
                        go_ret
                        exact ⟨ret_bool HP.out.symm, Step.trans (F := No) (G := No) hs (by repeat' (first | exact Step.refl _ _ | with_reducible assumption | refine Step.drew ?_ | refine Step.drewN ?_ _ | refine Step.alloc ?_ _)) (fun _ f _ => f)⟩
                      · have h7b : ((n : Int) == 0) = false := beq_eq_false_iff_ne.2 (by omega)
                        have HP : Hid ((rootB root size id kind fr up && tailB next size before id kind fr up n) = false) := Lib.hid (by rw [HRt.out, Bool.true_and]; (exact tail_no fun e => h7 (e.2.2.2.2.2.2.2 (of_decide_eq_true hl))))
                        clear hl h7 h0 h1 h2 h3 h4 h5 h6
                        go_wp2_with fail
                        go_quiet ((go_at_call 77; exact Calls.quiet_of_same (leaf_is HLf.out _)))
                        go_wp2
                        go_ret
                        exact ⟨ret_bool HP.out.symm, Step.trans (F := No) (G := No) hs (by repeat' (first | exact Step.refl _ _ | with_reducible assumption | refine Step.drew ?_ | refine Step.drewN ?_ _ | refine Step.alloc ?_ _)) (fun _ f _ => f)⟩
                  · have h6b : decide (up ≤ size) = false := decide_eq_false h6
                    have HLf := HLf0
                    have HP : Hid ((rootB root size id kind fr up && tailB next size before id kind fr up n) = false) := Lib.hid (by rw [HRt.out, Bool.true_and]; (exact tail_no fun e => h6 e.2.2.2.2.2.2.1))
                    clear h0 h1 h2 h3 h4 h5 h6
                    go_wp2_with fail
                    go_quiet ((go_at_call 77; exact Calls.quiet_of_same (leaf_is HLf.out _)))
                    go_wp2
                    go_ret
                    exact ⟨ret_bool HP.out.symm, Step.trans (F := No) (G := No) hs (by repeat' (first | exact Step.refl _ _ | with_reducible assumption | refine Step.drew ?_ | refine Step.drewN ?_ _ | refine Step.alloc ?_ _)) (fun _ f _ => f)⟩
                · have h5b : decide (fr ≤ up) = false := decide_eq_false h5
                  have HLf := HLf0
                  have HP : Hid ((rootB root size id kind fr up && tailB next size before id kind fr up n) = false) := Lib.hid (by rw [HRt.out, Bool.true_and]; (exact tail_no fun e => h5 e.2.2.2.2.2.1))
                  clear h0 h1 h2 h3 h4 h5
                  go_wp2_with fail
                  go_quiet ((go_at_call 77; exact Calls.quiet_of_same (leaf_is HLf.out _)))
                  go_wp2
                  go_ret
                  exact ⟨ret_bool HP.out.symm, Step.trans (F := No) (G := No) hs (by repeat' (first | exact Step.refl _ _ | with_reducible assumption | refine Step.drew ?_ | refine Step.drewN ?_ _ | refine Step.alloc ?_ _)) (fun _ f _ => f)⟩
              · have h4b : decide (0 ≤ fr) = false := decide_eq_false h4
                have HLf := HLf0
                have HP : Hid ((rootB root size id kind fr up && tailB next size before id kind fr up n) = false) := Lib.hid (by rw [HRt.out, Bool.true_and]; (exact tail_no fun e => h4 e.2.2.2.2.1))
                clear h0 h1 h2 h3 h4
                go_wp2_with fail
                go_quiet ((go_at_call 77; exact Calls.quiet_of_same (leaf_is HLf.out _)))
                go_wp2
                go_ret
                exact ⟨ret_bool HP.out.symm, Step.trans (F := No) (G := No) hs (by repeat' (first | exact Step.refl _ _ | with_reducible assumption | refine Step.drew ?_ | refine Step.drewN ?_ _ | refine Step.alloc ?_ _)) (fun _ f _ => f)⟩
            · have h3b : decide (kind ≤ 7) = false := decide_eq_false h3
              have HLf := HLf0
              have HP : Hid ((rootB root size id kind fr up && tailB next size before id kind fr up n) = false) := Lib.hid (by rw [HRt.out, Bool.true_and]; (exact tail_no fun e => h3 e.2.2.2.1))
              clear h0 h1 h2 h3
              go_wp2_with fail
              go_quiet ((go_at_call 77; exact Calls.quiet_of_same (leaf_is HLf.out _)))
              go_wp2
              go_ret
              exact ⟨ret_bool HP.out.symm, Step.trans (F := No) (G := No) hs (by repeat' (first | exact Step.refl _ _ | with_reducible assumption | refine Step.drew ?_ | refine Step.drewN ?_ _ | refine Step.alloc ?_ _)) (fun _ f _ => f)⟩
          · have h2b : decide (0 ≤ kind) = false := decide_eq_false h2
            have HLf := HLf0
            have HP : Hid ((rootB root size id kind fr up && tailB next size before id kind fr up n) = false) := Lib.hid (by rw [HRt.out, Bool.true_and]; (exact tail_no fun e => h2 e.2.2.1))
            clear h0 h1 h2
            go_wp2_with fail
            go_quiet ((go_at_call 77; exact Calls.quiet_of_same (leaf_is HLf.out _)))
            go_wp2
            go_ret
            exact ⟨ret_bool HP.out.symm, Step.trans (F := No) (G := No) hs (by repeat' (first | exact Step.refl _ _ | with_reducible assumption | refine Step.drew ?_ | refine Step.drewN ?_ _ | refine Step.alloc ?_ _)) (fun _ f _ => f)⟩
        · have h1b : decide (id < next) = false := decide_eq_false h1
          have HLf := HLf0
          have HP : Hid ((rootB root size id kind fr up && tailB next size before id kind fr up n) = false) := Lib.hid (by rw [HRt.out, Bool.true_and]; (exact tail_no fun e => h1 e.2.1))
          clear h0 h1
          go_wp2_with fail
          go_quiet ((go_at_call 77; exact Calls.quiet_of_same (leaf_is HLf.out _)))
          go_wp2
          go_ret
          exact ⟨ret_bool HP.out.symm, Step.trans (F := No) (G := No) hs (by repeat' (first | exact Step.refl _ _ | with_reducible assumption | refine Step.drew ?_ | refine Step.drewN ?_ _ | refine Step.alloc ?_ _)) (fun _ f _ => f)⟩
      · have h0b : decide (before < id) = false := decide_eq_false h0
        have HLf := HLf0
        have HP : Hid ((rootB root size id kind fr up && tailB next size before id kind fr up n) = false) := Lib.hid (by rw [HRt.out, Bool.true_and]; (exact tail_no fun e => h0 e.1))
        clear h0
        go_wp2_with fail
        go_quiet ((go_at_call 77; exact Calls.quiet_of_same (leaf_is HLf.out _)))
        go_wp2
        go_ret
        exact ⟨ret_bool HP.out.symm, Step.trans (F := No) (G := No) hs (by repeat' (first | exact Step.refl _ _ | with_reducible assumption | refine Step.drew ?_ | refine Step.drewN ?_ _ | refine Step.alloc ?_ _)) (fun _ f _ => f)⟩
end Go.Proofs.YtkamhpbfebdhjaaGreatDoor.Alone
