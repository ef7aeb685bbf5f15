/- Rows of nodes of which one is under way. -/
import Derived.Test.YtkamhpbfebdhjaaGreatDoorTr
namespace Go.Proofs.YtkamhpbfebdhjaaGreatDoor.Tr2
open Go.RowKit Go.Lib Go.Proofs.YtkamhpbfebdhjaaGreatDoor.Mem Go.Proofs.YtkamhpbfebdhjaaGreatDoor.Read Go.Proofs.YtkamhpbfebdhjaaGreatDoor.Tree Go.Proofs.YtkamhpbfebdhjaaGreatDoor.Data Go.Proofs.YtkamhpbfebdhjaaGreatDoor.OwnR Go.Proofs.YtkamhpbfebdhjaaGreatDoor.Tr
set_option linter.unusedVariables false
set_option linter.unusedSimpArgs false
/-- A row of nodes, of which the kids of the k-th are left open. -/
structure Mid (base : Nat) (w : World) (g c : Nat) (ys : List (NodeD × Value)) (k : Nat) : Prop where
  row : w.ownsRow 0 TN 5 (.slice (some ⟨g, 0, none⟩) ys.length c) ys.length (ys.flatMap encN)
  ge : base ≤ g
  kids : ∀ j (hj : j < ys.length), j ≠ k → IntsR base w ys[j].1.kids ys[j].2
theorem Mid.of {base : Nat} {w : World} {g c : Nat} {ys : List (NodeD × Value)} (h : NodesW base w ys (.slice (some ⟨g, 0, none⟩) ys.length c)) (k : Nat) : Mid base w g c ys k := ⟨h.1, h.2.1 g rfl, fun j hj _ => h.2.2 _ (List.getElem_mem hj)⟩
theorem Mid.blk {base : Nat} {w : World} {g c k : Nat} {ys : List (NodeD × Value)} (h : Mid base w g c ys k) : ∃ cs, w.heap[g]? = some (.cells cs TN (0, 0)) := row_block h.row (k := g) rfl
theorem Mid.no {base : Nat} {w w' : World} {g c k : Nat} {ys : List (NodeD × Value)} (h : Mid base w g c ys k) (hs : Step No w w') : Mid base w' g c ys k :=
  ⟨row_step h.row hs (fun _ _ f => f), h.ge, fun j hj hjk => ints_no (h.kids j hj hjk) hs⟩
/-- The k-th's kids grow. -/
theorem Mid.grown {base : Nat} {w w' : World} {g c k : Nat} {ys : List (NodeD × Value)} (h : Mid base w g c ys k) (hA : Apart ys) (hk : k < ys.length) (hI : IntsR base w ys[k].1.kids ys[k].2) (hg : w.grownBy w' ys[k].2.ownBlock) : Mid base w' g c ys k := by
  have hne : ∀ b, ys[k].2.ownBlock = some b → b ≠ g := fun b hb e => by
    obtain ⟨c1, e1⟩ := row_block hI.1 hb
    obtain ⟨c2, e2⟩ := h.blk
    subst e
    exact blk_ne e1 e2 (by decide) rfl
  refine ⟨row_move h.row fun b hb => hg.block b (h.row.lt b hb).2 fun e => ?_, h.ge, fun j hj hjk => ?_⟩
  · have : b = g := by simpa [Value.ownBlock] using hb.symm
    exact hne b e.symm this
  · have hJ := h.kids j hj hjk
    exact ⟨row_move hJ.1 fun b hb => hg.block b (hJ.1.lt b hb).2 fun e => hA k j hk hj (by omega) b e.symm hb, hJ.2.1, hJ.2.2⟩
/-- A cell of another block of a node's type is set. -/
theorem Mid.set {base : Nat} {w : World} {g c k : Nat} {ys : List (NodeD × Value)} (h : Mid base w g c ys k) {X : Nat} {cs : Array Value} (hX : w.heap[X]? = some (.cells cs TN (0, 0))) (hne : X ≠ g) (i : Nat) (v : Value) : Mid base (w.setCell ⟨X, i, none⟩ v) g c ys k := by
  have hS : Step (fun j => j = X) w (w.setCell ⟨X, i, none⟩ v) := by refine set_at (Step.refl _ _) ?_ _ <;> rfl
  refine ⟨row_step h.row hS fun b hb e => ?_, h.ge, fun j hj hjk => ints_go (h.kids j hj hjk) hS hX (by decide)⟩
  have : b = g := by simpa [Value.ownBlock] using hb.symm
  omega
theorem Mid.out {base : Nat} {w : World} {g c k : Nat} {ys : List (NodeD × Value)} (h : Mid base w g c ys k) (hk : k < ys.length) (y : NodeD × Value) (hy : IntsR base w y.1.kids y.2) :
    NodesW base (sets5 w g (k * 5) (.int .i64 y.1.id) (.int .i64 y.1.kind) (.int .i64 y.1.fr) (.int .i64 y.1.up) y.2) (ys.set k y) (.slice (some ⟨g, 0, none⟩) ys.length c) ∧ Step (fun i => i = g) w (sets5 w g (k * 5) (.int .i64 y.1.id) (.int .i64 y.1.kind) (.int .i64 y.1.fr) (.int .i64 y.1.up) y.2) := by
  have hs : Step (fun i => i = g) w (sets5 w g (k * 5) (.int .i64 y.1.id) (.int .i64 y.1.kind) (.int .i64 y.1.fr) (.int .i64 y.1.up) y.2) := by
    unfold sets5
    refine set_at (set_at (set_at (set_at (set_at (Step.refl _ _) ?_ _) ?_ _) ?_ _) ?_ _) ?_ _ <;> rfl
  obtain ⟨cs, hb⟩ := h.blk
  have hT : Types TsI base w (fun i => i = g) := Types.at hb ⟨by decide, trivial⟩
  refine ⟨⟨?_, fun j hj => ?_, fun a ha => ?_⟩, hs⟩
  · rw [List.length_set, flat_set ys k y hk]
    exact (((((h.row.stored _ _).1.stored _ _).1.stored _ _).1.stored _ _).1.stored _ _).1
  · have : j = g := by simpa [Value.ownBlock] using hj.symm
    rw [this]
    exact h.ge
  · obtain ⟨j, hj, rfl⟩ := List.mem_iff_getElem.1 ha
    rw [List.getElem_set]
    rw [List.length_set] at hj
    split
    · exact stabN base _ _ _ y hy hs hT
    · exact stabN base _ _ _ _ (h.kids j hj (by omega)) hs hT
theorem mid_at {base : Nat} {w : World} {g c k : Nat} {ys : List (NodeD × Value)} (h : Mid base w g c ys k) {j : Nat} (hj : j < ys.length) (i : Nat) (hi : i < 5) : w.cell? ⟨g, j * 5 + i, none⟩ = (encN ys[j])[i]? := by
  have e : ys.flatMap encN = flat ys := rfl
  rw [h.row.cellAt _ (by omega), e]
  exact flat_get ys j hj i hi
/-- One more of a row of numbers. -/
theorem ints_more {base : Nat} {w0 w1 : World} {xs : List Int} {v v1 : Value} {x : Int} (h : IntsR base w0 xs v) (hb : base ≤ w0.heap.size) (ho : w1.ownsRow 0 TI 1 v1 (xs.length + 1) (xs.flatMap encI ++ [.int .i64 x])) (hat : v1.ownBlock = v.ownBlock ∨ v1.ownBlock = some w0.heap.size) : IntsR base w1 (xs ++ [x]) v1 := by
  have e : (xs ++ [x]).flatMap encI = xs.flatMap encI ++ [.int .i64 x] := by rw [List.flatMap_append]; rfl
  refine ⟨by rw [List.length_append, e]; exact ho, fun k hk => ?_, fun _ _ => trivial⟩
  rcases hat with hat | hat
  · exact h.2.1 k (by rw [← hat, hk])
  · rw [hk] at hat
    injection hat with hat
    omega
end Go.Proofs.YtkamhpbfebdhjaaGreatDoor.Tr2
