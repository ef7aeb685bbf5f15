/- Rows of tokens and of nodes of one's own, as the tree's functions need them. -/
import Derived.Test.YtkamhpbfebdhjaaGreatDoorLumpM
import Derived.Test.YtkamhpbfebdhjaaGreatDoorChecked
namespace Go.Proofs.YtkamhpbfebdhjaaGreatDoor.Tr
open Go.RowKit Go.Lib Go.Proofs.YtkamhpbfebdhjaaGreatDoor.Mem Go.Proofs.YtkamhpbfebdhjaaGreatDoor.Read Go.Proofs.YtkamhpbfebdhjaaGreatDoor.Tree Go.Proofs.YtkamhpbfebdhjaaGreatDoor.Data Go.Proofs.YtkamhpbfebdhjaaGreatDoor.OwnR
set_option linter.unusedVariables false
set_option linter.unusedSimpArgs false
abbrev TN : TypeId := 98
abbrev TI : TypeId := 3
abbrev TTk : TypeId := 58
abbrev TTr : TypeId := 25
theorem infoN : (Tryz.prog.info? TN).map (fun i => (i.zero, i.size, i.bytes)) = some (some (.agg #[.int .i64 0, .int .i64 0, .int .i64 0, .int .i64 0, .slice none 0 0]), 5, 56) := by kernel_rfl
theorem infoI : (Tryz.prog.info? TI).map (fun i => (i.zero, i.size, i.bytes)) = some (some (.int .i64 0), 1, 8) := by kernel_rfl
theorem infoTk : (Tryz.prog.info? TTk).map (fun i => (i.zero, i.size, i.bytes)) = some (some (.agg #[.int .i64 0, .int .i64 0, .int .i64 0]), 3, 24) := by kernel_rfl
def encI (a : Int) : List Value := [.int .i64 a]
abbrev IntsR (base : Nat) : World → List Int → Value → Prop := RowO TI 1 base encI (fun _ _ => True)
def TsI (t : TypeId) : Prop := t ≠ TI ∧ True
def encN (p : NodeD × Value) : List Value := nodeCells p.1 p.2
def subN (base : Nat) (w : World) (p : NodeD × Value) : Prop := IntsR base w p.1.kids p.2
theorem stabI (base : Nat) : Stable (fun _ => True) base (fun (_ : World) (_ : Int) => True) := stable_true _ _
theorem stabN (base : Nat) : Stable TsI base (subN base) := fun F w w' a h hs hF => RowO.step (stabI base) h hs hF
abbrev NodesW (base : Nat) : World → List (NodeD × Value) → Value → Prop := RowO TN 5 base encN (subN base)
theorem tsI {t : TypeId} (h : t ≠ TI) : TsI t := ⟨h, trivial⟩
theorem nodes_go {base : Nat} {F : Nat → Prop} {w w' : World} {xs : List (NodeD × Value)} {v : Value} (h : NodesW base w xs v) (hs : Step F w w') (hF : Types (fun t => t ≠ TN ∧ t ≠ TI) base w F) : NodesW base w' xs v := RowO.step (stabN base) h hs (hF.mono fun _ h => ⟨h.1, h.2, trivial⟩)
theorem nodes_no {base : Nat} {w w' : World} {xs : List (NodeD × Value)} {v : Value} (h : NodesW base w xs v) (hs : Step No w w') : NodesW base w' xs v := RowO.no (stabN base) h hs
theorem ints_no {base : Nat} {w w' : World} {xs : List Int} {v : Value} (h : IntsR base w xs v) (hs : Step No w w') : IntsR base w' xs v := RowO.no (stabI base) h hs
theorem ints_go {base : Nat} {w w' : World} {xs : List Int} {v : Value} {b : Nat} {cs : Array Value} {t : TypeId} (h : IntsR base w xs v) (hs : Step (fun k => k = b) w w') (hb : w.heap[b]? = some (.cells cs t (0, 0))) (ht : t ≠ TI) : IntsR base w' xs v := RowO.step (stabI base) h hs (Types.at hb ⟨ht, trivial⟩)
theorem nil_ints (base : Nat) (w : World) : IntsR base w [] (.slice none 0 0) := RowO.nil _
theorem set_new {w w' : World} {b i : Nat} (h : Step No w w') (hb : w.heap.size ≤ b) (v : Value) : Step No w (w'.setCell ⟨b, i, none⟩ v) := h.setCell (p := ⟨b, i, none⟩) (fun e => absurd e (by simp only; omega)) v
theorem ints_flat : ∀ xs : List Int, xs.flatMap encI = xs.map (Value.int .i64)
  | [] => rfl
  | x :: xs => by rw [List.flatMap_cons, ints_flat xs]; rfl
theorem ints_cell {base : Nat} {w : World} {xs : List Int} {A : Option Addr} {n c : Nat} (h : IntsR base w xs (.slice A n c)) (k : Nat) (hk : k < xs.length) : ∃ g, A = some ⟨g, 0, none⟩ ∧ w.cell? ⟨g, k, none⟩ = some (.int .i64 xs[k]) := by
  obtain ⟨g, c', he, -, -⟩ := row_form h.1 (by omega)
  injection he with he1 he2 he3
  subst he1 he2
  refine ⟨g, rfl, ?_⟩
  rw [h.1.cellAt k (by omega), ints_flat]
  simp [hk]
/-! ### One node of a row is written anew. -/
def set5 (l : List Value) (i : Nat) (v0 v1 v2 v3 v4 : Value) : List Value := ((((l.set i v0).set (i + 1) v1).set (i + 2) v2).set (i + 3) v3).set (i + 4) v4
theorem set_right {l : List Value} {a : List Value} {i n : Nat} (hn : a.length = n) (v : Value) : (a ++ l).set (n + i) v = a ++ l.set i v := by
  subst hn
  rw [List.set_append_right _ _ (Nat.le_add_right _ _), Nat.add_sub_cancel_left]
theorem flat_set : ∀ (ys : List (NodeD × Value)) (k : Nat) (y : NodeD × Value), k < ys.length → (ys.set k y).flatMap encN = set5 (ys.flatMap encN) (k * 5) (.int .i64 y.1.id) (.int .i64 y.1.kind) (.int .i64 y.1.fr) (.int .i64 y.1.up) y.2
  | [], k, y, h => absurd h (Nat.not_lt_zero _)
  | x :: ys, 0, y, _ => by
    rw [List.set_cons_zero, List.flatMap_cons, List.flatMap_cons]
    rfl
  | x :: ys, k + 1, y, h => by
    have hl : (encN x).length = 5 := rfl
    have ih := flat_set ys k y (by simpa using h)
    rw [List.set_cons_succ, List.flatMap_cons, List.flatMap_cons, ih]
    unfold set5
    rw [show (k + 1) * 5 = 5 + k * 5 by omega]
    simp only [Nat.add_assoc]
    rw [set_right hl, set_right hl, set_right hl, set_right hl, set_right hl]
/-- The five cells of a node. -/
def sets5 (w : World) (g i : Nat) (v0 v1 v2 v3 v4 : Value) : World := ((((w.setCell ⟨g, i, none⟩ v0).setCell ⟨g, i + 1, none⟩ v1).setCell ⟨g, i + 2, none⟩ v2).setCell ⟨g, i + 3, none⟩ v3).setCell ⟨g, i + 4, none⟩ v4
theorem nodes_set {base g c k : Nat} {w : World} {ys : List (NodeD × Value)} (h : NodesW base w ys (.slice (some ⟨g, 0, none⟩) ys.length c)) (hk : k < ys.length) (y : NodeD × Value) (hy : IntsR base w y.1.kids y.2) :
    NodesW base (sets5 w g (k * 5) (.int .i64 y.1.id) (.int .i64 y.1.kind) (.int .i64 y.1.fr) (.int .i64 y.1.up) y.2) (ys.set k y) (.slice (some ⟨g, 0, none⟩) ys.length c) ∧ Step (fun i => i = g) w (sets5 w g (k * 5) (.int .i64 y.1.id) (.int .i64 y.1.kind) (.int .i64 y.1.fr) (.int .i64 y.1.up) y.2) := by
  have hs : Step (fun i => i = g) w (sets5 w g (k * 5) (.int .i64 y.1.id) (.int .i64 y.1.kind) (.int .i64 y.1.fr) (.int .i64 y.1.up) y.2) := by
    unfold sets5
    refine set_at (set_at (set_at (set_at (set_at (Step.refl _ _) ?_ _) ?_ _) ?_ _) ?_ _) ?_ _ <;> rfl
  obtain ⟨cs, hb⟩ := row_block h.1 (k := g) rfl
  refine ⟨⟨?_, h.2.1, fun a ha => ?_⟩, hs⟩
  · rw [List.length_set, flat_set ys k y hk]
    exact (((((h.1.stored _ _).1.stored _ _).1.stored _ _).1.stored _ _).1.stored _ _).1
  · have hT : Types TsI base w (fun i => i = g) := Types.at hb ⟨by decide, trivial⟩
    rcases List.mem_or_eq_of_mem_set ha with ha | rfl
    · exact stabN base _ _ _ _ (h.2.2 a ha) hs hT
    · exact stabN base _ _ _ a hy hs hT
theorem node_at {base g c k : Nat} {w : World} {ys : List (NodeD × Value)} (h : NodesW base w ys (.slice (some ⟨g, 0, none⟩) ys.length c)) (hk : k < ys.length) (i : Nat) (hi : i < 5) : w.cell? ⟨g, k * 5 + i, none⟩ = (encN ys[k])[i]? := by
  have e : ys.flatMap encN = flat ys := rfl
  rw [h.1.cellAt _ (by omega), e]
  exact flat_get ys k hk i hi
/-! ### Kids' rows that lie apart. -/
/-- No two nodes' kids lie in one block. -/
def Apart (ys : List (NodeD × Value)) : Prop := ∀ i j (hi : i < ys.length) (hj : j < ys.length), i ≠ j → ∀ k, ys[i].2.ownBlock = some k → ys[j].2.ownBlock ≠ some k
theorem apart_nil : Apart [] := fun i j hi => absurd hi (Nat.not_lt_zero _)
theorem apart_node {ys : List (NodeD × Value)} (h : Apart ys) (x : NodeD) : Apart (ys ++ [(x, .slice none 0 0)]) := by
  intro i j hi hj hij k hk hk2
  rw [List.getElem_append] at hk hk2
  split at hk
  · split at hk2
    · exact h _ _ _ _ hij k hk hk2
    · simp [Value.ownBlock] at hk2
  · simp [Value.ownBlock] at hk
/-- A node's kids are written anew: in the same block, or in one that is new. -/
theorem apart_set {base : Nat} {w : World} {ys : List (NodeD × Value)} (h : Apart ys) (hN : ∀ a ∈ ys, IntsR base w a.1.kids a.2) {k : Nat} (hk : k < ys.length) {x : NodeD} {v : Value} (hat : v.ownBlock = ys[k].2.ownBlock ∨ ∃ n, v.ownBlock = some n ∧ w.heap.size ≤ n) : Apart (ys.set k (x, v)) := by
  have old : ∀ i (hi : i < ys.length) b, ys[i].2.ownBlock = some b → b < w.heap.size := fun i hi b hb => (((hN _ (List.getElem_mem hi)).1).lt b hb).2
  intro i j hi hj hij b hb hb2
  rw [List.length_set] at hi hj
  rw [List.getElem_set] at hb hb2
  split at hb
  · rename_i e1
    split at hb2
    · omega
    · rcases hat with hat | ⟨n, hat, hn⟩
      · exact h k j hk hj (by omega) b (by rw [← hat]; exact hb) hb2
      · have := old j hj b hb2
        rw [hb] at hat
        injection hat with hat
        omega
  · split at hb2
    · rename_i e2
      rcases hat with hat | ⟨n, hat, hn⟩
      · exact h i k hi hk (by omega) b hb (by rw [← hat]; exact hb2)
      · have := old i hi b hb
        rw [hb2] at hat
        injection hat with hat
        omega
    · exact h i j hi hj hij b hb hb2
/-- A node's kids grow: all other rows stay. -/
theorem nodes_grown {base : Nat} {w w' : World} {ys : List (NodeD × Value)} {g c : Nat} (h : NodesW base w ys (.slice (some ⟨g, 0, none⟩) ys.length c)) (hA : Apart ys) {k : Nat} (hk : k < ys.length) (hg : w.grownBy w' ys[k].2.ownBlock) :
    w'.ownsRow 0 TN 5 (.slice (some ⟨g, 0, none⟩) ys.length c) ys.length (ys.flatMap encN) ∧ ∀ j (hj : j < ys.length), j ≠ k → IntsR base w' ys[j].1.kids ys[j].2 := by
  have hne : ∀ b, ys[k].2.ownBlock = some b → b ≠ g := fun b hb e => by
    obtain ⟨c1, e1⟩ := row_block (h.2.2 _ (List.getElem_mem hk)).1 hb
    obtain ⟨c2, e2⟩ := row_block h.1 (k := g) rfl
    subst e
    exact blk_ne e1 e2 (by decide) rfl
  refine ⟨row_move h.1 fun b hb => hg.block b (h.1.lt b hb).2 fun e => ?_, fun j hj hjk => ?_⟩
  · have : b = g := by simpa [Value.ownBlock] using hb.symm
    exact hne b e.symm this
  · have hI := h.2.2 _ (List.getElem_mem hj)
    exact ⟨row_move hI.1 fun b hb => hg.block b (hI.1.lt b hb).2 fun e => hA k j hk hj (by omega) b e.symm hb, hI.2.1, hI.2.2⟩
end Go.Proofs.YtkamhpbfebdhjaaGreatDoor.Tr
