/- Several of my texts in one file: Mem, Read, AppSl, Tree, Data, OwnR. -/
import Derived.WalkKit
import Derived.Lib.Hide
import Derived.BigQuiet
import Derived.Deep.QuietTactic
import Derived.Deep.DeepFit
import Derived.Deep.DeepCutAuto
import Derived.Deep.CutBlock
import Derived.Deep.RegionHeld3
import Derived.Deep.RegionLaw
import Derived.Deep.LoopGhost
import Derived.Maps.AppendAt
import Derived.Deep.AppendLies
import Derived.Deep.OwnRows
import Derived.Laws.MakeOwn
import Derived.Laws.OwnMore
import Derived.Laws.Rows
import Derived.Lib.AppendStr
import Derived.ArgAppend
import Derived.Outline
import Derived.Handy
import Derived.ProofKit
import Derived.OpenShut
import Derived.ShutString
import Derived.ChangeOld
import Derived.SizedLaws
import Derived.Laws.AppendOwnNone
/- Words on memory: what a step of the program may turn, rows of one's own, slices that are read. Nothing of the program stands here. -/
namespace Go.Proofs.YtkamhpbfebdhjaaGreatDoor.Mem
open Go.RowKit
set_option linter.unusedVariables false
set_option linter.unusedSimpArgs false

/-! ### 1. What a step may turn -/
/-- w' continues w: of the blocks that w has, those outside F are as they were. -/
structure Step (F : Nat → Prop) (w w' : World) : Prop where
  os : w'.os = w.os
  tape : w'.tape = w.tape
  output : w'.output = w.output
  size : w.heap.size ≤ w'.heap.size
  block : ∀ k, k < w.heap.size → ¬ F k → w'.heap[k]? = w.heap[k]?
def No : Nat → Prop := fun _ => False
theorem Step.refl (F : Nat → Prop) (w : World) : Step F w w := ⟨rfl, rfl, rfl, Nat.le_refl _, fun _ _ _ => rfl⟩
/-- A second step may turn what is new, too. -/
theorem Step.trans {F G : Nat → Prop} {a b c : World} (h : Step F a b) (k : Step G b c) (hG : ∀ i, G i → i < a.heap.size → F i) : Step F a c :=
  ⟨k.os.trans h.os, k.tape.trans h.tape, k.output.trans h.output, Nat.le_trans h.size k.size, fun i hi hF => (k.block i (Nat.lt_of_lt_of_le hi h.size) (fun g => hF (hG i g hi))).trans (h.block i hi hF)⟩
theorem Step.mono {F G : Nat → Prop} {a b : World} (h : Step F a b) (hG : ∀ i, i < a.heap.size → F i → G i) : Step G a b :=
  ⟨h.os, h.tape, h.output, h.size, fun i hi hF => h.block i hi (fun f => hF (hG i hi f))⟩
theorem Step.drewN {F : Nat → Prop} {a b : World} (h : Step F a b) (n : Nat) : Step F a (b.drewN n) := ⟨h.os, h.tape, h.output, h.size, h.block⟩
theorem Step.drew {F : Nat → Prop} {a b : World} (h : Step F a b) : Step F a b.drew := ⟨h.os, h.tape, h.output, h.size, h.block⟩
theorem Step.alloc {F : Nat → Prop} {a b : World} (h : Step F a b) (o : Obj) : Step F a (b.alloc o) :=
  ⟨h.os, h.tape, h.output, Nat.le_trans h.size (by simp), fun i hi hF => (Below.heap_alloc _ _ _ (Nat.lt_of_lt_of_le hi h.size)).trans (h.block i hi hF)⟩
theorem Step.setCell {F : Nat → Prop} {a b : World} (h : Step F a b) {p : Addr} (hp : p.block < a.heap.size → F p.block) (u : Value) : Step F a (b.setCell p u) :=
  ⟨h.os, h.tape, h.output, by simpa [World.setCell] using h.size, fun i hi hF => (Below.heap_setCell _ _ _ _ (fun e => by subst e; exact hF (hp hi))).trans (h.block i hi hF)⟩
theorem Step.grown {F : Nat → Prop} {a b c : World} {row : Option Nat} (h : Step F a b) (hg : b.grownBy c row) (hr : ∀ k, row = some k → k < a.heap.size → F k) : Step F a c :=
  ⟨hg.os.trans h.os, hg.tape.trans h.tape, hg.output.trans h.output, Nat.le_trans h.size hg.size, fun i hi hF => (hg.block i (Nat.lt_of_lt_of_le hi h.size) (fun e => hF (hr i e.symm hi))).trans (h.block i hi hF)⟩
theorem Step.below {w w' : World} (h : Step No w w') : Below w.heap.size w w' := ⟨h.os, h.tape, h.output, h.size, fun k hk => h.block k hk (fun f => f)⟩
theorem Step.ofBelow {w w' : World} (h : Below w.heap.size w w') : Step No w w' := ⟨h.os, h.tape, h.output, h.size, fun k hk _ => h.block k hk⟩
theorem Step.none {F : Nat → Prop} {w w' : World} (h : Step No w w') : Step F w w' := h.mono (fun _ _ f => f.elim)
theorem blk_lt {w : World} {b : Nat} {o : Obj} (h : w.heap[b]? = some o) : b < w.heap.size := (Array.getElem?_eq_some_iff.1 h).1
theorem Step.blk {F : Nat → Prop} {w w' : World} (h : Step F w w') {b : Nat} {o : Obj} (hb : w.heap[b]? = some o) (hF : ¬ F b) : w'.heap[b]? = some o := (h.block b (blk_lt hb) hF).trans hb
theorem Step.cell {F : Nat → Prop} {w w' : World} (h : Step F w w') {a : Addr} {v : Value} (hc : w.cell? a = some v) (hF : ¬ F a.block) : w'.cell? a = some v :=
  (World.cell?_of_block (h.block a.block (World.block_lt_of_cell? w a hc) hF)).trans hc

/-! ### 2. Blocks known whole -/
theorem blk_cell {w : World} {b : Nat} {cs : Array Value} {t : TypeId} (h : w.heap[b]? = some (.cells cs t (0, 0))) (i : Nat) : w.cell? ⟨b, i, none⟩ = cs[i]? := by simp [World.cell?, h]
theorem blk_free {w : World} {b : Nat} {cs : Array Value} {t : TypeId} (h : w.heap[b]? = some (.cells cs t (0, 0))) (i : Nat) : w.frozen? ⟨b, i, none⟩ = false := by simp [World.frozen?, h]
theorem blk_set {w : World} {b : Nat} {cs : Array Value} {t : TypeId} (h : w.heap[b]? = some (.cells cs t (0, 0))) (i : Nat) (u : Value) : (w.setCell ⟨b, i, none⟩ u).heap[b]? = some (.cells (cs.setIfInBounds i u) t (0, 0)) := by
  simp [World.setCell, Array.getElem?_modify, h]
theorem blk_set_other {w : World} {b : Nat} {o : Obj} (h : w.heap[b]? = some o) {a : Addr} (ha : a.block ≠ b) (u : Value) : (w.setCell a u).heap[b]? = some o := by
  rw [Below.heap_setCell _ _ _ _ (fun e => ha e.symm)]; exact h
theorem blk_new (w : World) (o : Obj) : (w.alloc o).heap[w.heap.size]? = some o := heap_alloc_new w o
theorem blk_alloc {w : World} {b : Nat} {o : Obj} (h : w.heap[b]? = some o) (o' : Obj) : (w.alloc o').heap[b]? = some o := (Below.heap_alloc _ _ _ (blk_lt h)).trans h
theorem blk_ne {w : World} {b b' : Nat} {cs cs' : Array Value} {t t' : TypeId} {f f' : Nat × Nat} (h : w.heap[b]? = some (.cells cs t f)) (h' : w.heap[b']? = some (.cells cs' t' f')) (ht : t ≠ t') : b ≠ b' := by
  intro e; subst e; rw [h] at h'; injection h' with h'; injection h' with _ h'; exact ht h'

/-! ### 3. Rows of one's own -/
theorem row_block {w : World} {base : Nat} {e : TypeId} {sz n : Nat} {v : Value} {xs : List Value} (h : w.ownsRow base e sz v n xs) {k : Nat} (hk : v.ownBlock = some k) : ∃ cur, w.heap[k]? = some (.cells cur e (0, 0)) := by
  rcases h.2 with ⟨rfl, _⟩ | ⟨g, cap, cur, rfl, _, hh, _⟩
  · simp [Value.ownBlock] at hk
  · have : g = k := by simpa [Value.ownBlock] using hk
    subst this
    exact ⟨cur, hh⟩
theorem row_ne {w : World} {base : Nat} {e : TypeId} {sz n : Nat} {v : Value} {xs : List Value} (h : w.ownsRow base e sz v n xs) {b : Nat} {cs : Array Value} {t : TypeId} {f : Nat × Nat} (hb : w.heap[b]? = some (.cells cs t f)) (ht : e ≠ t) : v.ownBlock ≠ some b := by
  intro hk
  obtain ⟨cur, hc⟩ := row_block h hk
  exact blk_ne hc hb ht rfl
theorem row_move {w w' : World} {base : Nat} {e : TypeId} {sz n : Nat} {v : Value} {xs : List Value} (h : w.ownsRow base e sz v n xs) (hm : ∀ k, v.ownBlock = some k → w'.heap[k]? = w.heap[k]?) : w'.ownsRow base e sz v n xs := by
  refine ⟨h.1, ?_⟩
  rcases h.2 with hn | ⟨g, cap, cur, rfl, hb, hgg, rest⟩
  · exact .inl hn
  · exact .inr ⟨g, cap, cur, rfl, hb, (hm g rfl).trans hgg, rest⟩
theorem row_step {F : Nat → Prop} {w w' : World} {base : Nat} {e : TypeId} {sz n : Nat} {v : Value} {xs : List Value} (h : w.ownsRow base e sz v n xs) (hs : Step F w w') (hF : ∀ k, v.ownBlock = some k → ¬ F k) : w'.ownsRow base e sz v n xs :=
  row_move h fun k hk => hs.block k (h.lt k hk).2 (hF k hk)
theorem row_slice {w : World} {base n : Nat} {e : TypeId} {sz : Nat} {v : Value} {xs : List Value} (h : w.ownsRow base e sz v n xs) : ∃ A c, v = .slice A n c ∧ n ≤ c ∧ c ≤ maxLen := by
  rcases h.2 with ⟨rfl, rfl⟩ | ⟨g, cap, cur, rfl, _, _, h1, h2, _⟩
  · exact ⟨none, 0, rfl, Nat.le_refl _, by simp [maxLen]⟩
  · exact ⟨_, cap, rfl, h1, h2⟩
theorem row_form {w : World} {base n : Nat} {e : TypeId} {sz : Nat} {v : Value} {xs : List Value} (h : w.ownsRow base e sz v n xs) (hn : 0 < n) :
    ∃ g c, v = .slice (some ⟨g, 0, none⟩) n c ∧ n ≤ c ∧ c ≤ maxLen := by
  rcases h.2 with ⟨_, h0⟩ | ⟨g, cap, cur, rfl, _, _, h1, h2, _⟩
  · omega
  · exact ⟨g, cap, rfl, h1, h2⟩
/-- append onto a row of one's own, as one step of a region that draws its order. -/
theorem step_append_own {P : Program} {ops : Array Oper} {o : Oper} {a : Act} {W : World} {K : Act → World → Prop} {Q : Exit → Act → World → Prop} {E : Prop} (hgd : o.guard = none) (s x : Operand) (t e : TypeId) (z : Value) (size bytes : Nat)
    (ho : o.op = .call { callee := .builtin .append, args := #[s, x], argTypes := #[t, t] })
    (ht : P.underlying t = some (.slice e)) (hinfo : (P.info? e).map (fun i => (i.zero, i.size, i.bytes)) = some (some z, size, bytes)) (hz : z.cells.size = size) (hs0 : 0 < size)
    (v : Value) (n : Nat) (xs : List Value) (hs : a.eval s = v) (HO : W.ownsRow 0 e size v n xs)
    (ad : Addr) (m c : Nat) (news : List Value) (hx : a.eval x = .slice (some ad) m c) (hl : news.length = m * size) (hnews : ∀ j u, news[j]? = some u → W.cell? (ad.add j) = some u) (h1 : ∀ u ∈ news, u.oneCell' = true)
    (hm : n + m ≤ maxLen) (hb : (n + m) * bytes ≤ 140737488355328)
    (h : ∀ v1 w1, w1.ownsRow 0 e size v1 (n + m) (xs ++ news) → W.grownBy w1 v.ownBlock → (v1.ownBlock = v.ownBlock ∨ v1.ownBlock = some W.heap.size) → K (a.put o.dst v1) w1) :
    if Region.wanted o (yielded ops a.tmps) = true then Oper.wp P o a W K Q else E := by
  obtain ⟨i0, hi, hzz⟩ := Option.map_eq_some_iff.1 hinfo
  simp only [Prod.mk.injEq] at hzz
  obtain ⟨hz0, hz1, hz2⟩ := hzz
  have hw : Region.wanted o (yielded ops a.tmps) = true := by simp [Region.wanted, hgd]
  rw [if_pos hw]
  obtain ⟨v1, w1, hr, hown, hg, _, hat⟩ := run_append_own_at (P := P) W 0 t o.type e i0 z size bytes ht hi hz0 hz1 hz2 hz hs0 v n xs HO ad m c news hl hnews h1 hm hb (Nat.zero_le _)
  unfold Oper.wp execOp
  simp only [ho, resolve, invoke, builtin, Sem.run_bind, Sem.run_pure, Result.andThen_ok, List.map_toArray, List.map_cons, List.map_nil, hs, hx, hr]
  exact h v1 w1 hown hg hat
/-- append onto a row of one's own, at the operation. -/
theorem list_append_own {P : Program} {ops : Array Oper} {rest : List Oper} {o : Oper} {a : Act} {Q : Exit → Act → World → Prop} (W : World) (hgd : o.guard = none) (s x : Operand) (t e : TypeId) (z : Value) (size bytes : Nat)
    (ho : o.op = .call { callee := .builtin .append, args := #[s, x], argTypes := #[t, t] })
    (ht : P.underlying t = some (.slice e)) (hinfo : (P.info? e).map (fun i => (i.zero, i.size, i.bytes)) = some (some z, size, bytes)) (hz : z.cells.size = size) (hs0 : 0 < size)
    (v : Value) (n : Nat) (xs : List Value) (hs : a.eval s = v) (HO : W.ownsRow 0 e size v n xs)
    (ad : Addr) (m c : Nat) (news : List Value) (hx : a.eval x = .slice (some ad) m c) (hl : news.length = m * size) (hnews : ∀ j u, news[j]? = some u → W.cell? (ad.add j) = some u) (h1 : ∀ u ∈ news, u.oneCell' = true)
    (hm : n + m ≤ maxLen) (hb : (n + m) * bytes ≤ 140737488355328)
    (h : ∀ v1 w1, w1.ownsRow 0 e size v1 (n + m) (xs ++ news) → W.grownBy w1 v.ownBlock → (v1.ownBlock = v.ownBlock ∨ v1.ownBlock = some W.heap.size) → wpList P ops Q rest (a.put o.dst v1) w1) :
    wpList P ops Q (o :: rest) a W := by
  obtain ⟨i0, hi, hzz⟩ := Option.map_eq_some_iff.1 hinfo
  simp only [Prod.mk.injEq] at hzz
  obtain ⟨hz0, hz1, hz2⟩ := hzz
  exact wpList_append_own_at W hgd s x t ho 0 e i0 z size bytes ht hi hz0 hz1 hz2 hz hs0 v n xs hs HO ad m c news hx hl hnews h1 hm hb (Nat.zero_le _) (fun v' w' a1 a2 _ a4 => h v' w' a1 a2 a4)
/-- append within the capacity of a row that is known whole, as one step of a region that draws its order. -/
theorem step_append_fit {P : Program} {ops : Array Oper} {o : Oper} {a : Act} {W : World} {K : Act → World → Prop} {Q : Exit → Act → World → Prop} {E : Prop} (hgd : o.guard = none) (s x : Operand) (t e : TypeId) (z : Value) (size bytes : Nat)
    (ho : o.op = .call { callee := .builtin .append, args := #[s, x], argTypes := #[t, t] })
    (ht : P.underlying t = some (.slice e)) (hinfo : (P.info? e).map (fun i => (i.zero, i.size, i.bytes)) = some (some z, size, bytes))
    (g n cap : Nat) (cur : Array Value) (hg : W.heap[g]? = some (.cells cur e (0, 0))) (hs : a.eval s = .slice (some ⟨g, 0, none⟩) n cap)
    (ad : Addr) (m c : Nat) (news : List Value) (hx : a.eval x = .slice (some ad) m c) (hl : news.length = m * size) (hnews : ∀ j u, news[j]? = some u → W.cell? (ad.add j) = some u) (h1 : ∀ u ∈ news, u.oneCell' = true)
    (hroom : n + m ≤ cap) (hfit : n * size + news.length ≤ cur.size)
    (h : ∀ cur1 : Array Value, Hid (cur1 = (cur.toList.take (n * size) ++ news ++ cur.toList.drop (n * size + news.length)).toArray) → K (a.put o.dst (.slice (some ⟨g, 0, none⟩) (n + m) cap)) (W.setRow g cur1)) :
    if Region.wanted o (yielded ops a.tmps) = true then Oper.wp P o a W K Q else E := by
  obtain ⟨i0, hi, hzz⟩ := Option.map_eq_some_iff.1 hinfo
  simp only [Prod.mk.injEq] at hzz
  obtain ⟨hz0, hz1, hz2⟩ := hzz
  have hw : Region.wanted o (yielded ops a.tmps) = true := by simp [Region.wanted, hgd]
  rw [if_pos hw]
  subst hz1
  have hr := run_append_room (P := P) W t o.type e i0 ht hi g n cap cur hg ad m c news hl hnews h1 hroom hfit
  unfold Oper.wp execOp
  simp only [ho, resolve, invoke, builtin, Sem.run_bind, Sem.run_pure, Result.andThen_ok, List.map_toArray, List.map_cons, List.map_nil, hs, hx, hr]
  exact h _ rfl
/-- clear(s) of a part of a row that is known whole. -/
theorem run_clear_row {P : Program} (n : Nat) (W : World) (t e ty : TypeId) (z : Value) (ht : P.underlying t = some (.slice e)) (hv : ∀ w, (zeroValue e).run P w = .ok z w) (h1 : ∀ u ∈ (Builtin.zeroCells z.cells n).toList, u.oneCell' = true)
    (g o c : Nat) (cur : Array Value) (hg : W.heap[g]? = some (.cells cur e (0, 0))) (hn : 0 < n) (hfit : o + n * z.cells.size ≤ cur.size) :
    (Builtin.clear_ #[t] ty #[.slice (some ⟨g, o, none⟩) n c]).run P W = .ok (.tuple #[]) (W.setRow g (cur.toList.take o ++ (Builtin.zeroCells z.cells n).toList ++ cur.toList.drop (o + n * z.cells.size)).toArray) := by
  have hsz : (Builtin.zeroCells z.cells n).toList.length = n * z.cells.size := by simp [size_zeroCells]
  have hst := run_storeCells_at P g o e (Builtin.zeroCells z.cells n).toList 0 cur W hg (by rw [hsz]; simpa using hfit) h1
  rw [hsz] at hst
  obtain ⟨m, rfl⟩ : ∃ m, n = m + 1 := ⟨n - 1, by omega⟩
  simp [Builtin.clear_, run_underlying ht, hv, hst]
theorem wpList_clear_row {P : Program} {ops : Array Oper} {rest : List Oper} {o : Oper} {a : Act} {Q : Exit → Act → World → Prop} (W : World) (hgd : o.guard = none) (x : Operand) (t e : TypeId) (n : Nat) (z : Value)
    (ho : o.op = .call { callee := .builtin .clear, args := #[x], argTypes := #[t] })
    (ht : P.underlying t = some (.slice e)) (hv : ∀ w, (zeroValue e).run P w = .ok z w) (h1 : ∀ u ∈ (Builtin.zeroCells z.cells n).toList, u.oneCell' = true)
    (g off c : Nat) (cur : Array Value) (hx : a.eval x = .slice (some ⟨g, off, none⟩) n c) (hg : W.heap[g]? = some (.cells cur e (0, 0))) (hn : 0 < n) (hfit : off + n * z.cells.size ≤ cur.size)
    (h : ∀ cur1 : Array Value, Hid (cur1 = (cur.toList.take off ++ (Builtin.zeroCells z.cells n).toList ++ cur.toList.drop (off + n * z.cells.size)).toArray) → wpList P ops Q rest (a.put o.dst (.tuple #[])) (W.setRow g cur1)) :
    wpList P ops Q (o :: rest) a W := by
  have hr := run_clear_row (P := P) n W t e o.type z ht hv h1 g off c cur hg hn hfit
  refine wpList_plain hgd fun K hK => ?_
  unfold Oper.wp execOp
  simp only [ho, resolve, invoke, builtin, Sem.run_bind, Sem.run_pure, Result.andThen_ok, List.map_toArray, List.map_cons, List.map_nil, hx, hr]
  exact hK _ _ (h _ rfl)
theorem step_setRow {F : Nat → Prop} {a b : World} {g : Nat} (h : Step F a b) (hg : g < a.heap.size → F g) (cs : Array Value) : Step F a (b.setRow g cs) :=
  ⟨h.os, h.tape, h.output, by rw [setRow_size]; exact h.size, fun i hi hF => (setRow_other _ _ _ _ (fun e => by subst e; exact hF (hg hi))).trans (h.block i hi hF)⟩
theorem cells_new (W : World) (cs : Array Value) (e : TypeId) : ∀ j u, cs.toList[j]? = some u → (W.alloc (.cells cs e)).cell? ((⟨W.heap.size, 0, none⟩ : Addr).add j) = some u :=
  World.news_of_block (heap_alloc_new W (.cells cs e))
end Go.Proofs.YtkamhpbfebdhjaaGreatDoor.Mem

/- Slices that come in: what they read as. Nothing of the program stands here. -/
namespace Go.Proofs.YtkamhpbfebdhjaaGreatDoor.Read
open Go.RowKit Go.Proofs.YtkamhpbfebdhjaaGreatDoor.Mem
set_option linter.unusedVariables false
set_option linter.unusedSimpArgs false

theorem add_add (a : Addr) (i j : Nat) : (a.add i).add j = a.add (i + j) := by
  unfold Addr.add
  by_cases h1 : i = 0 <;> by_cases h2 : j = 0 <;> simp [h1, h2, Nat.add_assoc]
theorem add_block (a : Addr) (i : Nat) : (a.add i).block = a.block := by unfold Addr.add; split <;> rfl
/-- The slice v holds xs: each element's cells, sz of them, are R's. -/
def SlR {α : Type} (sz : Nat) (R : World → α → List Value → Prop) (w : World) (xs : List α) (v : Value) : Prop :=
  ∃ A c, v = .slice A xs.length c ∧ xs.length ≤ c ∧ c ≤ maxLen ∧
    ∀ j (h : j < xs.length), ∃ ad cs, A = some ad ∧ cs.length = sz ∧ R w xs[j] cs ∧ ∀ i u, cs[i]? = some u → w.cell? (ad.add (j * sz + i)) = some u
theorem list_of {α : Type} (P : Nat → α → Prop) : ∀ n, (∀ j, j < n → ∃ a, P j a) → ∃ xs : List α, xs.length = n ∧ ∀ j (h : j < xs.length), P j xs[j]
  | 0, _ => ⟨[], rfl, fun j h => absurd h (Nat.not_lt_zero _)⟩
  | n + 1, h => by
    obtain ⟨xs, hl, hx⟩ := list_of P n (fun j hj => h j (by omega))
    obtain ⟨a, ha⟩ := h n (by omega)
    refine ⟨xs ++ [a], by simp [hl], fun j hj => ?_⟩
    rw [List.getElem_append]
    split
    · exact hx j _
    · have : j = n := by simp [hl] at hj; omega
      subst this
      simpa using ha
section
variable {H : Type} {enc : TypeId × Value → H} {P : Program} {w : World} {base : Nat} {spare : Nat → Bool} {held : Bool}
theorem open_sl {α : Type} {sz : Nat} {R : World → α → List Value → Prop} {t e : TypeId} {fuel : Nat} {cs : List Value} {x : DataW H × List MemPlace} (ht : P.underlying t = some (.slice e)) (hC : P.cellsOf e = sz)
    (hR : ∀ fuel cs x, cs.length = sz → DataW.trod enc P w base spare held fuel e cs = some x → ∃ a, R w a cs) (h : DataW.trod enc P w base spare held fuel t cs = some x) :
    ∃ v xs, cs = [v] ∧ SlR sz R w xs v := by
  rcases DataW.trod_slice ht h with ⟨h0, _⟩ | ⟨a, len, cap, elems, rest, n, _, rfl, rfl, hb, hl, hm, hlen, hel, _⟩
  · exact ⟨_, [], h0, none, 0, rfl, Nat.le_refl _, by simp [maxLen], fun j h => absurd h (Nat.not_lt_zero _)⟩
  · obtain ⟨xs, hxl, hx⟩ := list_of (fun j (b : α) => ∃ cs, cs.length = sz ∧ R w b cs ∧ ∀ i u, cs[i]? = some u → w.cell? (a.add (j * sz + i)) = some u) len (fun j hj => by
      have h1 := hel j hj
      rw [List.getElem?_eq_getElem (by omega), Option.bind_eq_some_iff] at h1
      obtain ⟨cs, hc, ht'⟩ := h1
      rw [hC] at hc
      obtain ⟨_, hcl, hat⟩ := World.cells?_some hc
      obtain ⟨b, hb'⟩ := hR n cs _ hcl ht'
      refine ⟨b, cs, hcl, hb', fun i u hu => ?_⟩
      have hi : i < sz := by rw [← hcl]; exact (List.getElem?_eq_some_iff.1 hu).1
      rw [← add_add, hat i hi, hu])
    refine ⟨_, xs, rfl, some a, cap, by rw [hxl], by omega, hm, fun j hj => ?_⟩
    obtain ⟨cs, h1, h2, h3⟩ := hx j hj
    exact ⟨a, cs, rfl, h1, h2, h3⟩
end
def strR : World → ByteArray → List Value → Prop := fun _ s cs => cs = [.string s] ∧ s.size ≤ maxLen
def intR : World → Int → List Value → Prop := fun _ n cs => cs = [.int .i64 n]
theorem SlR.step {α : Type} {sz : Nat} {R : World → α → List Value → Prop} {w w' : World} {xs : List α} {v : Value} (h : SlR sz R w xs v) (hR : ∀ a cs, R w a cs → R w' a cs) (hs : Step No w w') : SlR sz R w' xs v := by
  obtain ⟨A, c, hv, h1, h2, h3⟩ := h
  refine ⟨A, c, hv, h1, h2, fun j hj => ?_⟩
  obtain ⟨ad, cs, e, hl, hr, hc⟩ := h3 j hj
  exact ⟨ad, cs, e, hl, hR _ _ hr, fun i u hu => hs.cell (hc i u hu) (fun f => f)⟩
/-- A row of one's own reads as what was laid in it. -/
theorem SlR.ofRow {α : Type} {sz : Nat} (hz : 0 < sz) {R : World → α → List Value → Prop} {enc : α → List Value} {w : World} {base : Nat} {e : TypeId} {v : Value} {xs : List α} (h : w.ownsRow base e sz v xs.length (xs.flatMap enc))
    (hl : ∀ a ∈ xs, (enc a).length = sz) (hR : ∀ a ∈ xs, R w a (enc a)) : SlR sz R w xs v := by
  obtain ⟨A, c, rfl, h1, h2⟩ := row_slice h
  refine ⟨A, c, rfl, h1, h2, fun j hj => ?_⟩
  obtain ⟨g, c', he, -, -⟩ := row_form h (by omega)
  injection he with he1 _ he3
  subst he1 he3
  refine ⟨_, enc xs[j], rfl, hl _ (List.getElem_mem hj), hR _ (List.getElem_mem hj), fun i u hu => ?_⟩
  have hi : i < sz := by rw [← hl _ (List.getElem_mem hj)]; exact (List.getElem?_eq_some_iff.1 hu).1
  have key : ∀ (ys : List α) (k : Nat) (hk : k < ys.length), (∀ a ∈ ys, (enc a).length = sz) → (ys.flatMap enc)[k * sz + i]? = (enc ys[k])[i]? := by
    intro ys
    induction ys with
    | nil => intro k hk; simp at hk
    | cons y ys ih =>
      intro k hk hys
      rw [List.flatMap_cons]
      cases k with
      | zero => rw [List.getElem?_append_left (by rw [hys y (by simp)]; omega)]; simp
      | succ k =>
        rw [List.getElem?_append_right (by rw [hys y (by simp), Nat.add_mul]; omega), hys y (by simp), show (k + 1) * sz + i - sz = k * sz + i by rw [Nat.add_mul]; omega]
        exact ih k (by simpa using hk) (fun a ha => hys a (by simp [ha]))
  have hlt : j * sz + i < xs.length * sz := by
    have : (j + 1) * sz ≤ xs.length * sz := Nat.mul_le_mul_right _ hj
    rw [Nat.add_mul] at this
    omega
  have ha : (⟨g, 0, none⟩ : Addr).add (j * sz + i) = ⟨g, j * sz + i, none⟩ := by unfold Addr.add; split <;> simp_all
  rw [ha, h.cellAt _ hlt, key xs j hj hl, hu]
end Go.Proofs.YtkamhpbfebdhjaaGreatDoor.Read

/- A slice that may be nil, appended to a row of one's own. Nothing of the program stands here. -/
namespace Go.Proofs.YtkamhpbfebdhjaaGreatDoor.AppSl
open Go.RowKit Go.Proofs.YtkamhpbfebdhjaaGreatDoor.Mem Go.Proofs.YtkamhpbfebdhjaaGreatDoor.Read
set_option linter.unusedVariables false
set_option linter.unusedSimpArgs false
theorem run_append_none_c {P : Program} {w : World} (base : Nat) (t ty e : TypeId) (i : TypeInfo) (size c : Nat) (ht : P.underlying t = some (.slice e)) (hi : P.info? e = some i)
    (v : Value) (n : Nat) (xs : List Value) (hown : w.ownsRow base e size v n xs) : (Builtin.append_ #[t, t] ty #[v, .slice none 0 c]).run P w = .ok v w := by
  rcases hown.2 with ⟨rfl, rfl⟩ | ⟨g, cap, cur, rfl, _, _, hnc, _⟩
  · simp [Builtin.append_, run_underlying ht, sizeOf, typeInfo, hi, Builtin.lenOf, Builtin.firstCells]
  · simp [Builtin.append_, run_underlying ht, sizeOf, typeInfo, hi, Builtin.lenOf, Builtin.firstCells, hnc, storeCells]
/-- append(s, x...) where x may be nil. -/
theorem list_append_sl {P : Program} {ops : Array Oper} {rest : List Oper} {o : Oper} {a : Act} {Q : Exit → Act → World → Prop} (W : World) (hgd : o.guard = none) (s x : Operand) (t e : TypeId) (z : Value) (size bytes : Nat)
    (ho : o.op = .call { callee := .builtin .append, args := #[s, x], argTypes := #[t, t] })
    (ht : P.underlying t = some (.slice e)) (hinfo : (P.info? e).map (fun i => (i.zero, i.size, i.bytes)) = some (some z, size, bytes)) (hz : z.cells.size = size) (hs0 : 0 < size)
    (v : Value) (n : Nat) (xs : List Value) (hs : a.eval s = v) (HO : W.ownsRow 0 e size v n xs)
    (A : Option Addr) (m c : Nat) (news : List Value) (hx : a.eval x = .slice A m c) (hA : A = none → m = 0) (hl : news.length = m * size) (hnews : ∀ ad, A = some ad → ∀ j u, news[j]? = some u → W.cell? (ad.add j) = some u) (h1 : ∀ u ∈ news, u.oneCell' = true)
    (hm : n + m ≤ maxLen) (hb : (n + m) * bytes ≤ 140737488355328)
    (h : ∀ v1 w1, w1.ownsRow 0 e size v1 (n + m) (xs ++ news) → W.grownBy w1 v.ownBlock → (v1.ownBlock = v.ownBlock ∨ v1.ownBlock = some W.heap.size) → wpList P ops Q rest (a.put o.dst v1) w1) :
    wpList P ops Q (o :: rest) a W := by
  cases A with
  | some ad => exact list_append_own W hgd s x t e z size bytes ho ht hinfo hz hs0 v n xs hs HO ad m c news hx hl (hnews ad rfl) h1 hm hb h
  | none =>
    obtain rfl : m = 0 := hA rfl
    obtain rfl : news = [] := List.eq_nil_of_length_eq_zero (by rw [hl]; simp)
    obtain ⟨i0, hi, hzz⟩ := Option.map_eq_some_iff.1 hinfo
    refine wpList_plain hgd fun K hK => ?_
    have hrun := run_append_none_c (P := P) (w := W) 0 t o.type e i0 size c ht hi v n xs HO
    unfold Oper.wp
    simp [execOp, ho, resolve, invoke, builtin, hs, hx, hrun, Result.andThen]
    exact hK _ _ (h v W (by simpa using HO) ⟨rfl, rfl, rfl, Nat.le_refl _, fun _ _ _ => rfl⟩ (.inl rfl))
/-- What a slice that reads as xs has in its cells, one behind the other. -/
theorem sl_news {α : Type} {sz : Nat} (hz : 0 < sz) {R : World → α → List Value → Prop} {enc : α → List Value} (hR : ∀ w a cs, R w a cs → cs = enc a) {w : World} {xs : List α} {A : Option Addr} {n c : Nat} (h : SlR sz R w xs (.slice A n c)) :
    (A = none → xs.length = 0) ∧ (xs.flatMap enc).length = xs.length * sz ∧ ∀ ad, A = some ad → ∀ j u, (xs.flatMap enc)[j]? = some u → w.cell? (ad.add j) = some u := by
  obtain ⟨A', c', he, -, -, h3⟩ := h
  injection he with he1 _ _
  subst he1
  have hlen : ∀ a ∈ xs, (enc a).length = sz := by
    intro a ha
    obtain ⟨j, hj, rfl⟩ := List.getElem_of_mem ha
    obtain ⟨ad, cs, -, hl, hr, -⟩ := h3 j hj
    rw [← hR _ _ _ hr, hl]
  have hl : ∀ ys : List α, (∀ a ∈ ys, (enc a).length = sz) → (ys.flatMap enc).length = ys.length * sz := by
    intro ys
    induction ys with
    | nil => intro _; simp
    | cons y ys ih => intro h; rw [List.flatMap_cons, List.length_append, h y (by simp), ih (fun a ha => h a (by simp [ha])), List.length_cons, Nat.add_mul]; omega
  refine ⟨fun hA => ?_, hl xs hlen, fun ad hA j u hu => ?_⟩
  · rcases Nat.eq_zero_or_pos xs.length with h0 | h0
    · exact h0
    · obtain ⟨ad, cs, e, -⟩ := h3 0 h0
      rw [hA] at e
      cases e
  · have hj : j < xs.length * sz := by rw [← hl xs hlen]; exact (List.getElem?_eq_some_iff.1 hu).1
    have hk : j / sz < xs.length := Nat.div_lt_of_lt_mul (by rw [Nat.mul_comm]; exact hj)
    obtain ⟨ad', cs, e, hcl, hr, hc⟩ := h3 (j / sz) hk
    rw [hA] at e
    injection e with e
    subst e
    have hi : j % sz < sz := Nat.mod_lt _ hz
    have key : ∀ (ys : List α) (k i : Nat) (hk : k < ys.length), (∀ a ∈ ys, (enc a).length = sz) → i < sz → (ys.flatMap enc)[k * sz + i]? = (enc ys[k])[i]? := by
      intro ys
      induction ys with
      | nil => intro k i hk; simp at hk
      | cons y ys ih =>
        intro k i hk hys hi
        rw [List.flatMap_cons]
        cases k with
        | zero => rw [List.getElem?_append_left (by rw [hys y (by simp)]; omega)]; simp
        | succ k =>
          rw [List.getElem?_append_right (by rw [hys y (by simp), Nat.add_mul]; omega), hys y (by simp), show (k + 1) * sz + i - sz = k * sz + i by rw [Nat.add_mul]; omega]
          exact ih k i (by simpa using hk) (fun a ha => hys a (by simp [ha])) hi
    have hd : j / sz * sz + j % sz = j := Nat.div_add_mod' j sz
    have := key xs (j / sz) (j % sz) hk hlen hi
    rw [hd, hu, ← hR _ _ _ hr] at this
    have := hc (j % sz) u this.symm
    rwa [hd] at this
end Go.Proofs.YtkamhpbfebdhjaaGreatDoor.AppSl

/- Trees in memory: rows of nodes, each with a row of its children's ids. Nothing of the program stands here. -/
namespace Go.Proofs.YtkamhpbfebdhjaaGreatDoor.Tree
open Go.RowKit Go.Proofs.YtkamhpbfebdhjaaGreatDoor.Mem Go.Proofs.YtkamhpbfebdhjaaGreatDoor.Read Go.Proofs.YtkamhpbfebdhjaaGreatDoor.AppSl
set_option linter.unusedVariables false
set_option linter.unusedSimpArgs false
theorem set_at {n : Nat} {a b : World} (h : Step (fun i => i = n) a b) {p : Addr} (hp : p.block = n) (v : Value) : Step (fun i => i = n) a (b.setCell p v) := h.setCell (fun _ => hp) v
structure NodeD where
  id : Int
  kind : Int
  fr : Int
  up : Int
  kids : List Int
def ints (ks : List Int) : List Value := ks.map (Value.int .i64)
def nodeR (w : World) (x : NodeD) (cs : List Value) : Prop := ∃ kv, cs = [.int .i64 x.id, .int .i64 x.kind, .int .i64 x.fr, .int .i64 x.up, kv] ∧ SlR 1 intR w x.kids kv
abbrev NodesR (w : World) (xs : List NodeD) (v : Value) : Prop := SlR 5 nodeR w xs v
theorem intR_step {w w' : World} (a : Int) (cs : List Value) (h : intR w a cs) : intR w' a cs := h
theorem nodeR_step {w w' : World} (hs : Step No w w') (a : NodeD) (cs : List Value) (h : nodeR w a cs) : nodeR w' a cs := by
  obtain ⟨kv, e, hk⟩ := h
  exact ⟨kv, e, hk.step (fun _ _ h => h) hs⟩
theorem NodesR.to {w w' : World} {xs : List NodeD} {v : Value} (h : NodesR w xs v) (hs : Step No w w') : NodesR w' xs v := h.step (nodeR_step hs) hs
theorem ints_to {w w' : World} {ks : List Int} {v : Value} (h : SlR 1 intR w ks v) (hs : Step No w w') : SlR 1 intR w' ks v := h.step (fun a cs h => h) hs
/-- A row of whole numbers of one's own. -/
def IntsO (TI : TypeId) (base : Nat) (w : World) (ks : List Int) (v : Value) : Prop := w.ownsRow 0 TI 1 v ks.length (ints ks) ∧ ∀ k, v.ownBlock = some k → base ≤ k
def nodeCells (x : NodeD) (kv : Value) : List Value := [.int .i64 x.id, .int .i64 x.kind, .int .i64 x.fr, .int .i64 x.up, kv]
def flat (xs : List (NodeD × Value)) : List Value := xs.flatMap fun p => nodeCells p.1 p.2
/-- A row of nodes of one's own, whose rows of children are one's own too. -/
def NodesO (TN TI : TypeId) (base : Nat) (w : World) (xs : List (NodeD × Value)) (v : Value) : Prop :=
  w.ownsRow 0 TN 5 v xs.length (flat xs) ∧ (∀ k, v.ownBlock = some k → base ≤ k) ∧ ∀ p ∈ xs, IntsO TI base w p.1.kids p.2
theorem IntsO.move {TI : TypeId} {base : Nat} {w w' : World} {ks : List Int} {v : Value} (h : IntsO TI base w ks v) (hm : ∀ k, v.ownBlock = some k → w'.heap[k]? = w.heap[k]?) : IntsO TI base w' ks v := ⟨row_move h.1 hm, h.2⟩
theorem IntsO.step {F : Nat → Prop} {TI : TypeId} {base : Nat} {w w' : World} {ks : List Int} {v : Value} (h : IntsO TI base w ks v) (hs : Step F w w') (hF : ∀ k, v.ownBlock = some k → ¬ F k) : IntsO TI base w' ks v := ⟨row_step h.1 hs hF, h.2⟩
theorem IntsO.blk {TI : TypeId} {base : Nat} {w : World} {ks : List Int} {v : Value} (h : IntsO TI base w ks v) {k : Nat} (hk : v.ownBlock = some k) : ∃ cur, w.heap[k]? = some (.cells cur TI (0, 0)) := row_block h.1 hk
/-- A step that turns no block of these types. -/
theorem NodesO.step {F : Nat → Prop} {TN TI : TypeId} {base : Nat} {w w' : World} {xs : List (NodeD × Value)} {v : Value} (h : NodesO TN TI base w xs v) (hs : Step F w w') (hF : ∀ k cur, (w.heap[k]? = some (.cells cur TN (0, 0)) ∨ w.heap[k]? = some (.cells cur TI (0, 0))) → base ≤ k → ¬ F k) : NodesO TN TI base w' xs v := by
  obtain ⟨h1, h2, h3⟩ := h
  refine ⟨row_step h1 hs fun k hk => ?_, h2, fun p hp => (h3 p hp).step hs fun k hk => ?_⟩
  · obtain ⟨cur, hc⟩ := row_block h1 hk
    exact hF k cur (.inl hc) (h2 k hk)
  · obtain ⟨cur, hc⟩ := (h3 p hp).blk hk
    exact hF k cur (.inr hc) ((h3 p hp).2 k hk)
theorem NodesO.mono {TN TI : TypeId} {base base' : Nat} {w : World} {xs : List (NodeD × Value)} {v : Value} (h : NodesO TN TI base w xs v) (hb : base' ≤ base) : NodesO TN TI base' w xs v :=
  ⟨h.1, fun k hk => Nat.le_trans hb (h.2.1 k hk), fun p hp => ⟨(h.2.2 p hp).1, fun k hk => Nat.le_trans hb ((h.2.2 p hp).2 k hk)⟩⟩
theorem flat_length (xs : List (NodeD × Value)) : (flat xs).length = xs.length * 5 := by
  unfold flat
  induction xs with
  | nil => rfl
  | cons x xs ih => rw [List.flatMap_cons, List.length_append, ih, List.length_cons]; simp [nodeCells]; omega
theorem flat_get (xs : List (NodeD × Value)) (j : Nat) (hj : j < xs.length) (i : Nat) (hi : i < 5) : (flat xs)[j * 5 + i]? = (nodeCells xs[j].1 xs[j].2)[i]? := by
  unfold flat
  induction xs generalizing j with
  | nil => simp at hj
  | cons x xs ih =>
    rw [List.flatMap_cons]
    cases j with
    | zero => rw [List.getElem?_append_left (by simp [nodeCells]; omega)]; simp
    | succ j =>
      rw [List.getElem?_append_right (by simp [nodeCells]; omega)]
      have : (nodeCells x.1 x.2).length = 5 := rfl
      rw [this, show (j + 1) * 5 + i - 5 = j * 5 + i by omega]
      exact ih j (by simpa using hj)
/-- What one owns, as it is read. -/
theorem IntsO.reads {TI : TypeId} {base : Nat} {w : World} {ks : List Int} {v : Value} (h : IntsO TI base w ks v) : SlR 1 intR w ks v := by
  obtain ⟨A, c, rfl, h1, h2⟩ := row_slice h.1
  refine ⟨A, c, rfl, h1, h2, fun j hj => ?_⟩
  obtain ⟨g, c', he, -, -⟩ := row_form h.1 (by omega)
  injection he with he1 he2 he3
  subst he1
  refine ⟨⟨g, 0, none⟩, [.int .i64 ks[j]], rfl, rfl, rfl, fun i u hu => ?_⟩
  obtain rfl : i = 0 := by have := (List.getElem?_eq_some_iff.1 hu).1; simp at this; omega
  rw [show ((⟨g, 0, none⟩ : Addr).add (j * 1 + 0)) = ⟨g, j, none⟩ by simp [Addr.add]; omega, h.1.cellAt _ (by omega)]
  simp only [List.getElem?_cons_zero, Option.some.injEq] at hu
  subst hu
  simp [ints, hj]
theorem NodesO.reads {TN TI : TypeId} {base : Nat} {w : World} {xs : List (NodeD × Value)} {v : Value} (h : NodesO TN TI base w xs v) : NodesR w (xs.map (·.1)) v := by
  obtain ⟨h1, h2, h3⟩ := h
  obtain ⟨A, c, rfl, hc1, hc2⟩ := row_slice h1
  refine ⟨A, c, by rw [List.length_map], by simpa using hc1, hc2, fun j hj => ?_⟩
  rw [List.length_map] at hj
  obtain ⟨g, c', he, -, -⟩ := row_form h1 (by omega)
  injection he with he1 he2 he3
  subst he1
  refine ⟨⟨g, 0, none⟩, nodeCells xs[j].1 xs[j].2, rfl, rfl, ?_, fun i u hu => ?_⟩
  · rw [List.getElem_map]
    exact ⟨xs[j].2, rfl, (h3 _ (List.getElem_mem hj)).reads⟩
  · have hi : i < 5 := by have := (List.getElem?_eq_some_iff.1 hu).1; simpa [nodeCells] using this
    rw [show ((⟨g, 0, none⟩ : Addr).add (j * 5 + i)) = ⟨g, j * 5 + i, none⟩ by simp [Addr.add]; omega, h1.cellAt _ (by omega), flat_get xs j hj i hi]
    exact hu
theorem NodesO.nil (TN TI : TypeId) (base : Nat) (w : World) : NodesO TN TI base w [] (.slice none 0 0) := ⟨World.ownsRow_nil _ _ _ _, fun k hk => by simp [Value.ownBlock] at hk, fun p hp => absurd hp (by simp)⟩
/-- One node more. -/
theorem NodesO.next {TN TI : TypeId} (hTT : TN ≠ TI) {base : Nat} {w w0 w1 : World} {xs : List (NodeD × Value)} {v v1 : Value} (h : NodesO TN TI base w xs v) (hs : Step No w w0) (hb : base ≤ w.heap.size) {x : NodeD} {kv : Value} (hk : IntsO TI base w0 x.kids kv) (ho : w1.ownsRow 0 TN 5 v1 (xs.length + 1) (flat xs ++ nodeCells x kv)) (hg : w0.grownBy w1 v.ownBlock) (hat : v1.ownBlock = v.ownBlock ∨ v1.ownBlock = some w0.heap.size) :
    NodesO TN TI base w1 (xs ++ [(x, kv)]) v1 := by
  obtain ⟨h1, h2, h3⟩ := h
  have move : ∀ (ks : List Int) (u : Value), IntsO TI base w0 ks u → IntsO TI base w1 ks u := fun ks u hu => hu.move fun k hk => hg.block k (hu.1.lt k hk).2 fun e => by
    obtain ⟨c1, e1⟩ := hu.blk hk
    obtain ⟨c2, e2⟩ := row_block h1 e.symm
    have e3 := hs.blk e2 (fun f => f)
    exact blk_ne e3 e1 hTT rfl
  refine ⟨by rw [List.length_append]; simpa [flat] using ho, fun k hk => ?_, fun p hp => ?_⟩
  · rcases hat with hat | hat
    · exact h2 k (by rw [← hat, hk])
    · rw [hk] at hat
      injection hat with hat
      rw [hat]
      exact Nat.le_trans hb hs.size
  · rcases List.mem_append.1 hp with hp | hp
    · exact move _ _ ((h3 p hp).step hs (fun _ _ f => f))
    · obtain rfl : p = (x, kv) := by simpa using hp
      exact move _ _ hk
theorem nodes_len {w : World} {xs : List NodeD} {v : Value} (h : NodesR w xs v) : ∃ A c, v = .slice A xs.length c ∧ xs.length ≤ c ∧ c ≤ maxLen := by
  obtain ⟨A, c, h1, h2, h3, _⟩ := h
  exact ⟨A, c, h1, h2, h3⟩
theorem nodes_cells {w : World} {xs : List NodeD} {A : Option Addr} {n c : Nat} (h : NodesR w xs (.slice A n c)) (k : Nat) (hk : k < xs.length) :
    ∃ ad kv, A = some ad ∧ SlR 1 intR w xs[k].kids kv ∧ w.cell? (ad.add (k * 5)) = some (.int .i64 (xs[k]).id) ∧ w.cell? ⟨(ad.add (k * 5)).block, (ad.add (k * 5)).off + 1, none⟩ = some (.int .i64 (xs[k]).kind) ∧ w.cell? ⟨(ad.add (k * 5)).block, (ad.add (k * 5)).off + 2, none⟩ = some (.int .i64 (xs[k]).fr) ∧
      w.cell? ⟨(ad.add (k * 5)).block, (ad.add (k * 5)).off + 3, none⟩ = some (.int .i64 (xs[k]).up) ∧ w.cell? ⟨(ad.add (k * 5)).block, (ad.add (k * 5)).off + 4, none⟩ = some kv := by
  obtain ⟨A', c', he, _, _, h3⟩ := h
  injection he with he1 _ _
  subst he1
  obtain ⟨ad, cs, e, _, ⟨kv, rfl, hkv⟩, hc⟩ := h3 k hk
  have key : ∀ i u, (nodeCells xs[k] kv)[i]? = some u → w.cell? ((ad.add (k * 5)).add i) = some u := fun i u hu => by rw [add_add]; exact hc i u hu
  exact ⟨ad, kv, e, hkv, hc 0 _ rfl, key 1 _ rfl, key 2 _ rfl, key 3 _ rfl, key 4 _ rfl⟩
theorem ints_len {w : World} {ks : List Int} {v : Value} (h : SlR 1 intR w ks v) : ∃ A c, v = .slice A ks.length c ∧ ks.length ≤ c ∧ c ≤ maxLen := by
  obtain ⟨A, c, h1, h2, h3, _⟩ := h
  exact ⟨A, c, h1, h2, h3⟩
theorem ints_news {w : World} {ks : List Int} {A : Option Addr} {n c : Nat} (h : SlR 1 intR w ks (.slice A n c)) :
    (A = none → ks.length = 0) ∧ (ints ks).length = ks.length * 1 ∧ ∀ ad, A = some ad → ∀ j u, (ints ks)[j]? = some u → w.cell? (ad.add j) = some u := by
  have h1 := sl_news (sz := 1) (by decide) (R := intR) (enc := fun a : Int => [Value.int .i64 a]) (fun _ _ _ h => h) h
  have e : ∀ l : List Int, l.flatMap (fun a : Int => [Value.int .i64 a]) = ints l := by
    intro l
    induction l with
    | nil => rfl
    | cons x l ih => rw [List.flatMap_cons, ih]; rfl
  rw [e] at h1
  exact h1
theorem ints_one (ks : List Int) : ∀ u ∈ ints ks, u.oneCell' = true := by
  intro u hu
  obtain ⟨a, -, rfl⟩ := List.mem_map.1 hu
  rfl
end Go.Proofs.YtkamhpbfebdhjaaGreatDoor.Tree

/- What edits, steps, entries, trees and messages read as. Nothing of the program stands here. -/
namespace Go.Proofs.YtkamhpbfebdhjaaGreatDoor.Data
open Go.RowKit Go.Proofs.YtkamhpbfebdhjaaGreatDoor.Mem Go.Proofs.YtkamhpbfebdhjaaGreatDoor.Read Go.Proofs.YtkamhpbfebdhjaaGreatDoor.AppSl Go.Proofs.YtkamhpbfebdhjaaGreatDoor.Tree
set_option linter.unusedVariables false
set_option linter.unusedSimpArgs false
structure CompD where
  kind : Int
  n : Int
  text : ByteArray
structure StepD where
  kind : Int
  id : Int
  node : Int
  fr : Int
  up : Int
  kids : List Int
structure EntryD where
  client : Int
  seq : Int
  edit : List CompD
  delta : List StepD
structure TreeD where
  root : Int
  next : Int
  nodes : List NodeD
structure MsgD where
  kind : Int
  client : Int
  rev : Int
  seq : Int
  fr : Int
  last : Int
  refused : Bool
  edit : List CompD
  entries : List EntryD
  text : ByteArray
  tree : TreeD
end Go.Proofs.YtkamhpbfebdhjaaGreatDoor.Data

/- Rows of one's own, whose elements may hang on further rows of one's own. Nothing of the program stands here. -/
namespace Go.Proofs.YtkamhpbfebdhjaaGreatDoor.OwnR
open Go.RowKit Go.Proofs.YtkamhpbfebdhjaaGreatDoor.Mem Go.Proofs.YtkamhpbfebdhjaaGreatDoor.Read Go.Proofs.YtkamhpbfebdhjaaGreatDoor.Tree
set_option linter.unusedVariables false
set_option linter.unusedSimpArgs false
/-- What F names from a place on is of types in Ts. -/
def Types (Ts : TypeId → Prop) (base : Nat) (w : World) (F : Nat → Prop) : Prop := ∀ k, base ≤ k → k < w.heap.size → F k → ∃ cur t, w.heap[k]? = some (.cells cur t (0, 0)) ∧ Ts t
theorem Types.no (Ts : TypeId → Prop) (base : Nat) (w : World) : Types Ts base w No := fun _ _ _ f => f.elim
theorem Types.at {Ts : TypeId → Prop} {base : Nat} {w : World} {b : Nat} {cs : Array Value} {t : TypeId} (h : w.heap[b]? = some (.cells cs t (0, 0))) (ht : Ts t) : Types Ts base w (fun k => k = b) := fun k _ _ e => by subst e; exact ⟨_, _, h, ht⟩
theorem Types.row {Ts : TypeId → Prop} {base b0 : Nat} {w : World} {e : TypeId} {sz n : Nat} {v : Value} {xs : List Value} (h : w.ownsRow b0 e sz v n xs) (ht : Ts e) : Types Ts base w (fun k => v.ownBlock = some k) := fun k _ _ hk => by
  obtain ⟨cur, hc⟩ := row_block h hk
  exact ⟨_, _, hc, ht⟩
theorem Types.mono {Ts Us : TypeId → Prop} {base : Nat} {w : World} {F : Nat → Prop} (h : Types Ts base w F) (hT : ∀ t, Ts t → Us t) : Types Us base w F := fun k h1 h2 h3 => by
  obtain ⟨cur, t, a, b⟩ := h k h1 h2 h3
  exact ⟨cur, t, a, hT t b⟩
theorem Types.low {Ts : TypeId → Prop} {base : Nat} {w : World} {F : Nat → Prop} (h : ∀ k, F k → k < base) : Types Ts base w F := fun k h1 _ h3 => absurd (h k h3) (by omega)
def Stable {β : Type} (Ts : TypeId → Prop) (base : Nat) (sub : World → β → Prop) : Prop := ∀ (F : Nat → Prop) (w w' : World) (a : β), sub w a → Step F w w' → Types Ts base w F → sub w' a
def RowO {β : Type} (T : TypeId) (sz base : Nat) (enc : β → List Value) (sub : World → β → Prop) (w : World) (xs : List β) (v : Value) : Prop :=
  w.ownsRow 0 T sz v xs.length (xs.flatMap enc) ∧ (∀ k, v.ownBlock = some k → base ≤ k) ∧ ∀ a ∈ xs, sub w a
section
variable {β : Type} {T : TypeId} {sz base : Nat} {enc : β → List Value} {sub : World → β → Prop} {Ts : TypeId → Prop}
theorem RowO.nil (w : World) : RowO T sz base enc sub w [] (.slice none 0 0) := ⟨World.ownsRow_nil _ _ _ _, fun k hk => by simp [Value.ownBlock] at hk, fun a ha => absurd ha (by simp)⟩
theorem RowO.step (hS : Stable Ts base sub) {F : Nat → Prop} {w w' : World} {xs : List β} {v : Value} (h : RowO T sz base enc sub w xs v) (hs : Step F w w') (hF : Types (fun t => t ≠ T ∧ Ts t) base w F) : RowO T sz base enc sub w' xs v := by
  obtain ⟨h1, h2, h3⟩ := h
  refine ⟨row_step h1 hs fun k hk hFk => ?_, h2, fun a ha => hS F w w' a (h3 a ha) hs (hF.mono fun t ht => ht.2)⟩
  obtain ⟨cur, hc⟩ := row_block h1 hk
  obtain ⟨cur2, t, hc2, ht, _⟩ := hF k (h2 k hk) (blk_lt hc) hFk
  exact blk_ne hc hc2 (fun e => ht e.symm) rfl
theorem RowO.stable (hS : Stable Ts base sub) : Stable (fun t => t ≠ T ∧ Ts t) base (fun (w : World) (p : List β × Value) => RowO T sz base enc sub w p.1 p.2) := fun F w w' a h hs hF => RowO.step hS h hs hF
theorem RowO.no (hS : Stable Ts base sub) {w w' : World} {xs : List β} {v : Value} (h : RowO T sz base enc sub w xs v) (hs : Step No w w') : RowO T sz base enc sub w' xs v := h.step hS hs (Types.no _ _ _)
/-- One more. -/
theorem RowO.next (hS : Stable Ts base sub) (hT : Ts T) {w0 w1 : World} {xs : List β} {v v1 : Value} (h : RowO T sz base enc sub w0 xs v) (hb : base ≤ w0.heap.size) {x : β} (hx : sub w0 x) (ho : w1.ownsRow 0 T sz v1 (xs.length + 1) (xs.flatMap enc ++ enc x)) (hg : w0.grownBy w1 v.ownBlock) (hat : v1.ownBlock = v.ownBlock ∨ v1.ownBlock = some w0.heap.size) : RowO T sz base enc sub w1 (xs ++ [x]) v1 := by
  obtain ⟨h1, h2, h3⟩ := h
  have sg : Step (fun k => v.ownBlock = some k) w0 w1 := (Step.refl _ w0).grown hg (fun k hk _ => hk)
  have ty : Types Ts base w0 (fun k => v.ownBlock = some k) := Types.row h1 hT
  refine ⟨by rw [List.length_append, List.flatMap_append]; simpa using ho, fun k hk => ?_, fun a ha => ?_⟩
  · rcases hat with hat | hat
    · exact h2 k (by rw [← hat, hk])
    · rw [hk] at hat
      injection hat with hat
      omega
  · rcases List.mem_append.1 ha with ha | ha
    · exact hS _ _ _ _ (h3 a ha) sg ty
    · obtain rfl : a = x := by simpa using ha
      exact hS _ _ _ _ hx sg ty
theorem RowO.reads {α : Type} (hz : 0 < sz) {R : World → α → List Value → Prop} {w : World} {xs : List β} {v : Value} (f : β → α) (h : RowO T sz base enc sub w xs v) (hl : ∀ a ∈ xs, (enc a).length = sz) (hR : ∀ a ∈ xs, R w (f a) (enc a)) : SlR sz R w (xs.map f) v := by
  have h' : SlR sz (fun w a cs => R w (f a) cs) w xs v := SlR.ofRow hz h.1 hl hR
  obtain ⟨A, c, rfl, h1, h2, h3⟩ := h'
  exact ⟨A, c, by rw [List.length_map], by simpa using h1, h2, fun j hj => by
    rw [List.length_map] at hj
    obtain ⟨ad, cs, a1, a2, a3, a4⟩ := h3 j hj
    exact ⟨ad, cs, a1, a2, by rw [List.getElem_map]; exact a3, a4⟩⟩
end
theorem stable_true {β : Type} (Ts : TypeId → Prop) (base : Nat) : Stable Ts base (fun (_ : World) (_ : β) => True) := fun _ _ _ _ _ _ _ => trivial
theorem stable_pure {β : Type} (Ts : TypeId → Prop) (base : Nat) (p : β → Prop) : Stable Ts base (fun (_ : World) (a : β) => p a) := fun _ _ _ _ h _ _ => h
end Go.Proofs.YtkamhpbfebdhjaaGreatDoor.OwnR
