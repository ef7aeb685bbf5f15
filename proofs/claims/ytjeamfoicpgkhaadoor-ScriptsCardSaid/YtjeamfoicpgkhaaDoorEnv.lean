/- The library's package variables that the code reads, as the rows lay them. -/
import Derived.Test.YtjeamfoicpgkhaaDoorMem
import Derived.Test.YtjeamfoicpgkhaaDoorProg
import Derived.Test.YtjeamfoicpgkhaaDoorShelf
import Derived.Lib.AppendIntMem
namespace Go.Proofs.YtjeamfoicpgkhaaDoor.Env
open Go.RowKit Go.Lib Go.Proofs.YtjeamfoicpgkhaaDoor.Mem
set_option linter.unusedVariables false
theorem var_step {P : Program} {w w' : World} {n : String} {cs : Array Value} (h : Step No w w') (hv : w.var? P n = some cs) : w'.var? P n = some cs := by
  unfold World.var? at hv ⊢
  cases hg : P.globalNamed n with
  | none => rw [hg] at hv; simp at hv
  | some g =>
    rw [hg] at hv
    simp only [Option.bind_some] at hv ⊢
    cases hb : w.heap[g]? with
    | none => rw [hb] at hv; simp at hv
    | some o =>
      rw [h.blk hb (fun f => f)]
      rw [hb] at hv
      exact hv
def Env (w : World) : Prop :=
  TabIs Tryd.prog w "internal/strconv.uint64pow10" .u64 pow10Tab ∧ (∃ tp p, w.var? Tryd.prog "strconv.ErrSyntax" = some #[.iface tp p]) ∧ ∃ tp p, w.var? Tryd.prog "strconv.ErrRange" = some #[.iface tp p]
theorem Env.step {w w' : World} (h : Env w) (hs : Step No w w') : Env w' := by
  obtain ⟨h1, ⟨a, b, h2⟩, c, d, h3⟩ := h
  exact ⟨var_step hs h1, ⟨a, b, var_step hs h2⟩, c, d, var_step hs h3⟩
theorem grow_step {w : World} (k : Nat) (os : Array Obj) : Step No w (Go.Sort.grow (w.drewN k) os) := Step.ofBelow (Lib.below_grow _ w (Nat.le_refl _) k os)
end Go.Proofs.YtjeamfoicpgkhaaDoor.Env
