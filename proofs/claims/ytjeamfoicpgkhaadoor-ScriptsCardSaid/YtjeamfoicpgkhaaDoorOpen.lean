/- Arguments that lie in memory: what they read as. -/
import Derived.Test.YtjeamfoicpgkhaaDoorProg
import Derived.Test.YtjeamfoicpgkhaaDoorRead
namespace Go.Proofs.YtjeamfoicpgkhaaDoor.Open
open Go.RowKit Go.Proofs.YtjeamfoicpgkhaaDoor.Mem Go.Proofs.YtjeamfoicpgkhaaDoor.Read Go.ChangeShapes Go.WideShapes
set_option linter.unusedVariables false
section
variable {H : Type} {enc : TypeId × Value → H} {P : Program} {w : World} {base : Nat} {spare : Nat → Bool} {held : Bool} {r : Reach} {b0 : Nat}
theorem cells_slice {A : Option Addr} {n c : Nat} {v u : Value} (hv : v = .slice A n c) (h : v.cells.toList = [u]) : u = v := by
  subst hv
  have h1 : [Value.slice A n c] = [u] := h
  exact ((List.cons.inj h1).1).symm
theorem open_row {α : Type} {sz : Nat} {R : World → α → List Value → Prop} {t e : TypeId} {fuel : Nat} {v : Value} {x : DataW H × List MemPlace} (ht : P.underlying t = some (.slice e)) (hC : P.cellsOf e = sz)
    (hR : ∀ fuel cs x, cs.length = sz → DataW.trod enc P w base spare held fuel e cs = some x → ∃ a, R w a cs)
    (hv : Value.okWide P w r b0 t v) (h : DataW.trod enc P w base spare held fuel t v.cells.toList = some x) : ∃ xs, SlR sz R w xs v := by
  obtain ⟨a, len, cap, hv'⟩ := okWide_slice ht hv
  obtain ⟨u, xs, hu, hx⟩ := open_sl (R := R) ht hC hR h
  rw [cells_slice hv' hu] at hx
  exact ⟨xs, hx⟩
theorem open_strs {t e : TypeId} {fuel : Nat} {v : Value} {x : DataW H × List MemPlace} (ht : P.underlying t = some (.slice e)) (he : P.underlying e = some .string) (hC : P.cellsOf e = 1)
    (hv : Value.okWide P w r b0 t v) (h : DataW.trod enc P w base spare held fuel t v.cells.toList = some x) : ∃ xs, SlR 1 strR w xs v :=
  open_row ht hC (fun fuel cs x hl ht => by
    obtain ⟨s, rfl, _, hz⟩ := DataW.trod_string he ht
    exact ⟨s, rfl, hz⟩) hv h
end
end Go.Proofs.YtjeamfoicpgkhaaDoor.Open
