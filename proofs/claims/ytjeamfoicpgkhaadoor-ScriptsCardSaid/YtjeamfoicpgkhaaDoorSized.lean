/- How many elements a slice that came in may have: its bytes lie within the reach. -/
import Derived.Test.YtjeamfoicpgkhaaDoorOpen
import Derived.SizedLaws
namespace Go.Proofs.YtjeamfoicpgkhaaDoor.Sized
open Go.RowKit Go.Proofs.YtjeamfoicpgkhaaDoor.Mem Go.Proofs.YtjeamfoicpgkhaaDoor.Read Go.ChangeShapes Go.WideShapes
section
variable {H : Type} {enc : TypeId × Value → H} {P : Program} {w : World} {base : Nat} {spare : Nat → Bool} {held : Bool}
theorem sl_len {α : Type} {sz : Nat} {R : World → α → List Value → Prop} {ts : List TypeId} {ds : List (DataW H)} (hsz : (DataW.weightsEach P ts ds).all (· ≤ reachBytes) = true) {j : Nat} {t e : TypeId} {fuel : Nat} {v : Value} {xs : List α} {d : DataW H} {p : List MemPlace} (ht : ts[j]? = some t) (hd : ds[j]? = some d) (hu : P.underlying t = some (.slice e)) {k : Nat} (hb : P.bytesOf e = k)
    (hx : SlR sz R w xs v) (h : DataW.trod enc P w base spare held fuel t v.cells.toList = some (d, p)) : xs.length * k ≤ 140737488351232 := by
  obtain ⟨A, c, rfl, -, -, -⟩ := hx
  rcases DataW.trod_slice hu h with ⟨h0, -⟩ | ⟨a, len, cap, elems, rest, n, -, hcs, hx, -, -, -, hlen, -⟩
  · have : xs.length = 0 := by
      have : (Value.slice A xs.length c) = .slice none 0 0 := by simpa [Value.cells] using h0
      injection this
    simp [this]
  · have hl : xs.length = len := by
      have : (Value.slice A xs.length c) = .slice (some a) len cap := by simpa [Value.cells] using hcs
      injection this
    simp only [Prod.mk.injEq] at hx
    obtain ⟨rfl, -⟩ := hx
    have := sized_slice hsz ht hd hu
    rw [hb] at this
    simp only [List.length_map, reachBytes] at this
    rw [hl, ← hlen]
    exact Nat.le_trans (Nat.mul_le_mul_right _ (Nat.le_add_right _ _)) this
end
end Go.Proofs.YtjeamfoicpgkhaaDoor.Sized
