/- Acts that come in. -/
import Derived.Test.YtjeamfoicpgkhaaDoorOpen
import Derived.Test.YtjeamfoicpgkhaaDoorScrShow
namespace Go.Proofs.YtjeamfoicpgkhaaDoor.ScrOpen
open Go.RowKit Go.Proofs.YtjeamfoicpgkhaaDoor.Mem Go.Proofs.YtjeamfoicpgkhaaDoor.Read Go.Proofs.YtjeamfoicpgkhaaDoor.ScrW Go.Proofs.YtjeamfoicpgkhaaDoor.Open Go.ChangeShapes Go.WideShapes
set_option linter.unusedVariables false
section
variable {H : Type} {enc : TypeId × Value → H} {P : Program} {w : World} {base : Nat} {spare : Nat → Bool} {held : Bool} {r : Reach} {b0 : Nat}
theorem open_acts {t e t1 t2 t3 : TypeId} {fs : Array Field} {f0 f1 f2 f3 f4 f5 : Field} {fuel : Nat} {v : Value} {x : DataW H × List MemPlace} (ht : P.underlying t = some (.slice e)) (he : P.underlying e = some (.struct fs)) (hC : P.cellsOf e = 6)
    (hfs : fs.toList = [f0, f1, f2, f3, f4, f5]) (ho : [f0, f1, f2, f3, f4, f5].map (·.offset) = [0, 1, 2, 3, 4, 5]) (hty : [f0, f1, f2, f3, f4, f5].map (·.type) = [t1, t1, t3, t1, t1, t2])
    (h1 : P.underlying t1 = some (.int .i64)) (h3 : P.underlying t3 = some .bool) (h2 : P.underlying t2 = some .string) (c1 : P.cellsOf t1 = 1) (c3 : P.cellsOf t3 = 1) (c2 : P.cellsOf t2 = 1)
    (hv : Value.okWide P w r b0 t v) (h : DataW.trod enc P w base spare held fuel t v.cells.toList = some x) : ∃ xs, ActS w xs v := by
  refine open_row (R := actR) ht hC (fun fuel cs x hl ht => ?_) hv h
  match cs, hl with
  | [d0, d1, d2, d3, d4, d5], _ =>
    obtain ⟨ys, n, -, -, -, hlen, hg⟩ := DataW.trod_struct he ht
    obtain rfl : fs = #[f0, f1, f2, f3, f4, f5] := by apply Array.ext'; simpa using hfs
    simp only [List.map_cons, List.map_nil, List.cons.injEq, and_true] at ho hty
    obtain ⟨o0, o1, o2, o3, o4, o5⟩ := ho
    obtain ⟨e0, e1, e2, e3, e4, e5⟩ := hty
    have some_of : ∀ (i : Nat), i < 6 → ∃ y, ys[i]? = some y := fun i hi => ⟨ys[i]'(by rw [hlen]; exact hi), List.getElem?_eq_getElem _⟩
    obtain ⟨y0, g0⟩ := some_of 0 (by decide)
    obtain ⟨y1, g1⟩ := some_of 1 (by decide)
    obtain ⟨y2, g2⟩ := some_of 2 (by decide)
    obtain ⟨y3, g3⟩ := some_of 3 (by decide)
    obtain ⟨y4, g4⟩ := some_of 4 (by decide)
    obtain ⟨y5, g5⟩ := some_of 5 (by decide)
    have k0 := hg 0 f0 rfl
    have k1 := hg 1 f1 rfl
    have k2 := hg 2 f2 rfl
    have k3 := hg 3 f3 rfl
    have k4 := hg 4 f4 rfl
    have k5 := hg 5 f5 rfl
    rw [o0, e0, ‹P.cellsOf t1 = 1›, g0] at k0
    rw [o1, e1, ‹P.cellsOf t1 = 1›, g1] at k1
    rw [o2, e2, ‹P.cellsOf t3 = 1›, g2] at k2
    rw [o3, e3, ‹P.cellsOf t1 = 1›, g3] at k3
    rw [o4, e4, ‹P.cellsOf t1 = 1›, g4] at k4
    rw [o5, e5, ‹P.cellsOf t2 = 1›, g5] at k5
    obtain ⟨n0, q0, _, _⟩ := DataW.trod_int h1 k0
    obtain ⟨n1, q1, _, _⟩ := DataW.trod_int h1 k1
    obtain ⟨b2, q2, _, _⟩ := DataW.trod_bool h3 k2
    obtain ⟨n3, q3, _, _⟩ := DataW.trod_int h1 k3
    obtain ⟨n4, q4, _, _⟩ := DataW.trod_int h1 k4
    obtain ⟨s, q5, _, hz⟩ := DataW.trod_string h2 k5
    simp only [List.drop_zero, List.drop_succ_cons, List.take_succ_cons, List.take_zero, List.cons.injEq, and_true] at q0 q1 q2 q3 q4 q5
    subst q0 q1 q2 q3 q4 q5
    exact ⟨⟨n0, n1, b2, n3, n4, s⟩, rfl, hz⟩
end
end Go.Proofs.YtjeamfoicpgkhaaDoor.ScrOpen
