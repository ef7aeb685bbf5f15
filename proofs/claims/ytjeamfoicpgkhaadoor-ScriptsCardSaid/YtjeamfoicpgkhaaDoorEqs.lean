/- Structs compared field by field: what '==' and '!=' come to. Nothing of the program stands here. -/
import Derived.WalkKit
import Derived.Laws.StructEq
namespace Go.Proofs.YtjeamfoicpgkhaaDoor.Eqs
set_option linter.unusedVariables false
section
variable {P : Program} {w : World} {d : Nat} {xs ys : Array Value}
/-- One field, and those behind it. -/
theorem fields_cons {f : Field} {fs : List Field} {a b : Value} {r s : Bool} (hn : f.name ≠ "_") (ha : (part f.type xs f.offset).run P w = .ok a w) (hb : (part f.type ys f.offset).run P w = .ok b w)
    (he : (Op.equalIn d f.type a b).run P w = .ok r w) (hr : (Op.eqFields d xs ys fs).run P w = .ok s w) : (Op.eqFields d xs ys (f :: fs)).run P w = .ok (r && s) w := by
  rw [Op.eqFields]
  simp only [if_pos hn, Sem.run_bind, ha, hb, he, Result.andThen_ok]
  cases r <;> simp [hr]
theorem fields_nil : (Op.eqFields d xs ys []).run P w = .ok true w := by
  simp [Op.eqFields]
theorem struct_eq {t : TypeId} {fs : Array Field} {r : Bool} (hu : P.underlying t = some (.struct fs)) (hp : P.stoodInHeld t = false) (h : (Op.eqFields d xs ys fs.toList).run P w = .ok r w) : (Op.equalIn (d + 1) t (.agg xs) (.agg ys)).run P w = .ok r w := by
  have hf : P.fieldsOf t = fs := by simp [Program.fieldsOf, hu]
  rw [run_equalIn_struct (P := P) w d t xs ys (by rw [hf]; exact hu) hp, hf]
  exact h
end
end Go.Proofs.YtjeamfoicpgkhaaDoor.Eqs
