/- What the listed package variables hold, for the walks; and a start that fits. -/
import Derived.Test.YtkamhpbfebdhjaaGreatDoorRows
import Derived.Test.YtkamhpbfebdhjaaGreatDoorLumpB
import Derived.Lib.LaidTab
import Derived.Stop.LaidErr
import Derived.LaidMore
import Derived.LaidHandle
import Derived.MakeChecks
namespace Go.Proofs.YtkamhpbfebdhjaaGreatDoor.Laid
open Go.RowKit Go.Lib Go.Proofs.YtkamhpbfebdhjaaGreatDoor.Mem Go.Proofs.YtkamhpbfebdhjaaGreatDoor.Env
set_option linter.unusedVariables false
/-- The listed variables, in the rows' order. -/
def all : List (String × DataW Unit) := [("math/bits.deBruijn32tab", Rows.laid_math_bits_deBruijn32tab), ("math/bits.deBruijn64tab", Rows.laid_math_bits_deBruijn64tab), ("internal/strconv.uint64pow10", Rows.laid_internal_strconv_uint64pow10), ("strconv.ErrRange", Rows.laid_strconv_ErrRange), ("strconv.ErrSyntax", Rows.laid_strconv_ErrSyntax)]
theorem gP : Tryz.prog.globalNamed "internal/strconv.uint64pow10" = some 1 := by kernel_rfl
theorem tP : (Tryz.prog.globals[1]?).map (·.type) = some 156 := by kernel_rfl
theorem gR : Tryz.prog.globalNamed "strconv.ErrRange" = some 3 := by kernel_rfl
theorem tR : (Tryz.prog.globals[3]?).map (·.type) = some 78 := by kernel_rfl
theorem gS : Tryz.prog.globalNamed "strconv.ErrSyntax" = some 2 := by kernel_rfl
theorem tS : (Tryz.prog.globals[2]?).map (·.type) = some 78 := by kernel_rfl
theorem star : "*" ++ "errors.errorString" = "*errors.errorString" := by decide
theorem rowE (u : TypeId) (h : Tryz.prog.typeName? 3 u = some "*errors.errorString") : u = 180 :=
  typeName_ptr_named (nm := "errors.errorString") (by rw [star]; kernel_rfl) (by kernel_rfl) (by decide) u (by rw [star]; exact h)
theorem cE : Tryz.prog.cellsOf 182 = 1 := by kernel_rfl
theorem cS : Tryz.prog.cellsOf 9 = 1 := by kernel_rfl
theorem cU : Tryz.prog.cellsOf 149 = 1 := by kernel_rfl
theorem cP : Tryz.prog.cellsOf 156 = 20 := by kernel_rfl
theorem env_of {W : World} (h0 : laidMetH Tryz.prog all W) : Env W := by
  rw [MakeChecks.laidMetH_plain _ _ _ (by kernel_rfl)] at h0
  have h2 : laidMet Tryz.prog (("internal/strconv.uint64pow10", tabData .u64 pow10Tab) :: _) W := h0.tail.tail
  obtain ⟨a0, s0, hv0, -, -, -⟩ := laid_sentinel h2.tail gR tR Tryz.underlying78 rowE Tryz.underlying180 Tryz.underlying182 rfl rfl Tryz.underlying9 cE cS
  obtain ⟨a1, s1, hv1, -, -, -⟩ := laid_sentinel h2.tail.tail gS tS Tryz.underlying78 rowE Tryz.underlying180 Tryz.underlying182 rfl rfl Tryz.underlying9 cE cS
  exact ⟨tabIs_of_head gP tP Tryz.underlying156 Tryz.underlying149 cU cP h2, ⟨_, _, hv1⟩, _, _, hv0⟩
set_option maxRecDepth 100000 in
theorem door_met (os : Os) (args : Array Value) : laidMetH Tryz.prog all ((World.doorLaid Tryz.prog 4000 os).forCall (fun _ _ => 0) ⟨#[], args, []⟩).memory :=
  laidMetH_of_parts3 (fuel := 10) (laidMet_of_run' 10 (by kernel_rfl) (by kernel_rfl)) (by kernel_rfl) (by kernel_rfl)
end Go.Proofs.YtkamhpbfebdhjaaGreatDoor.Laid
