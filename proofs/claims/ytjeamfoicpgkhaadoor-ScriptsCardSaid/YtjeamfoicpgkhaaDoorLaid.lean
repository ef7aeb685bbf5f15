/- What the listed package variables hold, for the walks; and a start that fits. -/
import Derived.Test.YtjeamfoicpgkhaaDoorRows
import Derived.Test.YtjeamfoicpgkhaaDoorEnv
import Derived.Lib.LaidTab
import Derived.Stop.LaidErr
import Derived.LaidMore
import Derived.LaidHandle
import Derived.MakeChecks
namespace Go.Proofs.YtjeamfoicpgkhaaDoor.Laid
open Go.RowKit Go.Lib Go.Proofs.YtjeamfoicpgkhaaDoor.Mem Go.Proofs.YtjeamfoicpgkhaaDoor.Env
set_option linter.unusedVariables false
/-- The listed variables, in the rows' order. -/
def all : List (String × DataW Unit) := [("math/bits.deBruijn32tab", Rows.laid_math_bits_deBruijn32tab), ("math/bits.deBruijn64tab", Rows.laid_math_bits_deBruijn64tab), ("internal/strconv.uint64pow10", Rows.laid_internal_strconv_uint64pow10), ("strconv.ErrRange", Rows.laid_strconv_ErrRange), ("strconv.ErrSyntax", Rows.laid_strconv_ErrSyntax)]
theorem gP : Tryd.prog.globalNamed "internal/strconv.uint64pow10" = some 0 := by kernel_rfl
theorem tP : (Tryd.prog.globals[0]?).map (·.type) = some 90 := by kernel_rfl
theorem gR : Tryd.prog.globalNamed "strconv.ErrRange" = some 5 := by kernel_rfl
theorem tR : (Tryd.prog.globals[5]?).map (·.type) = some 52 := by kernel_rfl
theorem gS : Tryd.prog.globalNamed "strconv.ErrSyntax" = some 4 := by kernel_rfl
theorem tS : (Tryd.prog.globals[4]?).map (·.type) = some 52 := by kernel_rfl
theorem star : "*" ++ "errors.errorString" = "*errors.errorString" := by decide
theorem rowE (u : TypeId) (h : Tryd.prog.typeName? 3 u = some "*errors.errorString") : u = 114 :=
  typeName_ptr_named (nm := "errors.errorString") (by rw [star]; kernel_rfl) (by kernel_rfl) (by decide) u (by rw [star]; exact h)
theorem cE : Tryd.prog.cellsOf 116 = 1 := by kernel_rfl
theorem cS : Tryd.prog.cellsOf 9 = 1 := by kernel_rfl
theorem cU : Tryd.prog.cellsOf 73 = 1 := by kernel_rfl
theorem cP : Tryd.prog.cellsOf 90 = 20 := by kernel_rfl
theorem env_of {W : World} (h0 : laidMetH Tryd.prog all W) : Env W := by
  rw [MakeChecks.laidMetH_plain _ _ _ (by kernel_rfl)] at h0
  have h2 : laidMet Tryd.prog (("internal/strconv.uint64pow10", tabData .u64 pow10Tab) :: _) W := h0.tail.tail
  obtain ⟨a0, s0, hv0, -, -, -⟩ := laid_sentinel h2.tail gR tR Tryd.underlying52 rowE Tryd.underlying114 Tryd.underlying116 rfl rfl Tryd.underlying9 cE cS
  obtain ⟨a1, s1, hv1, -, -, -⟩ := laid_sentinel h2.tail.tail gS tS Tryd.underlying52 rowE Tryd.underlying114 Tryd.underlying116 rfl rfl Tryd.underlying9 cE cS
  exact ⟨tabIs_of_head gP tP Tryd.underlying90 Tryd.underlying73 cU cP h2, ⟨_, _, hv1⟩, _, _, hv0⟩
set_option maxRecDepth 100000 in
theorem door_met (os : Os) (args : Array Value) : laidMetH Tryd.prog all ((World.doorLaid Tryd.prog 4000 os).forCall (fun _ _ => 0) ⟨#[], args, []⟩).memory :=
  laidMetH_of_parts3 (fuel := 10) (laidMet_of_run' 10 (by kernel_rfl) (by kernel_rfl)) (by kernel_rfl) (by kernel_rfl)
end Go.Proofs.YtjeamfoicpgkhaaDoor.Laid
