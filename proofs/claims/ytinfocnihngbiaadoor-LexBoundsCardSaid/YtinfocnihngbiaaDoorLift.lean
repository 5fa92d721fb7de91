/- What the lifted proofs of these laws share: ErrRange out of the row's condition. No condition. -/
import Derived.Test.YtinfocnihngbiaaDoorRows
import Derived.Test.YtinfocnihngbiaaDoorLawA
import Derived.ProofKit
import Derived.LaidMore
import Derived.Lay
import Derived.LaidOnce
import Derived.OpenShut
import Derived.ChangeMaps5
import Derived.Below
import Derived.Carry
import Derived.Stop.Joined
import Derived.Stop.LaidErr
namespace Go.Proofs.YtinfocnihngbiaaDoor
open Go.ChangeShapes Go.WideShapes Go.ChangeAt Go.RowKit

theorem own : ownKnob Tryd.prog.godebug = none := by kernel_rfl
theorem laidOut : laidOutB Tryd.prog = true := by kernel_rfl
def laid5 : List (String × DataW Unit) := [("math/bits.deBruijn32tab", Rows.laid_math_bits_deBruijn32tab), ("math/bits.deBruijn64tab", Rows.laid_math_bits_deBruijn64tab), ("internal/strconv.uint64pow10", Rows.laid_internal_strconv_uint64pow10), ("strconv.ErrRange", Rows.laid_strconv_ErrRange), ("strconv.ErrSyntax", Rows.laid_strconv_ErrSyntax)]
theorem gR : Tryd.prog.globalNamed "strconv.ErrRange" = some 1 := by kernel_rfl
theorem gRType : (Tryd.prog.globals[1]?).map (·.type) = some 66 := by kernel_rfl
theorem cells87 : Tryd.prog.cellsOf 87 = 1 := by kernel_rfl
theorem cells9 : Tryd.prog.cellsOf 9 = 1 := by kernel_rfl
theorem star : "*" ++ "errors.errorString" = "*errors.errorString" := by decide
theorem row85 (u : TypeId) (h : Tryd.prog.typeName? 3 u = some "*errors.errorString") : u = 85 :=
  typeName_ptr_named (nm := "errors.errorString") (by rw [star]; kernel_rfl) (by kernel_rfl) (by decide) u (by rw [star]; exact h)

theorem err_of {W : World} (h : laidMetH Tryd.prog laid5 W) : ErrR W := by
  rw [MakeChecks.laidMetH_plain _ _ _ (by kernel_rfl)] at h
  have h2 := h.tail.tail.tail
  obtain ⟨a, s, hv, hc, _, _⟩ := laid_sentinel h2 gR gRType Tryd.underlying66 row85 Tryd.underlying85 Tryd.underlying87 rfl rfl Tryd.underlying9 cells87 cells9
  have hg : W.cell? ⟨1, 0, none⟩ = some (.iface 85 (.pointer (some a))) := by simpa using World.var?_cell gR hv 0
  exact ⟨World.block_lt_of_cell? W _ hg, _, _, hg⟩
end Go.Proofs.YtinfocnihngbiaaDoor
