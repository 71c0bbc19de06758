/-
  From the rows' lists to the errors' variables.
-/
import Derived.Test.YtllcppdgamagoaaDoorG
import Derived.Test.YtllcppdgamagoaaDoorM
namespace Go.Proofs.YtllcppdgamagoaaDoor
open Go.RowKit Go.WideShapes Go.ChangeShapes

theorem gSyn : Tryd.prog.globalNamed "strconv.ErrSyntax" = some 0 := by kernel_rfl
theorem gSynType : (Tryd.prog.globals[0]?).map (·.type) = some 54 := by kernel_rfl
theorem gRan : Tryd.prog.globalNamed "strconv.ErrRange" = some 1 := by kernel_rfl
theorem gRanType : (Tryd.prog.globals[1]?).map (·.type) = some 54 := by kernel_rfl
theorem cells86 : Tryd.prog.cellsOf 86 = 1 := by kernel_rfl
theorem cells9 : Tryd.prog.cellsOf 9 = 1 := by kernel_rfl
theorem star : "*" ++ "errors.errorString" = "*errors.errorString" := by decide
theorem row84 (u : TypeId) (h : Tryd.prog.typeName? 3 u = some "*errors.errorString") : u = 84 :=
  typeName_ptr_named (nm := "errors.errorString") (by rw [star]; kernel_rfl) (by kernel_rfl) (by decide) u (by rw [star]; exact h)

/-- the two errors, fourth and fifth on the lists -/
theorem errs_of {x y z : String × DataW Unit} {W : World} (h : laidMet Tryd.prog (x :: y :: z :: ("strconv.ErrRange", Rows.laid_strconv_ErrRange) :: ("strconv.ErrSyntax", Rows.laid_strconv_ErrSyntax) :: []) W) : Errs W := by
  have h3 := laidMet.tail (laidMet.tail (laidMet.tail h))
  obtain ⟨a0, s0, hv0, -, -, -⟩ := laid_sentinel (h3 : laidMet Tryd.prog (("strconv.ErrRange", .iface "*errors.errorString" (.ptr (.agg [.lit (.string [118, 97, 108, 117, 101, 32, 111, 117, 116, 32, 111, 102, 32, 114, 97, 110, 103, 101])]))) :: _) W) gRan gRanType Tryd.underlying54 row84 Tryd.underlying84 Tryd.underlying86 rfl rfl Tryd.underlying9 cells86 cells9
  have h4 := laidMet.tail h3
  obtain ⟨a1, s1, hv1, -, -, -⟩ := laid_sentinel (h4 : laidMet Tryd.prog (("strconv.ErrSyntax", .iface "*errors.errorString" (.ptr (.agg [.lit (.string [105, 110, 118, 97, 108, 105, 100, 32, 115, 121, 110, 116, 97, 120])]))) :: _) W) gSyn gSynType Tryd.underlying54 row84 Tryd.underlying84 Tryd.underlying86 rfl rfl Tryd.underlying9 cells86 cells9
  exact ⟨⟨_, _, by have h0 := World.var?_cell gSyn hv1 0; simpa using h0⟩, _, _, by have h0 := World.var?_cell gRan hv0 0; simpa using h0⟩
end Go.Proofs.YtllcppdgamagoaaDoor
