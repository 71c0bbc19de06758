/-
  A handle among the arguments: opened and shut. Conditions: none.
-/
import Derived.Test.YtpfnccjfmbecfaaDoorS
import Derived.Lib.SmallJoins
namespace Go.Proofs.YtpfnccjfmbecfaaDoor
open Go.RowKit Go.WideShapes Go.ChangeShapes Go.ChangeAt Go.Joins

section
variable {H : Type} {enc : TypeId × Value → H} {W : World} {base : Nat} {spare : Nat → Bool} {held : Bool}
set_option maxRecDepth 100000 in
theorem open_handle {b0 : Nat} {v : Value} {d : DataW H} {p : List MemPlace} (hv : Value.okWide Tryd.prog W .any b0 27 v) (h : DataW.Trod enc Tryd.prog W base spare held 27 v d p) :
    ∃ t g r : Int, v = .agg #[.int .i64 t, .int .u32 g, .int .u8 r] ∧ d = .agg [.lit (.int .i64 t), .lit (.int .u32 g), .lit (.int .u8 r)] ∧ p = [] ∧ (Lit.int .i64 t).wf = true ∧ (Lit.int .u32 g).wf = true ∧ (Lit.int .u8 r).wf = true := by
  obtain ⟨c0, c1, c2, y0, y1, y2, m, rfl, rfl, rfl, hy0, hy1, hy2⟩ := open_agg3 Tryd.underlying27 (by kernel_rfl) (by kernel_rfl) hv h
  obtain ⟨t, e0, rfl, w0⟩ := DataW.trod_int Tryd.underlying3 hy0
  obtain ⟨g, e1, rfl, w1⟩ := DataW.trod_int Tryd.underlying24 hy1
  obtain ⟨r, e2, rfl, w2⟩ := DataW.trod_int Tryd.underlying25 hy2
  simp at e0 e1 e2
  subst e0 e1 e2
  exact ⟨t, g, r, rfl, rfl, rfl, w0, w1, w2⟩
set_option maxRecDepth 100000 in
theorem shut_handle {t g r : Int} (w0 : (Lit.int .i64 t).wf = true) (w1 : (Lit.int .u32 g).wf = true) (w2 : (Lit.int .u8 r).wf = true) :
    DataW.Trod enc Tryd.prog W base spare held 27 (.agg #[.int .i64 t, .int .u32 g, .int .u8 r]) (.agg [.lit (.int .i64 t), .lit (.int .u32 g), .lit (.int .u8 r)]) [] :=
  shut_agg3 Tryd.underlying27 (by kernel_rfl) (by kernel_rfl) (field_of_Trod (shut_int Tryd.underlying3 w0) rfl) (field_of_Trod (shut_int Tryd.underlying24 w1) rfl) (field_of_Trod (shut_int Tryd.underlying25 w2) rfl)
end
end Go.Proofs.YtpfnccjfmbecfaaDoor
