/-
  Stats compared: a Stat with a proper load is equal to itself. Conditions: the load's parts are from 0 to 2.
-/
import Derived.Test.YthohoendjipleaaDoorEs
namespace Go.Proofs.YthohoendjipleaaDoor
open Go.RowKit Go.Sort
set_option linter.unusedSimpArgs false

theorem order_self (a : Nat) (ha : a ≤ W2) : FloatKind.f64.format.order a a = some .eq := by
  have h := order_pos a a (by unfold W2 at ha; omega) (by unfold W2 at ha; omega)
  rw [show compare a a = Ordering.eq by simp] at h
  exact h
theorem run_equalIn_complex (d : Nat) (t : TypeId) (k : FloatKind) (a b : Nat) (h : (Tryd.prog.underlying t) = some (.complex k)) (ha : k.format.order a a = some .eq) (hb : k.format.order b b = some .eq) (w : World) :
    (Op.equalIn (d + 1) t (.complex k a b) (.complex k a b)).run Tryd.prog w = .ok true w := by
  simp [Op.equalIn, run_underlying h, Op.floatEq, Op.floatCmp, ha, hb]
set_option maxRecDepth 100000 in
theorem equal_stat (x : Nat → Int) (a b : Nat) (ha : a ≤ W2) (hb : b ≤ W2) (W : World) : (Op.equalIn 10000 29 (.agg #[.int .u64 (x 0), .int .u64 (x 1), .int .u64 (x 2), .int .u64 (x 3), .int .u64 (x 4), .int .u64 (x 5), .int .u64 (x 6), .int .u64 (x 7), .int .u64 (x 8), .int .u64 (x 9), .complex .f64 a b]) (.agg #[.int .u64 (x 0), .int .u64 (x 1), .int .u64 (x 2), .int .u64 (x 3), .int .u64 (x 4), .int .u64 (x 5), .int .u64 (x 6), .int .u64 (x 7), .int .u64 (x 8), .int .u64 (x 9), .complex .f64 a b])).run Tryd.prog W = .ok true W := by
  have hc := fun d => run_equalIn_complex d 27 .f64 a b (by kernel_rfl) (order_self a ha) (order_self b hb)
  go_simp
theorem eql_stat (x : Nat → Int) (a b : Nat) (ha : a ≤ W2) (hb : b ≤ W2) (W : World) : (binOp .eql 29 (.agg #[.int .u64 (x 0), .int .u64 (x 1), .int .u64 (x 2), .int .u64 (x 3), .int .u64 (x 4), .int .u64 (x 5), .int .u64 (x 6), .int .u64 (x 7), .int .u64 (x 8), .int .u64 (x 9), .complex .f64 a b]) (.agg #[.int .u64 (x 0), .int .u64 (x 1), .int .u64 (x 2), .int .u64 (x 3), .int .u64 (x 4), .int .u64 (x 5), .int .u64 (x 6), .int .u64 (x 7), .int .u64 (x 8), .int .u64 (x 9), .complex .f64 a b])).run Tryd.prog W = .ok (.bool true) W := by
  rw [run_eql_struct, equal_stat x a b ha hb]; rfl
theorem neq_stat (x : Nat → Int) (a b : Nat) (ha : a ≤ W2) (hb : b ≤ W2) (W : World) : (binOp .neq 29 (.agg #[.int .u64 (x 0), .int .u64 (x 1), .int .u64 (x 2), .int .u64 (x 3), .int .u64 (x 4), .int .u64 (x 5), .int .u64 (x 6), .int .u64 (x 7), .int .u64 (x 8), .int .u64 (x 9), .complex .f64 a b]) (.agg #[.int .u64 (x 0), .int .u64 (x 1), .int .u64 (x 2), .int .u64 (x 3), .int .u64 (x 4), .int .u64 (x 5), .int .u64 (x 6), .int .u64 (x 7), .int .u64 (x 8), .int .u64 (x 9), .complex .f64 a b])).run Tryd.prog W = .ok (.bool false) W := by
  rw [run_neq_struct, equal_stat x a b ha hb]; rfl
end Go.Proofs.YthohoendjipleaaDoor
