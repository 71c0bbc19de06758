/-
  Stats compared: the law's Same at two equal Stats; a Stat equals itself. Conditions: the load's parts are from 0 to 2.
-/
import Derived.Test.YthohoendjipleaaGreatDoorSp
import Derived.BigRegion
namespace Go.Proofs.YthohoendjipleaaGreatDoor
open Go.RowKit Go.Sort
set_option linter.unusedSimpArgs false
set_option linter.unusedVariables false

theorem order_self (a : Nat) (ha : a ≤ W2) : FloatKind.f64.format.order a a = some .eq := by
  have h := order_pos a a (by unfold W2 at ha; omega) (by unfold W2 at ha; omega)
  rw [show compare a a = Ordering.eq by simp] at h
  exact h
theorem run_equalIn_complex (d : Nat) (t : TypeId) (k : FloatKind) (a b : Nat) (h : (Tryz.prog.underlying t) = some (.complex k)) (ha : k.format.order a a = some .eq) (hb : k.format.order b b = some .eq) (w : World) :
    (Op.equalIn (d + 1) t (.complex k a b) (.complex k a b)).run Tryz.prog w = .ok true w := by
  simp [Op.equalIn, run_underlying h, Op.floatEq, Op.floatCmp, ha, hb]
set_option maxRecDepth 100000 in
theorem equal_stat (x : Nat → Int) (a b : Nat) (ha : a ≤ W2) (hb : b ≤ W2) (W : World) : (Op.equalIn 10000 27 (.agg #[.int .u64 (x 0), .int .u64 (x 1), .int .u64 (x 2), .int .u64 (x 3), .int .u64 (x 4), .int .u64 (x 5), .int .u64 (x 6), .int .u64 (x 7), .int .u64 (x 8), .int .u64 (x 9), .complex .f64 a b]) (.agg #[.int .u64 (x 0), .int .u64 (x 1), .int .u64 (x 2), .int .u64 (x 3), .int .u64 (x 4), .int .u64 (x 5), .int .u64 (x 6), .int .u64 (x 7), .int .u64 (x 8), .int .u64 (x 9), .complex .f64 a b])).run Tryz.prog W = .ok true W := by
  have hc := fun d => run_equalIn_complex d 25 .f64 a b (by kernel_rfl) (order_self a ha) (order_self b hb)
  go_simp
theorem eql_stat (x : Nat → Int) (a b : Nat) (ha : a ≤ W2) (hb : b ≤ W2) (W : World) : (binOp .eql 27 (.agg #[.int .u64 (x 0), .int .u64 (x 1), .int .u64 (x 2), .int .u64 (x 3), .int .u64 (x 4), .int .u64 (x 5), .int .u64 (x 6), .int .u64 (x 7), .int .u64 (x 8), .int .u64 (x 9), .complex .f64 a b]) (.agg #[.int .u64 (x 0), .int .u64 (x 1), .int .u64 (x 2), .int .u64 (x 3), .int .u64 (x 4), .int .u64 (x 5), .int .u64 (x 6), .int .u64 (x 7), .int .u64 (x 8), .int .u64 (x 9), .complex .f64 a b])).run Tryz.prog W = .ok (.bool true) W := by
  rw [run_eql_struct, equal_stat x a b ha hb]; rfl
theorem neq_stat (x : Nat → Int) (a b : Nat) (ha : a ≤ W2) (hb : b ≤ W2) (W : World) : (binOp .neq 27 (.agg #[.int .u64 (x 0), .int .u64 (x 1), .int .u64 (x 2), .int .u64 (x 3), .int .u64 (x 4), .int .u64 (x 5), .int .u64 (x 6), .int .u64 (x 7), .int .u64 (x 8), .int .u64 (x 9), .complex .f64 a b]) (.agg #[.int .u64 (x 0), .int .u64 (x 1), .int .u64 (x 2), .int .u64 (x 3), .int .u64 (x 4), .int .u64 (x 5), .int .u64 (x 6), .int .u64 (x 7), .int .u64 (x 8), .int .u64 (x 9), .complex .f64 a b])).run Tryz.prog W = .ok (.bool false) W := by
  rw [run_neq_struct, equal_stat x a b ha hb]; rfl
theorem same_is (a : Nat) (ha : a ≤ W2) (w : World) : Calls Tryz.prog 46 #[.float .f64 a, .float .f64 a] w fun e w' => e = .returned (.bool true) ∧ w = w' := by
  have h := order_self a ha
  clear ha
  go_enter Tryz.func46, Tryz.ntmps46
  go_wp2_with fail
  go_ret
  exact ⟨rfl, rfl⟩
set_option maxRecDepth 100000 in
set_option maxHeartbeats 4000000 in
theorem Same_is (x : Nat → Int) (a b : Nat) (ha : a ≤ W2) (hb : b ≤ W2) (w : World) : Calls Tryz.prog 16 #[statV x a b, statV x a b] w fun e w' => e = .returned (.bool true) ∧ Later w w' := by
  have he := eql_stat x 0 0 (by omega) (by omega)
  have HA := Lib.hid (same_is a ha)
  have HB := Lib.hid (same_is b hb)
  clear ha hb
  unfold statV
  go_enter Tryz.func16, Tryz.ntmps16
  go_wp2_with fail
  go_region
  have hst := run_store_complex Tryz.prog
  go_wp2_with fail
  refine (HA.out _).mono ?_
  rintro e w1 ⟨rfl, rfl⟩
  go_wp2_with fail
  refine (HB.out _).mono ?_
  rintro e w1 ⟨rfl, rfl⟩
  go_wp2_with fail
  go_ret
  refine ⟨rfl, ?_⟩
  repeat (first | exact Later.refl _ | apply Later.drew | apply Later.alloc | refine Later.setCell ?_ _ _ (by first | exact Nat.le_refl _ | exact Nat.le_succ _))
end Go.Proofs.YthohoendjipleaaGreatDoor
