/-
  The plain law of Join, whole; the greater one of two parts. Conditions: words; the parts of the loads are from 0 to 2.
-/
import Derived.Test.YthohoendjipleaaDoorJ
namespace Go.Proofs.YthohoendjipleaaDoor
open Go.RowKit
set_option linter.unusedSimpArgs false

theorem max_run (ts : Array TypeId) (t : TypeId) (a b : Nat) (ha : a ≤ W2) (hb : b ≤ W2) (w : World) : (Builtin.max_ ts t #[.float .f64 a, .float .f64 b]).run Tryd.prog w = .ok (.float .f64 (max a b)) w := by
  have ho := ord_pos a b ha hb
  rcases Nat.lt_trichotomy a b with h | h | h
  · rw [Nat.compare_eq_lt.2 h] at ho
    rw [Nat.max_eq_right (by omega)]
    simp [Builtin.max_, Builtin.max2, ho]
  · subst h
    rw [show compare a a = Ordering.eq by simp] at ho
    rw [Nat.max_self]
    simp [Builtin.max_, Builtin.max2, ho]
  · rw [Nat.compare_eq_gt.2 h] at ho
    rw [Nat.max_eq_left (by omega)]
    simp [Builtin.max_, Builtin.max2, ho]
theorem max_le2 {a b : Nat} (ha : a ≤ W2) (hb : b ≤ W2) : max a b ≤ W2 := by omega
theorem okX.jn {x z : Nat → Int} (hx : okX x) (hz : okX z) (k : Nat) : okX (jnX x z k) := fun j => by
  unfold jnX
  split
  · exact mo_in _ _ (hx j).1 (hz j).1
  · exact hx j
theorem statV_cg {x y : Nat → Int} {a b a' b' : Nat} (h : ∀ j, j < 10 → x j = y j) (ha : a = a') (hb : b = b') : statV x a b = statV y a' b' := by
  subst ha hb
  unfold statV
  rw [h 0 (by omega), h 1 (by omega), h 2 (by omega), h 3 (by omega), h 4 (by omega), h 5 (by omega), h 6 (by omega), h 7 (by omega), h 8 (by omega), h 9 (by omega)]
theorem jn_at (x z : Nat → Int) (j : Nat) (h : j < 10) : jnX x z 10 j = mo (x j) (z j) := by simp [jnX, h]
theorem join_comm (x z : Nat → Int) (hx : okX x) (hz : okX z) (a b a' b' : Nat) : statV (jnX z x 10) (max a' a) (max b' b) = statV (jnX x z 10) (max a a') (max b b') :=
  statV_cg (fun j hj => by rw [jn_at _ _ _ hj, jn_at _ _ _ hj, mo_comm _ _ (hz j) (hx j)]) (Nat.max_comm _ _) (Nat.max_comm _ _)
theorem join_assoc (x y z : Nat → Int) (hx : okX x) (hy : okX y) (hz : okX z) (a b a' b' a2 b2 : Nat) : statV (jnX x (jnX y z 10) 10) (max a (max a' a2)) (max b (max b' b2)) = statV (jnX (jnX x y 10) z 10) (max (max a a') a2) (max (max b b') b2) :=
  statV_cg (fun j hj => by rw [jn_at _ _ _ hj, jn_at _ _ _ hj, jn_at _ _ _ hj, jn_at _ _ _ hj, mo_assoc _ _ _ (hx j) (hy j) (hz j)]) (Nat.max_assoc _ _ _).symm (Nat.max_assoc _ _ _).symm
theorem join_zero (x : Nat → Int) (hx : okX x) (a b : Nat) : statV (jnX x (fun _ => 0) 10) (max a 0) (max b 0) = statV x a b :=
  statV_cg (fun j hj => by rw [jn_at _ _ _ hj, mo_zero _ (hx j)]) (Nat.max_zero _) (Nat.max_zero _)
theorem join_full (x y z : Nat → Int) (hx : okX x) (hz : okX z) (j : Nat) (hj : j < 10) (h : y j = 18446744073709551615) : jnX (jnX x y 10) z 10 j = 18446744073709551615 := by
  rw [jn_at _ _ _ hj, jn_at _ _ _ hj, h, mo_comm _ _ (hx j) (by omega), mo_full _ (hx j), mo_full _ (hz j)]
end Go.Proofs.YthohoendjipleaaDoor
