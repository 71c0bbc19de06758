/-
  Package load: sum, Less. Conditions: the parts of the loads are from 0 to 2.
-/
import Derived.Test.YtmjpjjnhlgidcaaA
import Derived.Test.YtmjpjjnhlgidcaaFs
namespace Go.Proofs.Ytmjpjjnhlgidcaa
open Go.RowKit
set_option linter.unusedSimpArgs false

theorem maxF_run (ts : Array TypeId) (t : TypeId) (a b : Nat) (ha : a ≤ W2) (hb : b ≤ W2) (w : World) : (Builtin.max_ ts t #[.float .f64 a, .float .f64 b]).run Try.prog w = .ok (.float .f64 (max a b)) w := by
  have ho := ord_pos a b ha hb
  rcases Nat.lt_trichotomy a b with h | h | h
  · rw [Nat.compare_eq_lt.2 h] at ho
    rw [Nat.max_eq_right (by omega)]
    simp [Builtin.max_, Builtin.max2, ho]
  · subst h
    rw [show compare a a = Ordering.eq by simp] at ho
    rw [Nat.max_self]
    simp [Builtin.max_, Builtin.max2, ho]
  · rw [Nat.compare_eq_gt.2 h] at ho
    rw [Nat.max_eq_left (by omega)]
    simp [Builtin.max_, Builtin.max2, ho]
theorem minF_run (ts : Array TypeId) (t : TypeId) (a b : Nat) (ha : a ≤ W2) (hb : b ≤ W2) (w : World) : (Builtin.min_ ts t #[.float .f64 a, .float .f64 b]).run Try.prog w = .ok (.float .f64 (min a b)) w := by
  have ho := ord_pos a b ha hb
  rcases Nat.lt_trichotomy a b with h | h | h
  · rw [Nat.compare_eq_lt.2 h] at ho
    rw [Nat.min_eq_left (by omega)]
    simp [Builtin.min_, Builtin.min2, ho]
  · subst h
    rw [show compare a a = Ordering.eq by simp] at ho
    rw [Nat.min_self]
    simp [Builtin.min_, Builtin.min2, ho]
  · rw [Nat.compare_eq_gt.2 h] at ho
    rw [Nat.min_eq_right (by omega)]
    simp [Builtin.min_, Builtin.min2, ho]

/-- the rounded sum of a load's parts, and what it lacks -/
def smS (a b : Nat) : Nat := (Ieee.double.add (max a b) (min a b)).getD 0
def smD (a b : Nat) : Nat := (Ieee.double.sub (smS a b) (max a b)).getD 0
def smX (a b : Nat) : Nat := (Ieee.double.sub (min a b) (smD a b)).getD 0
theorem sm_fin (a b : Nat) (ha : a ≤ W2) (hb : b ≤ W2) :
    Ieee.double.add (max a b) (min a b) = some (smS a b) ∧ Ieee.double.sub (smS a b) (max a b) = some (smD a b) ∧ Ieee.double.sub (min a b) (smD a b) = some (smX a b) ∧ rgW (smS a b) < 9218868437227405312 ∧ rgW (smX a b) < 9218868437227405312 := by
  have h1 := rg_small (max a b) (by omega)
  have h2 := rg_small (min a b) (by omega)
  obtain ⟨s, hs, s1⟩ := add_fin (max a b) (min a b) 1024 h1 h2 (by omega) (by omega)
  have es : smS a b = s := by unfold smS; rw [hs]; rfl
  obtain ⟨d, hd, d1⟩ := sub_fin s (max a b) 1026 (by omega) (by omega) (by omega) (by omega)
  have ed : smD a b = d := by unfold smD; rw [es, hd]; rfl
  obtain ⟨x, hx, x1⟩ := sub_fin (min a b) d 1028 (by omega) (by omega) (by omega) (by omega)
  have ex : smX a b = x := by unfold smX; rw [ed, hx]; rfl
  rw [es, ed, ex]
  exact ⟨hs, hd, hx, by omega, by omega⟩
theorem sum_is (a b : Nat) (ha : a ≤ W2) (hb : b ≤ W2) (w : World) : Calls Try.prog 31 #[.complex .f64 a b] w fun e w' => e = .returned (.tuple #[.float .f64 (smS a b), .float .f64 (smX a b)]) ∧ w = w' := by
  obtain ⟨h1, h2, h3, _, _⟩ := sm_fin a b ha hb
  obtain ⟨s, hs⟩ : ∃ s, smS a b = s := ⟨_, rfl⟩
  obtain ⟨d, hd⟩ : ∃ d, smD a b = d := ⟨_, rfl⟩
  obtain ⟨x, hx⟩ : ∃ x, smX a b = x := ⟨_, rfl⟩
  rw [hs] at h1 h2
  rw [hd] at h2 h3
  rw [hx] at h3
  have m1 := fun ts t w => maxF_run ts t a b ha hb w
  have m2 := fun ts t w => minF_run ts t a b ha hb w
  have k1 : ∀ w : World, (binOp .add 35 (.float .f64 (max a b)) (.float .f64 (min a b))).run Try.prog w = .ok (.float .f64 s) w := fun w => run_float_arith w .add 35 .f64 _ _ _ h1
  have k2 : ∀ w : World, (binOp .sub 35 (.float .f64 s) (.float .f64 (max a b))).run Try.prog w = .ok (.float .f64 d) w := fun w => run_float_arith w .sub 35 .f64 _ _ _ h2
  have k3 : ∀ w : World, (binOp .sub 35 (.float .f64 (min a b)) (.float .f64 d)).run Try.prog w = .ok (.float .f64 x) w := fun w => run_float_arith w .sub 35 .f64 _ _ _ h3
  rw [hs, hx]
  clear h1 h2 h3 hs hd hx
  generalize max a b = M at *
  generalize min a b = m at *
  go_enter Try.func31, Try.ntmps31
  go_wp2_with fail
  refine (parts_is a b _).mono ?_
  rintro e w1 ⟨rfl, rfl⟩
  go_wp2_with fail
  go_ret2
  exact ⟨rfl, rfl⟩

/-- Less, as an order of keys -/
def lessO : Ordering → Ordering → Bool
  | .lt, _ => true
  | .eq, .lt => true
  | _, _ => false
def lessL (a b a' b' : Nat) : Bool := lessO (compare (keyW (smS a b)) (keyW (smS a' b'))) (compare (keyW (smX a b)) (keyW (smX a' b')))
set_option maxRecDepth 100000 in
theorem Less_is (a b a' b' : Nat) (ha : a ≤ W2) (hb : b ≤ W2) (ha' : a' ≤ W2) (hb' : b' ≤ W2) (w : World) : Calls Try.prog 23 #[.complex .f64 a b, .complex .f64 a' b'] w fun e w' => e = .returned (.bool (lessL a b a' b')) ∧ w = w' := by
  obtain ⟨_, _, _, f1, f2⟩ := sm_fin a b ha hb
  obtain ⟨_, _, _, f3, f4⟩ := sm_fin a' b' ha' hb'
  have o1 : FloatKind.f64.format.order (smS a b) (smS a' b') = some (compare (keyW (smS a b)) (keyW (smS a' b'))) := order_any _ _ f1 f3
  have o2 : FloatKind.f64.format.order (smX a b) (smX a' b') = some (compare (keyW (smX a b)) (keyW (smX a' b'))) := order_any _ _ f2 f4
  have c1 := fun w => sum_is a b ha hb w
  have c2 := fun w => sum_is a' b' ha' hb' w
  unfold lessL
  clear f1 f2 f3 f4
  generalize compare (keyW (smS a b)) (keyW (smS a' b')) = q1 at *
  generalize compare (keyW (smX a b)) (keyW (smX a' b')) = q2 at *
  generalize smS a b = s at *
  generalize smX a b = x at *
  generalize smS a' b' = t at *
  generalize smX a' b' = y at *
  have C1 := Lib.hid c1
  have C2 := Lib.hid c2
  clear c1 c2
  cases q1 <;> cases q2
  all_goals
    go_enter Try.func23, Try.ntmps23
    go_wp2_with fail
    refine (Is_is a b ha hb _).mono ?_
    rintro e w1 ⟨rfl, rfl⟩
    go_wp2_with fail
    refine (Is_is a' b' ha' hb' _).mono ?_
    rintro e w1 ⟨rfl, rfl⟩
    go_wp2_with fail
    refine (C1.out _).mono ?_
    rintro e w1 ⟨rfl, rfl⟩
    go_wp2_with fail
    refine (C2.out _).mono ?_
    rintro e w1 ⟨rfl, rfl⟩
    go_wp2_with fail
    go_ret
    exact ⟨rfl, rfl⟩
end Go.Proofs.Ytmjpjjnhlgidcaa
