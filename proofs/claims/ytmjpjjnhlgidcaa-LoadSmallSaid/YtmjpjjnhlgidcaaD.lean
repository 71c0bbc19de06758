/-
  Layer 15: what else is compared of one load. Conditions: the words are those of numbers from 0 to 2.
-/
import Derived.Test.YtmjpjjnhlgidcaaC
namespace Go.Proofs.Ytmjpjjnhlgidcaa
open Go.RowKit Go.Sort
set_option linter.unusedSimpArgs false
set_option linter.unusedVariables false

theorem part_is (a : Nat) (ha : a ≤ W2) (w : World) : Calls Try.prog 30 #[.float .f64 a] w fun e w' => e = .returned (.bool true) ∧ Later w w' := by
  rcases ord_zero a ha with h1 | h1 <;> rcases ord_two a ha with h2 | h2 <;> clear ha
  all_goals
    go_enter Try.func30, Try.ntmps30
    go_wp2
    go_ret
    exact ⟨rfl, by repeat (first | exact Later.refl _ | assumption | apply Later.alloc | apply Later.drew | apply Later.drewN | refine Later.trans ?_ (by assumption))⟩
theorem refIs_is (a b : Nat) (ha : a ≤ W2) (hb : b ≤ W2) (w : World) : Calls Try.prog 17 #[.complex .f64 a b] w fun e w' => e = .returned (.bool true) ∧ Later w w' := by
  go_enter Try.func17, Try.ntmps17
  go_wp2_with fail
  refine (part_is a ha _).mono ?_
  rintro e w1 ⟨rfl, hl1⟩
  go_wp2_with fail
  refine (part_is b hb _).mono ?_
  rintro e w2 ⟨rfl, hl2⟩
  go_wp2_with fail
  go_ret
  exact ⟨rfl, hl1.trans hl2⟩
/-- the deeds that read; that write -/
def rdB (d : Int) : Bool := decide (d = 1 ∨ d = 5 ∨ d = 6)
def wrB (d : Int) : Bool := decide (d = 2 ∨ d = 3 ∨ d = 4)
theorem addR_B (d : Int) : addR d = if rdB d then W1 else 0 := by
  unfold addR rdB
  by_cases h : d = 1 ∨ d = 5 ∨ d = 6
  · rw [if_pos h]; simp [h]
  · rw [if_neg h]; simp [h]
theorem addI_B (d : Int) : addI d = if wrB d then W1 else 0 := by
  unfold addI wrB
  by_cases h : d = 2 ∨ d = 3 ∨ d = 4
  · rw [if_pos h]; simp [h]
  · rw [if_neg h]; simp [h]
theorem reads_is (d : Int) (w : World) : Calls Try.prog 19 #[.int .i64 d] w fun e w' => e = .returned (.bool (rdB d)) ∧ Later w w' := by
  have h1 : FloatKind.f64.format.order W1 0 = some .gt := by kernel_rfl
  have h2 : FloatKind.f64.format.order 0 0 = some .eq := by kernel_rfl
  have hB := addR_B d
  have HA := Lib.hid (fun w => adds_is d w)
  obtain ⟨q, hq⟩ : ∃ q, addI d = q := ⟨_, rfl⟩
  rw [hB, hq] at HA
  clear hq hB
  cases hr : rdB d
  all_goals
    rw [hr] at HA
    clear hr
    simp only [if_true, Bool.false_eq_true, if_false] at HA
    go_enter Try.func19, Try.ntmps19
    go_wp2_with fail
    refine (HA.out _).mono ?_
    rintro e w1 ⟨rfl, hl1⟩
    go_wp2_with fail
    go_ret
    exact ⟨rfl, hl1⟩
theorem writes_is (d : Int) (w : World) : Calls Try.prog 21 #[.int .i64 d] w fun e w' => e = .returned (.bool (wrB d)) ∧ Later w w' := by
  have h1 : FloatKind.f64.format.order W1 0 = some .gt := by kernel_rfl
  have h2 : FloatKind.f64.format.order 0 0 = some .eq := by kernel_rfl
  have hB := addI_B d
  have HA := Lib.hid (fun w => adds_is d w)
  obtain ⟨q, hq⟩ : ∃ q, addR d = q := ⟨_, rfl⟩
  rw [hB, hq] at HA
  clear hq hB
  cases hr : wrB d
  all_goals
    rw [hr] at HA
    clear hr
    simp only [if_true, Bool.false_eq_true, if_false] at HA
    go_enter Try.func21, Try.ntmps21
    go_wp2_with fail
    refine (HA.out _).mono ?_
    rintro e w1 ⟨rfl, hl1⟩
    go_wp2_with fail
    go_ret
    exact ⟨rfl, hl1⟩
theorem refReads_is (d : Int) (w : World) : Calls Try.prog 20 #[.int .i64 d] w fun e w' => e = .returned (.bool (rdB d)) ∧ Later w w' := by
  have hr : rdB d = (d == 1 || d == 5 || d == 6) := by
    unfold rdB
    by_cases h1 : d = 1 <;> by_cases h2 : d = 5 <;> by_cases h3 : d = 6 <;> simp [h1, h2, h3]
  rw [hr]
  cases h1 : (d == 1) <;> cases h2 : (d == 5) <;> cases h3 : (d == 6)
  all_goals
    have h1' := h1
    have h2' := h2
    have h3' := h3
    clear hr
    go_enter Try.func20, Try.ntmps20
    go_wp2_with fail
    go_ret
    exact ⟨rfl, by repeat (first | exact Later.refl _ | assumption | apply Later.alloc | apply Later.drew | apply Later.drewN | refine Later.trans ?_ (by assumption))⟩
theorem refWrites_is (d : Int) (w : World) : Calls Try.prog 22 #[.int .i64 d] w fun e w' => e = .returned (.bool (wrB d)) ∧ Later w w' := by
  have hr : wrB d = (d == 2 || d == 3 || d == 4) := by
    unfold wrB
    by_cases h1 : d = 2 <;> by_cases h2 : d = 3 <;> by_cases h3 : d = 4 <;> simp [h1, h2, h3]
  rw [hr]
  cases h1 : (d == 2) <;> cases h2 : (d == 3) <;> cases h3 : (d == 4)
  all_goals
    clear hr
    go_enter Try.func22, Try.ntmps22
    go_wp2_with fail
    go_ret
    exact ⟨rfl, by repeat (first | exact Later.refl _ | assumption | apply Later.alloc | apply Later.drew | apply Later.drewN | refine Later.trans ?_ (by assumption))⟩
/-- which part is greater -/
def wgN (a b : Nat) : Int := if a = b then 0 else if b < a then 1 else 2
theorem weigh_is (a b : Nat) (ha : a ≤ W2) (hb : b ≤ W2) (w : World) : Calls Try.prog 12 #[.complex .f64 a b] w fun e w' => e = .returned (.int .i64 (wgN a b)) ∧ Later w w' := by
  have ho := ord_pos a b ha hb
  unfold wgN
  rcases Nat.lt_trichotomy a b with h | h | h
  · rw [Nat.compare_eq_lt.2 h] at ho
    rw [if_neg (by omega), if_neg (by omega)]
    go_enter Try.func12, Try.ntmps12
    go_wp2_with fail
    refine (parts_is a b _).mono ?_
    rintro e w1 ⟨rfl, rfl⟩
    go_wp2_with fail
    refine (Is_is a b ha hb _).mono ?_
    rintro e w1 ⟨rfl, rfl⟩
    go_wp2_with fail
    go_ret
    exact ⟨rfl, by repeat (first | exact Later.refl _ | assumption | apply Later.alloc | apply Later.drew | apply Later.drewN | refine Later.trans ?_ (by assumption))⟩
  · subst h
    rw [show compare a a = Ordering.eq by simp] at ho
    rw [if_pos rfl]
    go_enter Try.func12, Try.ntmps12
    go_wp2_with fail
    refine (parts_is a a _).mono ?_
    rintro e w1 ⟨rfl, rfl⟩
    go_wp2_with fail
    refine (Is_is a a ha hb _).mono ?_
    rintro e w1 ⟨rfl, rfl⟩
    go_wp2_with fail
    go_ret
    exact ⟨rfl, by repeat (first | exact Later.refl _ | assumption | apply Later.alloc | apply Later.drew | apply Later.drewN | refine Later.trans ?_ (by assumption))⟩
  · rw [Nat.compare_eq_gt.2 h] at ho
    rw [if_neg (by omega), if_pos h]
    go_enter Try.func12, Try.ntmps12
    go_wp2_with fail
    refine (parts_is a b _).mono ?_
    rintro e w1 ⟨rfl, rfl⟩
    go_wp2_with fail
    refine (Is_is a b ha hb _).mono ?_
    rintro e w1 ⟨rfl, rfl⟩
    go_wp2_with fail
    go_ret
    exact ⟨rfl, by repeat (first | exact Later.refl _ | assumption | apply Later.alloc | apply Later.drew | apply Later.drewN | refine Later.trans ?_ (by assumption))⟩
theorem refWeigh_is (a b : Nat) (ha : a ≤ W2) (hb : b ≤ W2) (w : World) : Calls Try.prog 18 #[.complex .f64 a b] w fun e w' => e = .returned (.int .i64 (wgN a b)) ∧ Later w w' := by
  have ho := ord_pos a b ha hb
  unfold wgN
  rcases Nat.lt_trichotomy a b with h | h | h
  · rw [Nat.compare_eq_lt.2 h] at ho
    rw [if_neg (by omega), if_neg (by omega)]
    go_enter Try.func18, Try.ntmps18
    go_wp2_with fail
    refine (refIs_is a b ha hb _).mono ?_
    rintro e w1 ⟨rfl, hl⟩
    go_wp2_with fail
    go_ret
    exact ⟨rfl, hl⟩
  · subst h
    rw [show compare a a = Ordering.eq by simp] at ho
    rw [if_pos rfl]
    go_enter Try.func18, Try.ntmps18
    go_wp2_with fail
    refine (refIs_is a a ha hb _).mono ?_
    rintro e w1 ⟨rfl, hl⟩
    go_wp2_with fail
    go_ret
    exact ⟨rfl, hl⟩
  · rw [Nat.compare_eq_gt.2 h] at ho
    rw [if_neg (by omega), if_pos h]
    go_enter Try.func18, Try.ntmps18
    go_wp2_with fail
    refine (refIs_is a b ha hb _).mono ?_
    rintro e w1 ⟨rfl, hl⟩
    go_wp2_with fail
    go_ret
    exact ⟨rfl, hl⟩
theorem refNext_is (a b : Nat) (d : Int) (ha : a ≤ W2) (hb : b ≤ W2) (w : World) : Calls Try.prog 15 #[.complex .f64 a b, .int .i64 d] w fun e w' => e = .returned (.tuple #[.complex .f64 (nextR a d) (nextI b d), .bool true]) ∧ Later w w' := by
  have e1 : nextR a d = nxW a (if rdB d then W1 else 0) := by unfold nextR; rw [addR_B]
  have e2 : nextI b d = nxW b (if wrB d then W1 else 0) := by unfold nextI; rw [addI_B]
  have N1 := Lib.hid (fun w => refnext_is a ha (rdB d) w)
  have N2 := Lib.hid (fun w => refnext_is b hb (wrB d) w)
  rw [← e1] at N1
  rw [← e2] at N2
  have R1 := Lib.hid (fun w => refReads_is d w)
  have R2 := Lib.hid (fun w => refWrites_is d w)
  clear e1 e2
  generalize nextR a d = p at *
  generalize nextI b d = q at *
  generalize rdB d = r at *
  generalize wrB d = s at *
  go_enter Try.func15, Try.ntmps15
  go_wp2_with fail
  refine (refIs_is a b ha hb _).mono ?_
  rintro e w1 ⟨rfl, hl1⟩
  go_wp2_with fail
  refine (R1.out _).mono ?_
  rintro e w2 ⟨rfl, hl2⟩
  go_wp2_with fail
  refine (N1.out _).mono ?_
  rintro e w3 ⟨rfl, hl3⟩
  go_wp2_with fail
  refine (R2.out _).mono ?_
  rintro e w4 ⟨rfl, hl4⟩
  go_wp2_with fail
  refine (N2.out _).mono ?_
  rintro e w5 ⟨rfl, hl5⟩
  have hl := hl1.trans (hl2.trans (hl3.trans (hl4.trans hl5)))
  clear hl1 hl2 hl3 hl4 hl5
  go_wp2_with fail
  go_ret2
  exact ⟨rfl, hl⟩
end Go.Proofs.Ytmjpjjnhlgidcaa
