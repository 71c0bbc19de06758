/-
  Layer 15: Next, Weigh and their references at any two words. Conditions: none.
-/
import Derived.Test.YtmjpjjnhlgidcaaN
namespace Go.Proofs.Ytmjpjjnhlgidcaa
open Go.RowKit Go.Sort
set_option linter.unusedSimpArgs false
set_option linter.unusedVariables false

theorem half_val {a x : Nat} (h : Val a x) : ∃ a', Ieee.double.div a W2 = some a' ∧ Ieee.double.add a' 0 = some (nxW x 0) ∧ Ieee.double.add a' W1 = some (nxW x W1) := by
  rcases h with ⟨rfl, h⟩ | ⟨rfl, rfl⟩
  · exact ⟨hvW a, (hvW_is a h).1, (nxW_is a 0 h (.inl rfl)).1, (nxW_is a W1 h (.inr rfl)).1⟩
  · exact ⟨9223372036854775808, by kernel_rfl, by kernel_rfl, by kernel_rfl⟩
theorem with_of (a b : Nat) (d : Int) (a' b' x y : Nat) (h1 : Ieee.double.div a W2 = some a') (h2 : Ieee.double.div b W2 = some b') (h3 : Ieee.double.add a' (addR d) = some x) (h4 : Ieee.double.add b' (addI d) = some y) (w : World) :
    Calls Try.prog 14 #[.agg #[.complex .f64 a b], .int .i64 d] w fun e w' => e = .returned (.complex .f64 x y) ∧ Later w w' := by
  have hs : ∀ w : World, (binOp .add 24 (.complex .f64 a' b') (.complex .f64 (addR d) (addI d))).run Try.prog w = .ok (.complex .f64 x y) w := fun w =>
    run_complex_sum w .add (.inl rfl) 24 .f64 _ _ _ _ _ _ (by
      unfold cSumBits
      rw [show floatBits .add .f64 a' (addR d) = some x from h3, show floatBits .add .f64 b' (addI d) = some y from h4]
      rfl)
  have H1 := Lib.hid h1
  have H2 := Lib.hid h2
  clear h1 h2 h3 h4
  go_enter Try.func14, Try.ntmps14
  go_wp2_with fail
  refine (half_is a b a' b' H1.out H2.out _).mono ?_
  rintro e w1 ⟨rfl, rfl⟩
  go_wp2_with fail
  refine (adds_is d _).mono ?_
  rintro e w2 ⟨rfl, hb2⟩
  go_wp2_with fail
  go_ret
  exact ⟨rfl, by repeat (first | exact Later.refl _ | assumption | apply Later.alloc | apply Later.drew | apply Later.drewN | refine Later.trans ?_ (by assumption))⟩
theorem with_val {a b x y : Nat} (ha : Val a x) (hb : Val b y) (d : Int) (w : World) : Calls Try.prog 14 #[.agg #[.complex .f64 a b], .int .i64 d] w fun e w' => e = .returned (.complex .f64 (nextR x d) (nextI y d)) ∧ Later w w' := by
  obtain ⟨a', h1, h2, h3⟩ := half_val ha
  obtain ⟨b', k1, k2, k3⟩ := half_val hb
  refine with_of a b d a' b' _ _ h1 k1 ?_ ?_ w
  · unfold nextR
    rcases addR_01 d with e | e <;> rw [e]
    · exact h2
    · exact h3
  · unfold nextI
    rcases addI_01 d with e | e <;> rw [e]
    · exact k2
    · exact k3
theorem Next_val {a b x y : Nat} (ha : Val a x) (hb : Val b y) (d : Int) (w : World) :
    Calls Try.prog 6 #[.complex .f64 a b, .int .i64 d] w fun e w' => e = .returned (.tuple #[.complex .f64 (nextR x d) (nextI y d), .bool true]) ∧ Later w w' := by
  have IS := Lib.hid (fun w => is_both (.inl ⟨rfl, ⟨x, ha⟩, ⟨y, hb⟩⟩) w)
  have WT := Lib.hid (fun w => with_val ha hb d w)
  clear ha hb
  have hst := run_store_complex Try.prog
  go_enter Try.func6, Try.ntmps6
  go_wp2_with fail
  refine (IS.out _).mono ?_
  rintro e w1 ⟨rfl, rfl⟩
  go_wp2_with fail
  refine (WT.out _).mono ?_
  rintro e w2 ⟨rfl, hb2⟩
  go_wp2_with fail
  go_ret2
  exact ⟨rfl, by repeat (first | exact Later.refl _ | assumption | apply Later.alloc | apply Later.drew | apply Later.drewN | refine Later.trans ?_ (by assumption))⟩
theorem Next_bad {a b : Nat} (h : Both a b false) (d : Int) (w : World) :
    Calls Try.prog 6 #[.complex .f64 a b, .int .i64 d] w fun e w' => e = .returned (.tuple #[.complex .f64 0 0, .bool false]) ∧ Later w w' := by
  have IS := Lib.hid (fun w => is_both h w)
  clear h
  have hst := run_store_complex Try.prog
  go_enter Try.func6, Try.ntmps6
  go_wp2_with fail
  refine (IS.out _).mono ?_
  rintro e w1 ⟨rfl, rfl⟩
  go_wp2_with fail
  go_ret2
  exact ⟨rfl, by repeat (first | exact Later.refl _ | assumption | apply Later.alloc | apply Later.drew | apply Later.drewN | refine Later.trans ?_ (by assumption))⟩
theorem whole_val {a x : Nat} (h : Val a x) (w : World) : Calls Try.prog 33 #[.float .f64 a] w fun e w' => e = .returned (.tuple #[.int .u64 (magW x : Nat), .int .i64 ((plcW x : Int) - 1074)]) ∧ w = w' := by
  rcases h with ⟨rfl, h⟩ | ⟨rfl, rfl⟩
  · exact whole_is a h w
  · have ho : FloatKind.f64.format.order 9223372036854775808 0 = some .eq := by kernel_rfl
    go_enter Try.func33, Try.ntmps33
    go_wp2_with fail
    go_ret2
    exact ⟨rfl, rfl⟩
theorem refNext_val {a b x y : Nat} (ha : Val a x) (hb : Val b y) (d : Int) (w : World) :
    Calls Try.prog 15 #[.complex .f64 a b, .int .i64 d] w fun e w' => e = .returned (.tuple #[.complex .f64 (nextR x d) (nextI y d), .bool true]) ∧ Later w w' := by
  have e1 : nextR x d = nxW x (if rdB d then W1 else 0) := by unfold nextR; rw [addR_B]
  have e2 : nextI y d = nxW y (if wrB d then W1 else 0) := by unfold nextI; rw [addI_B]
  have IS := Lib.hid (fun w => refIs_both (.inl ⟨rfl, ⟨x, ha⟩, ⟨y, hb⟩⟩) w)
  have N1 := Lib.hid (fun w => refnext_of a x ha.le (fun w => whole_val ha w) (rdB d) w)
  have N2 := Lib.hid (fun w => refnext_of b y hb.le (fun w => whole_val hb w) (wrB d) w)
  rw [← e1] at N1
  rw [← e2] at N2
  have R1 := Lib.hid (fun w => refReads_is d w)
  have R2 := Lib.hid (fun w => refWrites_is d w)
  clear e1 e2 ha hb
  generalize nextR x d = p at *
  generalize nextI y d = q at *
  generalize rdB d = r at *
  generalize wrB d = s at *
  go_enter Try.func15, Try.ntmps15
  go_wp2_with fail
  refine (IS.out _).mono ?_
  rintro e w1 ⟨rfl, hl1⟩
  go_wp2_with fail
  refine (R1.out _).mono ?_
  rintro e w2 ⟨rfl, hl2⟩
  go_wp2_with fail
  refine (N1.out _).mono ?_
  rintro e w3 ⟨rfl, hl3⟩
  go_wp2_with fail
  refine (R2.out _).mono ?_
  rintro e w4 ⟨rfl, hl4⟩
  go_wp2_with fail
  refine (N2.out _).mono ?_
  rintro e w5 ⟨rfl, hl5⟩
  have hl := hl1.trans (hl2.trans (hl3.trans (hl4.trans hl5)))
  clear hl1 hl2 hl3 hl4 hl5
  go_wp2_with fail
  go_ret2
  exact ⟨rfl, hl⟩
theorem refNext_bad {a b : Nat} (h : Both a b false) (d : Int) (w : World) :
    Calls Try.prog 15 #[.complex .f64 a b, .int .i64 d] w fun e w' => e = .returned (.tuple #[.complex .f64 0 0, .bool false]) ∧ Later w w' := by
  have IS := Lib.hid (fun w => refIs_both h w)
  clear h
  go_enter Try.func15, Try.ntmps15
  go_wp2_with fail
  refine (IS.out _).mono ?_
  rintro e w1 ⟨rfl, hl⟩
  go_wp2_with fail
  go_ret2
  exact ⟨rfl, hl⟩
theorem weigh_val {a b x y : Nat} (ha : Val a x) (hb : Val b y) (w : World) : Calls Try.prog 12 #[.complex .f64 a b] w fun e w' => e = .returned (.int .i64 (wgN x y)) ∧ Later w w' := by
  have ho := val_ord ha hb
  have IS := Lib.hid (fun w => Is_both (.inl ⟨rfl, ⟨x, ha⟩, ⟨y, hb⟩⟩) w)
  unfold wgN
  clear ha hb
  rcases Nat.lt_trichotomy x y with h | h | h
  · rw [Nat.compare_eq_lt.2 h] at ho
    rw [if_neg (by omega), if_neg (by omega)]
    go_enter Try.func12, Try.ntmps12
    go_wp2_with fail
    refine (parts_is a b _).mono ?_
    rintro e w1 ⟨rfl, rfl⟩
    go_wp2_with fail
    refine (IS.out _).mono ?_
    rintro e w2 ⟨rfl, rfl⟩
    go_wp2_with fail
    go_ret
    exact ⟨rfl, Later.refl _⟩
  · subst h
    rw [show compare x x = Ordering.eq by simp] at ho
    rw [if_pos rfl]
    go_enter Try.func12, Try.ntmps12
    go_wp2_with fail
    refine (parts_is a b _).mono ?_
    rintro e w1 ⟨rfl, rfl⟩
    go_wp2_with fail
    refine (IS.out _).mono ?_
    rintro e w2 ⟨rfl, rfl⟩
    go_wp2_with fail
    go_ret
    exact ⟨rfl, Later.refl _⟩
  · rw [Nat.compare_eq_gt.2 h] at ho
    rw [if_neg (by omega), if_pos h]
    go_enter Try.func12, Try.ntmps12
    go_wp2_with fail
    refine (parts_is a b _).mono ?_
    rintro e w1 ⟨rfl, rfl⟩
    go_wp2_with fail
    refine (IS.out _).mono ?_
    rintro e w2 ⟨rfl, rfl⟩
    go_wp2_with fail
    go_ret
    exact ⟨rfl, Later.refl _⟩
theorem weigh_bad {a b : Nat} (h : Both a b false) (w : World) : Calls Try.prog 12 #[.complex .f64 a b] w fun e w' => e = .returned (.int .i64 0) ∧ Later w w' := by
  have IS := Lib.hid (fun w => Is_both h w)
  clear h
  go_enter Try.func12, Try.ntmps12
  go_wp2_with fail
  refine (parts_is a b _).mono ?_
  rintro e w1 ⟨rfl, rfl⟩
  go_wp2_with fail
  refine (IS.out _).mono ?_
  rintro e w2 ⟨rfl, rfl⟩
  go_wp2_with fail
  go_ret
  exact ⟨rfl, Later.refl _⟩
theorem refWeigh_val {a b x y : Nat} (ha : Val a x) (hb : Val b y) (w : World) : Calls Try.prog 18 #[.complex .f64 a b] w fun e w' => e = .returned (.int .i64 (wgN x y)) ∧ Later w w' := by
  have ho := val_ord ha hb
  have IS := Lib.hid (fun w => refIs_both (.inl ⟨rfl, ⟨x, ha⟩, ⟨y, hb⟩⟩) w)
  unfold wgN
  clear ha hb
  rcases Nat.lt_trichotomy x y with h | h | h
  · rw [Nat.compare_eq_lt.2 h] at ho
    rw [if_neg (by omega), if_neg (by omega)]
    go_enter Try.func18, Try.ntmps18
    go_wp2_with fail
    refine (IS.out _).mono ?_
    rintro e w2 ⟨rfl, hl⟩
    go_wp2_with fail
    go_ret
    exact ⟨rfl, hl⟩
  · subst h
    rw [show compare x x = Ordering.eq by simp] at ho
    rw [if_pos rfl]
    go_enter Try.func18, Try.ntmps18
    go_wp2_with fail
    refine (IS.out _).mono ?_
    rintro e w2 ⟨rfl, hl⟩
    go_wp2_with fail
    go_ret
    exact ⟨rfl, hl⟩
  · rw [Nat.compare_eq_gt.2 h] at ho
    rw [if_neg (by omega), if_pos h]
    go_enter Try.func18, Try.ntmps18
    go_wp2_with fail
    refine (IS.out _).mono ?_
    rintro e w2 ⟨rfl, hl⟩
    go_wp2_with fail
    go_ret
    exact ⟨rfl, hl⟩
theorem refWeigh_bad {a b : Nat} (h : Both a b false) (w : World) : Calls Try.prog 18 #[.complex .f64 a b] w fun e w' => e = .returned (.int .i64 0) ∧ Later w w' := by
  have IS := Lib.hid (fun w => refIs_both h w)
  clear h
  go_enter Try.func18, Try.ntmps18
  go_wp2_with fail
  refine (IS.out _).mono ?_
  rintro e w2 ⟨rfl, hl⟩
  go_wp2_with fail
  go_ret
  exact ⟨rfl, hl⟩
theorem one_val {a b x y : Nat} (ha : Val a x) (hb : Val b y) (d : Int) (w : World) : Calls Try.prog 7 #[.complex .f64 a b, .int .i64 d] w fun e w' => e = .returned (.bool true) ∧ Later w w' :=
  one_of a b d _ _ _ _ _ (nextR_le x d ha.le) (nextI_le y d hb.le) (fun w => Next_val ha hb d w) (fun w => refNext_val ha hb d w) (fun w => Is_both (.inl ⟨rfl, ⟨x, ha⟩, ⟨y, hb⟩⟩) w) (fun w => refIs_both (.inl ⟨rfl, ⟨x, ha⟩, ⟨y, hb⟩⟩) w) (fun w => weigh_val ha hb w) (fun w => refWeigh_val ha hb w) w
theorem one_bad {a b : Nat} (h : Both a b false) (d : Int) (w : World) : Calls Try.prog 7 #[.complex .f64 a b, .int .i64 d] w fun e w' => e = .returned (.bool true) ∧ Later w w' :=
  one_of a b d _ _ _ _ _ (by decide) (by decide) (fun w => Next_bad h d w) (fun w => refNext_bad h d w) (fun w => Is_both h w) (fun w => refIs_both h w) (fun w => weigh_bad h w) (fun w => refWeigh_bad h w) w
end Go.Proofs.Ytmjpjjnhlgidcaa
