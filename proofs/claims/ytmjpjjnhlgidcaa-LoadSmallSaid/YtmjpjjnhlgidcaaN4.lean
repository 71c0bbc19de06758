/-
  Layer 15: Less and its reference at any two pairs of words; two. Conditions: none.
-/
import Derived.Test.YtmjpjjnhlgidcaaN3
namespace Go.Proofs.Ytmjpjjnhlgidcaa
open Go.RowKit Go.Sort
set_option linter.unusedSimpArgs false
set_option linter.unusedVariables false

set_option maxRecDepth 100000 in
theorem Less_of (a b a' b' s x t y : Nat) (f1 : rgW s < 9218868437227405312) (f2 : rgW x < 9218868437227405312) (f3 : rgW t < 9218868437227405312) (f4 : rgW y < 9218868437227405312)
    (i1 : ∀ w, Calls Try.prog 16 #[.complex .f64 a b] w fun e w' => e = .returned (.bool true) ∧ w = w') (i2 : ∀ w, Calls Try.prog 16 #[.complex .f64 a' b'] w fun e w' => e = .returned (.bool true) ∧ w = w')
    (c1 : ∀ w, Calls Try.prog 31 #[.complex .f64 a b] w fun e w' => e = .returned (.tuple #[.float .f64 s, .float .f64 x]) ∧ w = w') (c2 : ∀ w, Calls Try.prog 31 #[.complex .f64 a' b'] w fun e w' => e = .returned (.tuple #[.float .f64 t, .float .f64 y]) ∧ w = w') (w : World) :
    Calls Try.prog 23 #[.complex .f64 a b, .complex .f64 a' b'] w fun e w' => e = .returned (.bool (lessO (compare (keyW s) (keyW t)) (compare (keyW x) (keyW y)))) ∧ w = w' := by
  have o1 : FloatKind.f64.format.order s t = some (compare (keyW s) (keyW t)) := order_any _ _ f1 f3
  have o2 : FloatKind.f64.format.order x y = some (compare (keyW x) (keyW y)) := order_any _ _ f2 f4
  clear f1 f2 f3 f4
  generalize compare (keyW s) (keyW t) = q1 at *
  generalize compare (keyW x) (keyW y) = q2 at *
  have C1 := Lib.hid c1
  have C2 := Lib.hid c2
  have I1 := Lib.hid i1
  have I2 := Lib.hid i2
  clear c1 c2 i1 i2
  cases q1 <;> cases q2
  all_goals
    go_enter Try.func23, Try.ntmps23
    go_wp2_with fail
    refine (I1.out _).mono ?_
    rintro e w1 ⟨rfl, rfl⟩
    go_wp2_with fail
    refine (I2.out _).mono ?_
    rintro e w1 ⟨rfl, rfl⟩
    go_wp2_with fail
    refine (C1.out _).mono ?_
    rintro e w1 ⟨rfl, rfl⟩
    go_wp2_with fail
    refine (C2.out _).mono ?_
    rintro e w1 ⟨rfl, rfl⟩
    go_wp2_with fail
    go_ret
    exact ⟨rfl, rfl⟩
theorem Less_val {a b x y a' b' x' y' : Nat} (ha : Val a x) (hb : Val b y) (ha' : Val a' x') (hb' : Val b' y') (w : World) : Calls Try.prog 23 #[.complex .f64 a b, .complex .f64 a' b'] w fun e w' => e = .returned (.bool (decide (valW x + valW y < valW x' + valW y'))) ∧ w = w' := by
  obtain ⟨s, r, c1, f1, f2, k1, k2⟩ := sum_val ha hb
  obtain ⟨t, u, c2, f3, f4, k3, k4⟩ := sum_val ha' hb'
  have h := Less_of a b a' b' s r t u f1 f2 f3 f4 (fun w => Is_both (.inl ⟨rfl, ⟨x, ha⟩, ⟨y, hb⟩⟩) w) (fun w => Is_both (.inl ⟨rfl, ⟨x', ha'⟩, ⟨y', hb'⟩⟩) w) c1 c2 w
  rw [k1, k2, k3, k4, lessO_eq, decide_eq_decide.2 (sums_order _ _)] at h
  exact h
theorem Less_bad {a b a' b' : Nat} {p q : Bool} (h : Both a b p) (h' : Both a' b' q) (hpq : (p && q) = false) (w : World) : Calls Try.prog 23 #[.complex .f64 a b, .complex .f64 a' b'] w fun e w' => e = .returned (.bool false) ∧ w = w' := by
  have I1 := Lib.hid (fun w => Is_both h w)
  have I2 := Lib.hid (fun w => Is_both h' w)
  clear h h'
  cases p
  · clear hpq
    go_enter Try.func23, Try.ntmps23
    go_wp2_with fail
    refine (I1.out _).mono ?_
    rintro e w1 ⟨rfl, rfl⟩
    go_wp2_with fail
    go_ret
    exact ⟨rfl, rfl⟩
  · obtain rfl : q = false := by simpa using hpq
    clear hpq
    go_enter Try.func23, Try.ntmps23
    go_wp2_with fail
    refine (I1.out _).mono ?_
    rintro e w1 ⟨rfl, rfl⟩
    go_wp2_with fail
    refine (I2.out _).mono ?_
    rintro e w1 ⟨rfl, rfl⟩
    go_wp2_with fail
    go_ret
    exact ⟨rfl, rfl⟩
theorem refLess_val {a b x y a' b' x' y' : Nat} (ha : Val a x) (hb : Val b y) (ha' : Val a' x') (hb' : Val b' y') (w : World) : Calls Try.prog 24 #[.complex .f64 a b, .complex .f64 a' b'] w fun e w' => e = .returned (.bool (decide (valW x + valW y < valW x' + valW y'))) ∧ Later w w' :=
  refLess_of a b a' b' _ _ (fun w => refIs_both (.inl ⟨rfl, ⟨x, ha⟩, ⟨y, hb⟩⟩) w) (fun w => refIs_both (.inl ⟨rfl, ⟨x', ha'⟩, ⟨y', hb'⟩⟩) w)
    (fun w => sumRow_of a b _ _ (fun w => digits_of a x ha.le (fun w => whole_val ha w) w) (fun w => digits_of b y hb.le (fun w => whole_val hb w) w) w)
    (fun w => sumRow_of a' b' _ _ (fun w => digits_of a' x' ha'.le (fun w => whole_val ha' w) w) (fun w => digits_of b' y' hb'.le (fun w => whole_val hb' w) w) w)
    (by rw [sum_lt x y ha.le hb.le, sum_lt x' y' ha'.le hb'.le]) w
theorem refLess_bad {a b a' b' : Nat} {p q : Bool} (h : Both a b p) (h' : Both a' b' q) (hpq : (p && q) = false) (w : World) : Calls Try.prog 24 #[.complex .f64 a b, .complex .f64 a' b'] w fun e w' => e = .returned (.bool false) ∧ Later w w' := by
  have I1 := Lib.hid (fun w => refIs_both h w)
  have I2 := Lib.hid (fun w => refIs_both h' w)
  clear h h'
  cases p
  · clear hpq
    go_enter Try.func24, Try.ntmps24
    go_wp2_with fail
    refine (I1.out _).mono ?_
    rintro e w1 ⟨rfl, hl1⟩
    go_wp2_with fail
    go_ret
    exact ⟨rfl, hl1⟩
  · obtain rfl : q = false := by simpa using hpq
    clear hpq
    go_enter Try.func24, Try.ntmps24
    go_wp2_with fail
    refine (I1.out _).mono ?_
    rintro e w1 ⟨rfl, hl1⟩
    go_wp2_with fail
    refine (I2.out _).mono ?_
    rintro e w2 ⟨rfl, hl2⟩
    go_wp2_with fail
    go_ret
    exact ⟨rfl, hl1.trans hl2⟩
/-- a word is a part's or none's -/
def Word (a : Nat) : Prop := (∃ x, Val a x) ∨ Bad a
theorem both_of {a b : Nat} (ha : Word a) (hb : Word b) : ∃ r, Both a b r := by
  rcases ha with ha | ha
  · rcases hb with hb | hb
    · exact ⟨true, .inl ⟨rfl, ha, hb⟩⟩
    · exact ⟨false, .inr (.inr ⟨rfl, ha, hb⟩)⟩
  · exact ⟨false, .inr (.inl ⟨rfl, ha⟩)⟩
theorem both_true {a b : Nat} (h : Both a b true) : (∃ x, Val a x) ∧ ∃ y, Val b y := by
  rcases h with ⟨_, h⟩ | ⟨h, _⟩ | ⟨h, _⟩
  · exact h
  · cases h
  · cases h
theorem one_any {a b : Nat} (ha : Word a) (hb : Word b) (d : Int) (w : World) : Calls Try.prog 7 #[.complex .f64 a b, .int .i64 d] w fun e w' => e = .returned (.bool true) ∧ Later w w' := by
  obtain ⟨r, h⟩ := both_of ha hb
  cases r
  · exact one_bad h d w
  · obtain ⟨⟨x, hx⟩, ⟨y, hy⟩⟩ := both_true h
    exact one_val hx hy d w
theorem two_any {a b a' b' : Nat} (ha : Word a) (hb : Word b) (ha' : Word a') (hb' : Word b') (w : World) : Calls Try.prog 8 #[.complex .f64 a b, .complex .f64 a' b'] w fun e w' => e = .returned (.bool true) ∧ Later w w' := by
  obtain ⟨p, h⟩ := both_of ha hb
  obtain ⟨q, h'⟩ := both_of ha' hb'
  by_cases hpq : (p && q) = false
  · have hqp : (q && p) = false := by rw [Bool.and_comm]; exact hpq
    exact two_of a b a' b' false false (fun w => Less_bad h h' hpq w) (fun w => refLess_bad h h' hpq w) (fun w => Less_bad h' h hqp w) (fun w => refLess_bad h' h hqp w) w
  · obtain ⟨rfl, rfl⟩ : p = true ∧ q = true := by cases p <;> cases q <;> simp_all
    obtain ⟨⟨x, hx⟩, ⟨y, hy⟩⟩ := both_true h
    obtain ⟨⟨x', hx'⟩, ⟨y', hy'⟩⟩ := both_true h'
    exact two_of a b a' b' _ _ (fun w => Less_val hx hy hx' hy' w) (fun w => refLess_val hx hy hx' hy' w) (fun w => Less_val hx' hy' hx hy w) (fun w => refLess_val hx' hy' hx hy w) w
end Go.Proofs.Ytmjpjjnhlgidcaa
