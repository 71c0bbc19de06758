/-
  Layer 15: zero with a sign is a part like zero; a number that is no part. Conditions: none.
-/
import Derived.Test.YtmjpjjnhlgidcaaJ
namespace Go.Proofs.Ytmjpjjnhlgidcaa
open Go.RowKit Go.Sort
set_option linter.unusedSimpArgs false
set_option linter.unusedVariables false

/-- a word of a part, and the word without the sign of zero -/
def Val (a x : Nat) : Prop := (a = x ∧ x ≤ W2) ∨ (a = 9223372036854775808 ∧ x = 0)
theorem Val.le {a x : Nat} (h : Val a x) : x ≤ W2 := by
  rcases h with ⟨_, h⟩ | ⟨_, rfl⟩
  · exact h
  · omega
theorem Val.of {a : Nat} (h : a ≤ W2) : Val a a := .inl ⟨rfl, h⟩
theorem val_zero {a x : Nat} (h : Val a x) : FloatKind.f64.format.order a 0 = some .gt ∨ FloatKind.f64.format.order a 0 = some .eq := by
  rcases h with ⟨rfl, h⟩ | ⟨rfl, rfl⟩
  · exact ord_zero a h
  · exact .inr (by kernel_rfl)
theorem val_to2 {a x : Nat} (h : Val a x) : FloatKind.f64.format.order a 4611686018427387904 = some .lt ∨ FloatKind.f64.format.order a 4611686018427387904 = some .eq := by
  rcases h with ⟨rfl, h⟩ | ⟨rfl, rfl⟩
  · exact ord_two a h
  · exact .inl (by kernel_rfl)
theorem key_val {a x : Nat} (h : Val a x) : rgW a < 9218868437227405312 ∧ keyW a = keyW x := by
  rcases h with ⟨rfl, h⟩ | ⟨rfl, rfl⟩
  · exact ⟨by have := rg_small a h; omega, rfl⟩
  · exact ⟨by decide, by kernel_rfl⟩
theorem key_word {x : Nat} (h : x ≤ W2) : keyW x = (valW x : Int) := key_pos x (by unfold W2 at h; omega)
theorem val_ord {a b x y : Nat} (ha : Val a x) (hb : Val b y) : FloatKind.f64.format.order a b = some (compare x y) := by
  rw [← ord_pos x y ha.le hb.le]
  have h1 := key_val ha
  have h2 := key_val hb
  have h3 := key_val (Val.of ha.le)
  have h4 := key_val (Val.of hb.le)
  have e1 : FloatKind.f64.format.order a b = some (compare (keyW a) (keyW b)) := order_any a b h1.1 h2.1
  have e2 : FloatKind.f64.format.order x y = some (compare (keyW x) (keyW y)) := order_any x y h3.1 h4.1
  rw [e1, e2, h1.2, h2.2]
/-- a word of no part -/
def Bad (a : Nat) : Prop := FloatKind.f64.format.order a 0 = none ∨ FloatKind.f64.format.order a 0 = some .lt ∨ (FloatKind.f64.format.order a 0 = some .gt ∧ FloatKind.f64.format.order a 4611686018427387904 = some .gt)
theorem may_val {a x : Nat} (h : Val a x) (w : World) : Calls Try.prog 26 #[.float .f64 a] w fun e w' => e = .returned (.bool true) ∧ w = w' := by
  rcases val_zero h with h1 | h1 <;> rcases val_to2 h with h2 | h2 <;> clear h
  all_goals
    go_enter Try.func26, Try.ntmps26
    go_wp2
    go_ret
    exact ⟨rfl, rfl⟩
theorem may_bad {a : Nat} (h : Bad a) (w : World) : Calls Try.prog 26 #[.float .f64 a] w fun e w' => e = .returned (.bool false) ∧ w = w' := by
  rcases h with h1 | h1 | ⟨h1, h2⟩
  all_goals
    go_enter Try.func26, Try.ntmps26
    go_wp2
    go_ret
    exact ⟨rfl, rfl⟩
theorem part_val {a x : Nat} (h : Val a x) (w : World) : Calls Try.prog 30 #[.float .f64 a] w fun e w' => e = .returned (.bool true) ∧ Later w w' := by
  rcases val_zero h with h1 | h1 <;> rcases val_to2 h with h2 | h2 <;> clear h
  all_goals
    go_enter Try.func30, Try.ntmps30
    go_wp2
    go_ret
    exact ⟨rfl, by repeat (first | exact Later.refl _ | assumption | apply Later.alloc | apply Later.drew | apply Later.drewN | refine Later.trans ?_ (by assumption))⟩
theorem part_bad {a : Nat} (h : Bad a) (w : World) : Calls Try.prog 30 #[.float .f64 a] w fun e w' => e = .returned (.bool false) ∧ Later w w' := by
  rcases h with h1 | h1 | ⟨h1, h2⟩
  all_goals
    go_enter Try.func30, Try.ntmps30
    go_wp2
    go_ret
    exact ⟨rfl, by repeat (first | exact Later.refl _ | assumption | apply Later.alloc | apply Later.drew | apply Later.drewN | refine Later.trans ?_ (by assumption))⟩
/-- whether two words are a load's -/
def Both (a b : Nat) (r : Bool) : Prop := (r = true ∧ (∃ x, Val a x) ∧ ∃ y, Val b y) ∨ (r = false ∧ Bad a) ∨ (r = false ∧ (∃ x, Val a x) ∧ Bad b)
theorem is_both {a b : Nat} {r : Bool} (h : Both a b r) (w : World) : Calls Try.prog 13 #[.complex .f64 a b] w fun e w' => e = .returned (.bool r) ∧ w = w' := by
  rcases h with ⟨rfl, ⟨x, ha⟩, ⟨y, hb⟩⟩ | ⟨rfl, ha⟩ | ⟨rfl, ⟨x, ha⟩, hb⟩
  · go_enter Try.func13, Try.ntmps13
    go_wp2_with fail
    refine (parts_is a b _).mono ?_
    rintro e w1 ⟨rfl, rfl⟩
    go_wp2_with fail
    refine (may_val ha _).mono ?_
    rintro e w2 ⟨rfl, rfl⟩
    go_wp2_with fail
    refine (may_val hb _).mono ?_
    rintro e w3 ⟨rfl, rfl⟩
    go_wp2_with fail
    go_ret
    exact ⟨rfl, rfl⟩
  · go_enter Try.func13, Try.ntmps13
    go_wp2_with fail
    refine (parts_is a b _).mono ?_
    rintro e w1 ⟨rfl, rfl⟩
    go_wp2_with fail
    refine (may_bad ha _).mono ?_
    rintro e w2 ⟨rfl, rfl⟩
    go_wp2_with fail
    go_ret
    exact ⟨rfl, rfl⟩
  · go_enter Try.func13, Try.ntmps13
    go_wp2_with fail
    refine (parts_is a b _).mono ?_
    rintro e w1 ⟨rfl, rfl⟩
    go_wp2_with fail
    refine (may_val ha _).mono ?_
    rintro e w2 ⟨rfl, rfl⟩
    go_wp2_with fail
    refine (may_bad hb _).mono ?_
    rintro e w3 ⟨rfl, rfl⟩
    go_wp2_with fail
    go_ret
    exact ⟨rfl, rfl⟩
theorem Is_both {a b : Nat} {r : Bool} (h : Both a b r) (w : World) : Calls Try.prog 16 #[.complex .f64 a b] w fun e w' => e = .returned (.bool r) ∧ w = w' := by
  have HI := Lib.hid (fun w => is_both h w)
  clear h
  go_enter Try.func16, Try.ntmps16
  go_wp2_with fail
  refine (HI.out _).mono ?_
  rintro e w3 ⟨rfl, rfl⟩
  go_wp2_with fail
  go_ret
  exact ⟨rfl, rfl⟩
theorem refIs_both {a b : Nat} {r : Bool} (h : Both a b r) (w : World) : Calls Try.prog 17 #[.complex .f64 a b] w fun e w' => e = .returned (.bool r) ∧ Later w w' := by
  rcases h with ⟨rfl, ⟨x, ha⟩, ⟨y, hb⟩⟩ | ⟨rfl, ha⟩ | ⟨rfl, ⟨x, ha⟩, hb⟩
  · go_enter Try.func17, Try.ntmps17
    go_wp2_with fail
    refine (part_val ha _).mono ?_
    rintro e w2 ⟨rfl, hl1⟩
    go_wp2_with fail
    refine (part_val hb _).mono ?_
    rintro e w3 ⟨rfl, hl2⟩
    go_wp2_with fail
    go_ret
    exact ⟨rfl, hl1.trans hl2⟩
  · go_enter Try.func17, Try.ntmps17
    go_wp2_with fail
    refine (part_bad ha _).mono ?_
    rintro e w2 ⟨rfl, hl1⟩
    go_wp2_with fail
    go_ret
    exact ⟨rfl, hl1⟩
  · go_enter Try.func17, Try.ntmps17
    go_wp2_with fail
    refine (part_val ha _).mono ?_
    rintro e w2 ⟨rfl, hl1⟩
    go_wp2_with fail
    refine (part_bad hb _).mono ?_
    rintro e w3 ⟨rfl, hl2⟩
    go_wp2_with fail
    go_ret
    exact ⟨rfl, hl1.trans hl2⟩
end Go.Proofs.Ytmjpjjnhlgidcaa
