/-
  Package stat: Is, at a load of any two words. Conditions: none.
-/
import Derived.Test.YthohoendjipleaaGreatDoorC
import Derived.Test.YthohoendjipleaaGreatDoorFw
namespace Go.Proofs.YthohoendjipleaaGreatDoor
open Go.RowKit
set_option linter.unusedSimpArgs false
set_option linter.unusedVariables false

theorem val_zero {a x : Nat} (h : Val a x) : FloatKind.f64.format.order a 0 = some .gt ∨ FloatKind.f64.format.order a 0 = some .eq := by
  rcases h with ⟨rfl, h⟩ | ⟨rfl, rfl⟩
  · exact ord_zero a h
  · exact .inr (by kernel_rfl)
theorem val_to2 {a x : Nat} (h : Val a x) : FloatKind.f64.format.order a 4611686018427387904 = some .lt ∨ FloatKind.f64.format.order a 4611686018427387904 = some .eq := by
  rcases h with ⟨rfl, h⟩ | ⟨rfl, rfl⟩
  · exact ord_two a h
  · exact .inl (by kernel_rfl)
theorem may_val {a x : Nat} (h : Val a x) (w : World) : Calls Tryz.prog 96 #[.float .f64 a] w fun e w' => e = .returned (.bool true) ∧ w = w' := by
  rcases val_zero h with h1 | h1 <;> rcases val_to2 h with h2 | h2 <;> clear h
  all_goals
    go_enter Tryz.func96, Tryz.ntmps96
    go_wp2
    go_ret
    exact ⟨rfl, rfl⟩
theorem may_bad {a : Nat} (h : Bad a) (w : World) : Calls Tryz.prog 96 #[.float .f64 a] w fun e w' => e = .returned (.bool false) ∧ w = w' := by
  have h : FloatKind.f64.format.order a 0 = none ∨ FloatKind.f64.format.order a 0 = some .lt ∨ (FloatKind.f64.format.order a 0 = some .gt ∧ FloatKind.f64.format.order a 4611686018427387904 = some .gt) := h
  rcases h with h1 | h1 | ⟨h1, h2⟩
  all_goals
    go_enter Tryz.func96, Tryz.ntmps96
    go_wp2
    go_ret
    exact ⟨rfl, rfl⟩
/-- whether two words are a load's -/
def Both (a b : Nat) (r : Bool) : Prop := (r = true ∧ (∃ x, Val a x) ∧ ∃ y, Val b y) ∨ (r = false ∧ Bad a) ∨ (r = false ∧ (∃ x, Val a x) ∧ Bad b)
theorem both_ex (a b : Nat) (ha : a < 18446744073709551616) (hb : b < 18446744073709551616) : ∃ r, Both a b r := by
  rcases val_or_bad a ha with h | h
  · rcases val_or_bad b hb with k | k
    · exact ⟨true, .inl ⟨rfl, h, k⟩⟩
    · exact ⟨false, .inr (.inr ⟨rfl, h, k⟩)⟩
  · exact ⟨false, .inr (.inl ⟨rfl, h⟩)⟩
theorem is_both {a b : Nat} {r : Bool} (h : Both a b r) (w : World) : Calls Tryz.prog 63 #[.complex .f64 a b] w fun e w' => e = .returned (.bool r) ∧ w = w' := by
  rcases h with ⟨rfl, ⟨x, ha⟩, ⟨y, hb⟩⟩ | ⟨rfl, ha⟩ | ⟨rfl, ⟨x, ha⟩, hb⟩
  · go_enter Tryz.func63, Tryz.ntmps63
    go_wp2_with fail
    refine (parts_is a b _).mono ?_
    rintro e w1 ⟨rfl, rfl⟩
    go_wp2_with fail
    refine (may_val ha _).mono ?_
    rintro e w2 ⟨rfl, rfl⟩
    go_wp2_with fail
    refine (may_val hb _).mono ?_
    rintro e w3 ⟨rfl, rfl⟩
    go_wp2_with fail
    go_ret
    exact ⟨rfl, rfl⟩
  · go_enter Tryz.func63, Tryz.ntmps63
    go_wp2_with fail
    refine (parts_is a b _).mono ?_
    rintro e w1 ⟨rfl, rfl⟩
    go_wp2_with fail
    refine (may_bad ha _).mono ?_
    rintro e w2 ⟨rfl, rfl⟩
    go_wp2_with fail
    go_ret
    exact ⟨rfl, rfl⟩
  · go_enter Tryz.func63, Tryz.ntmps63
    go_wp2_with fail
    refine (parts_is a b _).mono ?_
    rintro e w1 ⟨rfl, rfl⟩
    go_wp2_with fail
    refine (may_val ha _).mono ?_
    rintro e w2 ⟨rfl, rfl⟩
    go_wp2_with fail
    refine (may_bad hb _).mono ?_
    rintro e w3 ⟨rfl, rfl⟩
    go_wp2_with fail
    go_ret
    exact ⟨rfl, rfl⟩
theorem Is_both {a b : Nat} {r : Bool} (h : Both a b r) (w : World) : Calls Tryz.prog 40 #[.complex .f64 a b] w fun e w' => e = .returned (.bool r) ∧ w = w' := by
  have HI := Lib.hid (fun w => is_both h w)
  clear h
  go_enter Tryz.func40, Tryz.ntmps40
  go_wp2_with fail
  refine (HI.out _).mono ?_
  rintro e w3 ⟨rfl, rfl⟩
  go_wp2_with fail
  go_ret
  exact ⟨rfl, rfl⟩
theorem statIs_both (x0 x1 x2 x3 x4 x5 x6 x7 x8 x9 : Int) {a b : Nat} {r : Bool} (h : Both a b r) (w : World) :
    Calls Tryz.prog 14 #[.agg #[.int .u64 x0, .int .u64 x1, .int .u64 x2, .int .u64 x3, .int .u64 x4, .int .u64 x5, .int .u64 x6, .int .u64 x7, .int .u64 x8, .int .u64 x9, .complex .f64 a b]] w fun e w' => e = .returned (.bool r) ∧ Later w w' := by
  have HI := Lib.hid (fun w => Is_both h w)
  clear h
  go_enter Tryz.func14, Tryz.ntmps14
  go_wp2_with fail
  refine (HI.out _).mono ?_
  rintro e w1 ⟨rfl, rfl⟩
  go_wp2_with fail
  go_ret
  exact ⟨rfl, by repeat (first | exact Later.refl _ | assumption | apply Later.alloc | apply Later.drew | apply Later.drewN | refine Later.trans ?_ (by assumption))⟩
end Go.Proofs.YthohoendjipleaaGreatDoor
