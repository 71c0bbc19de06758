/-
  The walks of the small functions of vword and of its reference: each function's result at a word, and that memory has at most grown. Conditions: the word is a 64-bit number.
-/
import Derived.Test.YtllcppdgamagoaaDoorChecked
import Derived.WalkKit
import Derived.WalkLawsBesides
import Derived.WalkSpells
import Derived.ProofKit
import Derived.Laws.BitsAllLaws
import Derived.Lib.Hide
namespace Go.Proofs.YtllcppdgamagoaaDoor
open Go.RowKit

/-- w' is w with at most new blocks and draws. -/
def Later (w w' : World) : Prop := Below w.heap.size w w'
theorem Later.refl (w : World) : Later w w := Below.refl _ _
theorem Later.trans {a b c : World} (h : Later a b) (k : Later b c) : Later a c := Below.trans h (Below.mono k h.size)
theorem Later.alloc {a b : World} (h : Later a b) (o : Obj) : Later a (b.alloc o) := Below.alloc h h.size o
theorem Later.drew {a b : World} (h : Later a b) : Later a b.drew := Below.drew h
theorem Later.drewN {a b : World} (h : Later a b) (n : Nat) : Later a (b.drewN n) := h.trans ⟨rfl, rfl, rfl, Nat.le_refl _, fun _ _ => rfl⟩
theorem Later.setCell {a b : World} (h : Later a b) (p : Addr) (u : Value) (hp : a.heap.size ≤ p.block) : Later a (b.setCell p u) := Below.setCell h hp u

theorem Later.size {a b : World} (h : Later a b) : a.heap.size ≤ b.heap.size := Below.size h
theorem Later.reads {W w1 : World} (hb : Later W w1) : (∀ b o, b < W.heap.size → w1.cell? ⟨b, o, none⟩ = W.cell? ⟨b, o, none⟩) ∧ (∀ b o, b < W.heap.size → w1.frozen? ⟨b, o, none⟩ = W.frozen? ⟨b, o, none⟩) ∧ W.heap.size ≤ w1.heap.size :=
  ⟨fun b o h => Below.cell (p := ⟨b, o, none⟩) hb h, fun b o h => Below.frozen (p := ⟨b, o, none⟩) hb h, Below.size hb⟩

/-! ### plain facts on bits -/
theorem and1 (a : Int) (h0 : 0 ≤ a) (h1 : a ≤ 18446744073709551615) : bits .and .u64 a 1 = a % 2 := and_one_u64 a h0 h1
theorem and2 (a : Int) (h0 : 0 ≤ a) (h1 : a ≤ 18446744073709551615) : bits .and .u64 a 2 = a / 2 % 2 * 2 := by
  rw [u64_and a 2 h0 (by omega) (by omega) (by omega)]
  have h := nat_bit 1 a.toNat
  rw [show (2 : Nat) ^ 1 = 2 from rfl] at h
  rw [show (2 : Int).toNat = 2 from rfl, h]
  omega
theorem bit0 (a : Int) (r : Bool) (h0 : 0 ≤ a) (h1 : a ≤ 18446744073709551615) (hr : decide (a % 2 = 1) = r) : (bits .and .u64 a 1 != 0) = r := by
  rw [and1 a h0 h1, ← hr]
  by_cases h : a % 2 = 1
  · simp [h]
  · have : a % 2 = 0 := by omega
    simp [this]
theorem bit1 (a : Int) (r : Bool) (h0 : 0 ≤ a) (h1 : a ≤ 18446744073709551615) (hr : decide (a / 2 % 2 = 1) = r) : (bits .and .u64 a 2 != 0) = r := by
  rw [and2 a h0 h1, ← hr]
  by_cases h : a / 2 % 2 = 1
  · simp [h]
  · have : a / 2 % 2 = 0 := by omega
    simp [this]
theorem or1 (a : Int) (h0 : 0 ≤ a) (h1 : a ≤ 18446744073709551615) (h : a % 2 = 0) : bits .or .u64 a 1 = a + 1 := by
  rw [u64_or a 1 h0 (by omega) (by omega) (by omega), show (1 : Int).toNat = 1 from rfl, nat_join 1 a.toNat 1 (by omega) (by omega)]
  omega
theorem or2 (a : Int) (h0 : 0 ≤ a) (h1 : a ≤ 18446744073709551615) (h : a % 4 = 0) : bits .or .u64 a 2 = a + 2 := by
  rw [u64_or a 2 h0 (by omega) (by omega) (by omega), show (2 : Int).toNat = 2 from rfl, nat_join 2 a.toNat 2 (by omega) (by omega)]
  omega
theorem or2' (a : Int) (h0 : 0 ≤ a) (h1 : a ≤ 18446744073709551615) (h : a / 2 % 2 = 0) : bits .or .u64 a 2 = a + 2 := by
  rw [u64_or a 2 h0 (by omega) (by omega) (by omega), show (2 : Int).toNat = 2 from rfl]
  have e : a.toNat ||| 2 = a.toNat + 2 := by
    by_cases h2 : a % 2 = 0
    · exact nat_join 2 a.toNat 2 (by omega) (by omega)
    · obtain ⟨b, hb⟩ : ∃ b, a.toNat = b + 1 := ⟨a.toNat - 1, by omega⟩
      have e1 : b ||| 1 = b + 1 := nat_join 1 b 1 (by omega) (by omega)
      rw [hb, ← e1, Nat.or_assoc, show (1 : Nat) ||| 2 = 3 from rfl, nat_join 2 b 3 (by omega) (by omega), e1]
  rw [e]
  omega
theorem andNot1 (a : Int) (h0 : 0 ≤ a) (h1 : a ≤ 18446744073709551615) (h : a % 2 = 1) : bits .andNot .u64 a 1 = a - 1 := by
  rw [u64_andNot a 1 h0 (by omega) (by omega) (by omega), show (1 : Int).toNat = 1 from rfl, show (18446744073709551615 - 1 : Nat) = 18446744073709551614 from rfl]
  obtain ⟨b, hb⟩ : ∃ b, a.toNat = 2 * b + 1 := ⟨a.toNat / 2, by omega⟩
  have e : (2 * b + 1) &&& 18446744073709551614 = 2 * b := by
    apply Nat.eq_of_testBit_eq
    intro i
    have hbl : 2 * b < 2 ^ 64 := by omega
    rcases i with _ | i
    · simp [Nat.testBit_zero]
    · rw [Nat.testBit_and, show (18446744073709551614 : Nat) = 2 * 9223372036854775807 from rfl, Nat.testBit_succ, Nat.testBit_succ, Nat.testBit_succ]
      rw [show (2 * b + 1) / 2 = b by omega, show 2 * 9223372036854775807 / 2 = 9223372036854775807 from rfl, show 2 * b / 2 = b by omega]
      rw [show (9223372036854775807 : Nat) = 2 ^ 63 - 1 from rfl, Nat.testBit_two_pow_sub_one]
      by_cases hi : i < 63
      · simp [hi]
      · have : b.testBit i = false := Nat.testBit_lt_two_pow (Nat.lt_of_lt_of_le (show b < 2 ^ 63 by omega) (Nat.pow_le_pow_right (by omega) (by omega)))
        simp [this]
  rw [hb, e]
  omega

/-! ### the program's -/
theorem of_any (a : Int) (w : World) : Calls Tryd.prog 24 #[.int .u64 a] w fun e w' => e = .returned (.agg #[.int .u64 a]) ∧ Later w w' := by
  go_enter Tryd.func24, Tryd.ntmps24
  go_wp2
  exact bodyPost_ret (v := .agg #[.int .u64 a]) (by simp [results, Tryd.results24, go_sem]) rfl ⟨rfl, (Later.refl _).alloc _⟩

theorem fld42 (a : Int) (w : World) : (Instr.field 42 (.agg #[.int .u64 a]) 0).run Tryd.prog w = .ok (.agg #[.int .u64 a]) w := by kernel_rfl
theorem locked_is (a : Int) (r : Bool) (hr : (bits .and .u64 a 1 != 0) = r) (w : World) : Calls Tryd.prog 30 #[.agg #[.int .u64 a]] w fun e w' => e = .returned (.bool r) ∧ Later w w' := by
  go_enter Tryd.func30, Tryd.ntmps30
  go_wp2
  go_ret
  exact ⟨rfl, by repeat (first | exact Later.refl _ | assumption | apply Later.alloc | apply Later.drew | refine Later.trans ?_ (by assumption))⟩
theorem dead_is (a : Int) (r : Bool) (hr : (bits .and .u64 a 2 != 0) = r) (w : World) : Calls Tryd.prog 31 #[.agg #[.int .u64 a]] w fun e w' => e = .returned (.bool r) ∧ Later w w' := by
  go_enter Tryd.func31, Tryd.ntmps31
  go_wp2
  go_ret
  exact ⟨rfl, by repeat (first | exact Later.refl _ | assumption | apply Later.alloc | apply Later.drew | refine Later.trans ?_ (by assumption))⟩
theorem free_is (a : Int) (r : Bool) (w : World) (h0 : 0 ≤ a) (h1 : a ≤ 18446744073709551615) (hr : decide (a % 4 = 0) = r) : Calls Tryd.prog 26 #[.agg #[.int .u64 a]] w fun e w' => e = .returned (.bool r) ∧ Later w w' := by
  by_cases c0 : a % 2 = 1
  · have hp := bit0 a true h0 h1 (by simp; omega)
    obtain rfl : r = false := by rw [← hr]; simp; omega
    clear hr
    go_enter Tryd.func26, Tryd.ntmps26
    go_wp2
    go_ret
    exact ⟨rfl, by repeat (first | exact Later.refl _ | assumption | apply Later.alloc | apply Later.drew | refine Later.trans ?_ (by assumption))⟩
  · have hp := bit0 a false h0 h1 (by simp; omega)
    have hq := bit1 a (!r) h0 h1 (by rw [← hr, ← decide_not]; apply decide_eq_decide.2; omega)
    clear hr
    go_enter Tryd.func26, Tryd.ntmps26
    go_wp2
    go_ret
    exact ⟨by simp, by repeat (first | exact Later.refl _ | assumption | apply Later.alloc | apply Later.drew | refine Later.trans ?_ (by assumption))⟩
theorem Locked_is (a : Int) (r : Bool) (w : World) (h0 : 0 ≤ a) (h1 : a ≤ 18446744073709551615) (hr : decide (a % 2 = 1) = r) :
    Calls Tryd.prog 12 #[.int .u64 a] w fun e w' => e = .returned (.bool r) ∧ Later w w' := by
  have hp := bit0 a r h0 h1 hr
  have hf := fld42 a
  clear hr
  go_enter Tryd.func12, Tryd.ntmps12
  go_wp2_with (first | (go_at_call 24; refine (of_any _ _).mono ?_; rintro e w' ⟨rfl, hb⟩) | (go_at_call 30; refine (locked_is _ _ hp _).mono ?_; rintro e w' ⟨rfl, hb⟩))
  go_ret
  exact ⟨rfl, by repeat (first | exact Later.refl _ | assumption | apply Later.alloc | apply Later.drew | refine Later.trans ?_ (by assumption))⟩
theorem Dead_is (a : Int) (r : Bool) (w : World) (h0 : 0 ≤ a) (h1 : a ≤ 18446744073709551615) (hr : decide (a / 2 % 2 = 1) = r) :
    Calls Tryd.prog 13 #[.int .u64 a] w fun e w' => e = .returned (.bool r) ∧ Later w w' := by
  have hp := bit1 a r h0 h1 hr
  have hf := fld42 a
  clear hr
  go_enter Tryd.func13, Tryd.ntmps13
  go_wp2_with (first | (go_at_call 24; refine (of_any _ _).mono ?_; rintro e w' ⟨rfl, hb⟩) | (go_at_call 31; refine (dead_is _ _ hp _).mono ?_; rintro e w' ⟨rfl, hb⟩))
  go_ret
  exact ⟨rfl, by repeat (first | exact Later.refl _ | assumption | apply Later.alloc | apply Later.drew | refine Later.trans ?_ (by assumption))⟩
theorem Free_is (a : Int) (r : Bool) (w : World) (h0 : 0 ≤ a) (h1 : a ≤ 18446744073709551615) (hr : decide (a % 4 = 0) = r) :
    Calls Tryd.prog 10 #[.int .u64 a] w fun e w' => e = .returned (.bool r) ∧ Later w w' := by
  have HR := Lib.hid hr
  have hf := fld42 a
  clear hr
  go_enter Tryd.func10, Tryd.ntmps10
  go_wp2_with (first | (go_at_call 24; refine (of_any _ _).mono ?_; rintro e w' ⟨rfl, hb⟩) | (go_at_call 26; refine (free_is _ _ _ h0 h1 HR.out).mono ?_; rintro e w' ⟨rfl, hb⟩))
  go_ret
  exact ⟨rfl, by repeat (first | exact Later.refl _ | assumption | apply Later.alloc | apply Later.drew | refine Later.trans ?_ (by assumption))⟩
theorem Version_any (a : Int) (w : World) (h0 : 0 ≤ a) (h1 : a ≤ 18446744073709551615) :
    Calls Tryd.prog 16 #[.int .u64 a] w fun e w' => e = .returned (.int .u64 (a / 4)) ∧ Later w w' := by
  go_enter Tryd.func16, Tryd.ntmps16
  go_wp2
  go_ret
  exact ⟨rfl, Later.refl _⟩

theorem turnLock_yes (a : Int) (w : World) (h0 : 0 ≤ a) (h1 : a ≤ 18446744073709551615) (h : a % 4 = 0) :
    Calls Tryd.prog 25 #[.agg #[.int .u64 a], .func (.func 26) #[.agg #[.int .u64 a]] #[], .func (.func 27) #[] #[]] w fun e w' => e = .returned (.tuple #[.int .u64 (a + 1), .bool true]) ∧ Later w w' := by
  have hp := bit0 a false h0 h1 (by simp; omega)
  have hq := bit1 a false h0 h1 (by simp; omega)
  have ho := or1 a h0 h1 (by omega)
  clear h
  go_enter Tryd.func25, Tryd.ntmps25
  go_wp2
  go_ret2
  exact ⟨rfl, by repeat (first | exact Later.refl _ | assumption | apply Later.alloc | apply Later.drew | refine Later.trans ?_ (by assumption))⟩
theorem Lock_yes (a : Int) (w : World) (h0 : 0 ≤ a) (h1 : a ≤ 18446744073709551615) (h : a % 4 = 0) :
    Calls Tryd.prog 9 #[.int .u64 a] w fun e w' => e = .returned (.tuple #[.int .u64 (a + 1), .bool true]) ∧ Later w w' := by
  have H := Lib.hid h
  clear h
  skip
  skip
  skip
  skip
  go_enter Tryd.func9, Tryd.ntmps9
  go_wp2_with (first | (go_at_call 24; refine (of_any _ _).mono ?_; rintro e w' ⟨rfl, hb⟩) | (go_at_call 25; refine (turnLock_yes _ _ h0 h1 H.out).mono ?_; rintro e w' ⟨rfl, hb⟩))
  go_ret2
  exact ⟨rfl, by repeat (first | exact Later.refl _ | assumption | apply Later.alloc | apply Later.drew | refine Later.trans ?_ (by assumption))⟩
theorem turnLock_no (a : Int) (w : World) (h0 : 0 ≤ a) (h1 : a ≤ 18446744073709551615) (h : ¬ a % 4 = 0) :
    Calls Tryd.prog 25 #[.agg #[.int .u64 a], .func (.func 26) #[.agg #[.int .u64 a]] #[], .func (.func 27) #[] #[]] w fun e w' => e = .returned (.tuple #[.int .u64 a, .bool false]) ∧ Later w w' := by
  by_cases c0 : a % 2 = 1
  · have hp := bit0 a true h0 h1 (by simp; omega)
    clear h c0
    go_enter Tryd.func25, Tryd.ntmps25
    go_wp2
    go_ret2
    exact ⟨rfl, by repeat (first | exact Later.refl _ | assumption | apply Later.alloc | apply Later.drew | refine Later.trans ?_ (by assumption))⟩
  · have hp := bit0 a false h0 h1 (by simp; omega)
    have hq := bit1 a true h0 h1 (by simp; omega)
    clear h c0
    go_enter Tryd.func25, Tryd.ntmps25
    go_wp2
    go_ret2
    exact ⟨rfl, by repeat (first | exact Later.refl _ | assumption | apply Later.alloc | apply Later.drew | refine Later.trans ?_ (by assumption))⟩
theorem Lock_no (a : Int) (w : World) (h0 : 0 ≤ a) (h1 : a ≤ 18446744073709551615) (h : ¬ a % 4 = 0) :
    Calls Tryd.prog 9 #[.int .u64 a] w fun e w' => e = .returned (.tuple #[.int .u64 a, .bool false]) ∧ Later w w' := by
  have H := Lib.hid h
  clear h
  go_enter Tryd.func9, Tryd.ntmps9
  go_wp2_with (first | (go_at_call 24; refine (of_any _ _).mono ?_; rintro e w' ⟨rfl, hb⟩) | (go_at_call 25; refine (turnLock_no _ _ h0 h1 H.out).mono ?_; rintro e w' ⟨rfl, hb⟩))
  go_ret2
  exact ⟨rfl, by repeat (first | exact Later.refl _ | assumption | apply Later.alloc | apply Later.drew | refine Later.trans ?_ (by assumption))⟩

theorem turnDrop_yes (a : Int) (w : World) (h0 : 0 ≤ a) (h1 : a ≤ 18446744073709551615) (h : a % 4 = 1) :
    Calls Tryd.prog 25 #[.agg #[.int .u64 a], .func (.func 28) #[.agg #[.int .u64 a]] #[], .func (.func 32) #[] #[]] w fun e w' => e = .returned (.tuple #[.int .u64 (a - 1), .bool true]) ∧ Later w w' := by
  have hp := bit0 a true h0 h1 (by simp; omega)
  have hq := bit1 a false h0 h1 (by simp; omega)
  have ho := andNot1 a h0 h1 (by omega)
  clear h
  go_enter Tryd.func25, Tryd.ntmps25
  go_wp2
  go_ret2
  exact ⟨rfl, by repeat (first | exact Later.refl _ | assumption | apply Later.alloc | apply Later.drew | refine Later.trans ?_ (by assumption))⟩
theorem Drop_yes (a : Int) (w : World) (h0 : 0 ≤ a) (h1 : a ≤ 18446744073709551615) (h : a % 4 = 1) :
    Calls Tryd.prog 14 #[.int .u64 a] w fun e w' => e = .returned (.tuple #[.int .u64 (a - 1), .bool true]) ∧ Later w w' := by
  have H := Lib.hid h
  clear h
  skip
  skip
  skip
  skip
  go_enter Tryd.func14, Tryd.ntmps14
  go_wp2_with (first | (go_at_call 24; refine (of_any _ _).mono ?_; rintro e w' ⟨rfl, hb⟩) | (go_at_call 25; refine (turnDrop_yes _ _ h0 h1 H.out).mono ?_; rintro e w' ⟨rfl, hb⟩))
  go_ret2
  exact ⟨rfl, by repeat (first | exact Later.refl _ | assumption | apply Later.alloc | apply Later.drew | refine Later.trans ?_ (by assumption))⟩
theorem turnDrop_no (a : Int) (w : World) (h0 : 0 ≤ a) (h1 : a ≤ 18446744073709551615) (h : ¬ a % 4 = 1) :
    Calls Tryd.prog 25 #[.agg #[.int .u64 a], .func (.func 28) #[.agg #[.int .u64 a]] #[], .func (.func 32) #[] #[]] w fun e w' => e = .returned (.tuple #[.int .u64 a, .bool false]) ∧ Later w w' := by
  by_cases c0 : a % 2 = 0
  · have hp := bit0 a false h0 h1 (by simp; omega)
    clear h c0
    go_enter Tryd.func25, Tryd.ntmps25
    go_wp2
    go_ret2
    exact ⟨rfl, by repeat (first | exact Later.refl _ | assumption | apply Later.alloc | apply Later.drew | refine Later.trans ?_ (by assumption))⟩
  · have hp := bit0 a true h0 h1 (by simp; omega)
    have hq := bit1 a true h0 h1 (by simp; omega)
    clear h c0
    go_enter Tryd.func25, Tryd.ntmps25
    go_wp2
    go_ret2
    exact ⟨rfl, by repeat (first | exact Later.refl _ | assumption | apply Later.alloc | apply Later.drew | refine Later.trans ?_ (by assumption))⟩
theorem Drop_no (a : Int) (w : World) (h0 : 0 ≤ a) (h1 : a ≤ 18446744073709551615) (h : ¬ a % 4 = 1) :
    Calls Tryd.prog 14 #[.int .u64 a] w fun e w' => e = .returned (.tuple #[.int .u64 a, .bool false]) ∧ Later w w' := by
  have H := Lib.hid h
  clear h
  go_enter Tryd.func14, Tryd.ntmps14
  go_wp2_with (first | (go_at_call 24; refine (of_any _ _).mono ?_; rintro e w' ⟨rfl, hb⟩) | (go_at_call 25; refine (turnDrop_no _ _ h0 h1 H.out).mono ?_; rintro e w' ⟨rfl, hb⟩))
  go_ret2
  exact ⟨rfl, by repeat (first | exact Later.refl _ | assumption | apply Later.alloc | apply Later.drew | refine Later.trans ?_ (by assumption))⟩

theorem turnDone_yes (a : Int) (d : Int) (w : World) (h0 : 0 ≤ a) (h1 : a ≤ 18446744073709551615) (h : a % 4 = 1) (hd : IntKind.u64.wrap (a - 1 + 4) = d) :
    Calls Tryd.prog 25 #[.agg #[.int .u64 a], .func (.func 28) #[.agg #[.int .u64 a]] #[], .func (.func 29) #[] #[]] w fun e w' => e = .returned (.tuple #[.int .u64 (d), .bool true]) ∧ Later w w' := by
  have hp := bit0 a true h0 h1 (by simp; omega)
  have hq := bit1 a false h0 h1 (by simp; omega)
  have ho := andNot1 a h0 h1 (by omega)
  clear h
  go_enter Tryd.func25, Tryd.ntmps25
  go_wp2
  go_ret2
  exact ⟨rfl, by repeat (first | exact Later.refl _ | assumption | apply Later.alloc | apply Later.drew | refine Later.trans ?_ (by assumption))⟩
theorem Done_yes (a : Int) (d : Int) (w : World) (h0 : 0 ≤ a) (h1 : a ≤ 18446744073709551615) (h : a % 4 = 1) (hd : IntKind.u64.wrap (a - 1 + 4) = d) :
    Calls Tryd.prog 11 #[.int .u64 a] w fun e w' => e = .returned (.tuple #[.int .u64 (d), .bool true]) ∧ Later w w' := by
  have H := Lib.hid h
  clear h
  have HD := Lib.hid hd
  skip
  skip
  clear hd
  go_enter Tryd.func11, Tryd.ntmps11
  go_wp2_with (first | (go_at_call 24; refine (of_any _ _).mono ?_; rintro e w' ⟨rfl, hb⟩) | (go_at_call 25; refine (turnDone_yes _ _ _ h0 h1 H.out HD.out).mono ?_; rintro e w' ⟨rfl, hb⟩))
  go_ret2
  exact ⟨rfl, by repeat (first | exact Later.refl _ | assumption | apply Later.alloc | apply Later.drew | refine Later.trans ?_ (by assumption))⟩
theorem turnDone_no (a : Int) (w : World) (h0 : 0 ≤ a) (h1 : a ≤ 18446744073709551615) (h : ¬ a % 4 = 1) :
    Calls Tryd.prog 25 #[.agg #[.int .u64 a], .func (.func 28) #[.agg #[.int .u64 a]] #[], .func (.func 29) #[] #[]] w fun e w' => e = .returned (.tuple #[.int .u64 a, .bool false]) ∧ Later w w' := by
  by_cases c0 : a % 2 = 0
  · have hp := bit0 a false h0 h1 (by simp; omega)
    clear h c0
    go_enter Tryd.func25, Tryd.ntmps25
    go_wp2
    go_ret2
    exact ⟨rfl, by repeat (first | exact Later.refl _ | assumption | apply Later.alloc | apply Later.drew | refine Later.trans ?_ (by assumption))⟩
  · have hp := bit0 a true h0 h1 (by simp; omega)
    have hq := bit1 a true h0 h1 (by simp; omega)
    clear h c0
    go_enter Tryd.func25, Tryd.ntmps25
    go_wp2
    go_ret2
    exact ⟨rfl, by repeat (first | exact Later.refl _ | assumption | apply Later.alloc | apply Later.drew | refine Later.trans ?_ (by assumption))⟩
theorem Done_no (a : Int) (w : World) (h0 : 0 ≤ a) (h1 : a ≤ 18446744073709551615) (h : ¬ a % 4 = 1) :
    Calls Tryd.prog 11 #[.int .u64 a] w fun e w' => e = .returned (.tuple #[.int .u64 a, .bool false]) ∧ Later w w' := by
  have H := Lib.hid h
  clear h
  go_enter Tryd.func11, Tryd.ntmps11
  go_wp2_with (first | (go_at_call 24; refine (of_any _ _).mono ?_; rintro e w' ⟨rfl, hb⟩) | (go_at_call 25; refine (turnDone_no _ _ h0 h1 H.out).mono ?_; rintro e w' ⟨rfl, hb⟩))
  go_ret2
  exact ⟨rfl, by repeat (first | exact Later.refl _ | assumption | apply Later.alloc | apply Later.drew | refine Later.trans ?_ (by assumption))⟩

theorem turnKill_yes (a : Int) (d : Int) (w : World) (h0 : 0 ≤ a) (h1 : a ≤ 18446744073709551615) (h : a % 4 = 1) (hd : IntKind.u64.wrap (a - 1 + 4) = d) (hd0 : 0 ≤ d) (hd1 : d ≤ 18446744073709551615) (hd4 : d % 4 = 0) :
    Calls Tryd.prog 25 #[.agg #[.int .u64 a], .func (.func 28) #[.agg #[.int .u64 a]] #[], .func (.func 33) #[] #[]] w fun e w' => e = .returned (.tuple #[.int .u64 (d + 2), .bool true]) ∧ Later w w' := by
  have hp := bit0 a true h0 h1 (by simp; omega)
  have hq := bit1 a false h0 h1 (by simp; omega)
  have ho := andNot1 a h0 h1 (by omega)
  have h2 := or2 d hd0 hd1 hd4
  clear h
  go_enter Tryd.func25, Tryd.ntmps25
  go_wp2
  go_ret2
  exact ⟨rfl, by repeat (first | exact Later.refl _ | assumption | apply Later.alloc | apply Later.drew | refine Later.trans ?_ (by assumption))⟩
theorem Kill_yes (a : Int) (d : Int) (w : World) (h0 : 0 ≤ a) (h1 : a ≤ 18446744073709551615) (h : a % 4 = 1) (hd : IntKind.u64.wrap (a - 1 + 4) = d) (hd0 : 0 ≤ d) (hd1 : d ≤ 18446744073709551615) (hd4 : d % 4 = 0) :
    Calls Tryd.prog 15 #[.int .u64 a] w fun e w' => e = .returned (.tuple #[.int .u64 (d + 2), .bool true]) ∧ Later w w' := by
  have H := Lib.hid h
  clear h
  have HD := Lib.hid hd
  have HD4 := Lib.hid hd4
  clear hd4
  clear hd
  go_enter Tryd.func15, Tryd.ntmps15
  go_wp2_with (first | (go_at_call 24; refine (of_any _ _).mono ?_; rintro e w' ⟨rfl, hb⟩) | (go_at_call 25; refine (turnKill_yes _ _ _ h0 h1 H.out HD.out hd0 hd1 HD4.out).mono ?_; rintro e w' ⟨rfl, hb⟩))
  go_ret2
  exact ⟨rfl, by repeat (first | exact Later.refl _ | assumption | apply Later.alloc | apply Later.drew | refine Later.trans ?_ (by assumption))⟩
theorem turnKill_no (a : Int) (w : World) (h0 : 0 ≤ a) (h1 : a ≤ 18446744073709551615) (h : ¬ a % 4 = 1) :
    Calls Tryd.prog 25 #[.agg #[.int .u64 a], .func (.func 28) #[.agg #[.int .u64 a]] #[], .func (.func 33) #[] #[]] w fun e w' => e = .returned (.tuple #[.int .u64 a, .bool false]) ∧ Later w w' := by
  by_cases c0 : a % 2 = 0
  · have hp := bit0 a false h0 h1 (by simp; omega)
    clear h c0
    go_enter Tryd.func25, Tryd.ntmps25
    go_wp2
    go_ret2
    exact ⟨rfl, by repeat (first | exact Later.refl _ | assumption | apply Later.alloc | apply Later.drew | refine Later.trans ?_ (by assumption))⟩
  · have hp := bit0 a true h0 h1 (by simp; omega)
    have hq := bit1 a true h0 h1 (by simp; omega)
    clear h c0
    go_enter Tryd.func25, Tryd.ntmps25
    go_wp2
    go_ret2
    exact ⟨rfl, by repeat (first | exact Later.refl _ | assumption | apply Later.alloc | apply Later.drew | refine Later.trans ?_ (by assumption))⟩
theorem Kill_no (a : Int) (w : World) (h0 : 0 ≤ a) (h1 : a ≤ 18446744073709551615) (h : ¬ a % 4 = 1) :
    Calls Tryd.prog 15 #[.int .u64 a] w fun e w' => e = .returned (.tuple #[.int .u64 a, .bool false]) ∧ Later w w' := by
  have H := Lib.hid h
  clear h
  go_enter Tryd.func15, Tryd.ntmps15
  go_wp2_with (first | (go_at_call 24; refine (of_any _ _).mono ?_; rintro e w' ⟨rfl, hb⟩) | (go_at_call 25; refine (turnKill_no _ _ h0 h1 H.out).mono ?_; rintro e w' ⟨rfl, hb⟩))
  go_ret2
  exact ⟨rfl, by repeat (first | exact Later.refl _ | assumption | apply Later.alloc | apply Later.drew | refine Later.trans ?_ (by assumption))⟩

end Go.Proofs.YtllcppdgamagoaaDoor
