/-
  Allows and Within, the program's and the reference's. Conditions: the rights are a byte.
-/
import Derived.Test.YtpfnccjfmbecfaaDoorB
namespace Go.Proofs.YtpfnccjfmbecfaaDoor
open Go.RowKit

/-- the rights ra are among rb -/
def inR (ra rb : Int) : Bool := decide (ra % 2 ≤ rb % 2 ∧ ra / 2 % 2 ≤ rb / 2 % 2 ∧ ra / 4 % 2 ≤ rb / 4 % 2)
def allowsH (t g r d : Int) : Bool := okH t g r && (decide (0 < askR d) && decide (r / askR d % 2 = 1))
def withinH (t g r t' g' r' : Int) : Bool := okH t g r && (okH t' g' r' && (decide (t = t') && (decide (g = g') && inR r r')))

theorem seven (r : Int) (h : 1 ≤ r ∧ r ≤ 7) : r = 1 ∨ r = 2 ∨ r = 3 ∨ r = 4 ∨ r = 5 ∨ r = 6 ∨ r = 7 := by omega
theorem has_bit (r q : Int) (h : 1 ≤ r ∧ r ≤ 7) (hq : q = 1 ∨ q = 2 ∨ q = 4) : (bits .and .u8 r q == q) = decide (r / q % 2 = 1) := by
  rcases seven r h with rfl | rfl | rfl | rfl | rfl | rfl | rfl <;> rcases hq with rfl | rfl | rfl <;> rfl
theorem has_in (r q : Int) (h : 1 ≤ r ∧ r ≤ 7) (hq : 1 ≤ q ∧ q ≤ 7) : (bits .and .u8 r q == q) = inR q r := by
  rcases seven r h with rfl | rfl | rfl | rfl | rfl | rfl | rfl <;> rcases seven q hq with rfl | rfl | rfl | rfl | rfl | rfl | rfl <;> rfl
theorem askR_cases (d : Int) : askR d = 0 ∨ askR d = 1 ∨ askR d = 2 ∨ askR d = 4 := by
  unfold askR
  split <;> (try split) <;> (try split) <;> simp

theorem Allows_is (t g r d : Int) (b : Bool) (hb : allowsH t g r d = b) (w : World) : Calls Tryd.prog 17 #[.agg #[.int .i64 t, .int .u32 g, .int .u8 r], .int .i64 d] w fun e w' => e = .returned (.bool b) ∧ Later w w' := by
  obtain ⟨q, hq⟩ : ∃ q, askR d = q := ⟨_, rfl⟩
  obtain ⟨o, ho⟩ : ∃ o, okH t g r = o := ⟨_, rfl⟩
  have HQ := Lib.hid hq
  have HO := Lib.hid ho
  have hc := askR_cases d
  rw [hq] at hc
  by_cases c0 : q = 0
  · obtain rfl : b = false := by rw [← hb, allowsH, hq, c0]; simp
    subst c0
    clear hb hq ho hc
    go_enter Tryd.func17, Tryd.ntmps17
    go_wp2_with fail
    refine (Asks_is _ 0 false HQ.out (by simp) _).mono ?_
    rintro e w1 ⟨rfl, hb1⟩
    go_wp2_with fail
    go_ret
    exact ⟨rfl, by repeat (first | exact Later.refl _ | assumption | apply Later.alloc | apply Later.drew | refine Later.trans ?_ (by assumption))⟩
  have hc' : q = 1 ∨ q = 2 ∨ q = 4 := by omega
  cases o
  · obtain rfl : b = false := by rw [← hb, allowsH, ho]; simp
    have HP := Lib.hid (show decide (0 < q) = true by simp; omega)
    clear hb hq ho hc hc' c0
    go_enter Tryd.func17, Tryd.ntmps17
    go_wp2_with fail
    refine (Asks_is _ q true HQ.out HP.out _).mono ?_
    rintro e w1 ⟨rfl, hb1⟩
    have k0 := cell_at hb1 (p := ⟨w.heap.size, 0, none⟩) (v := .int .i64 t) (by go_cell) (by simp)
    have k1 := cell_at hb1 (p := ⟨w.heap.size, 1, none⟩) (v := .int .u32 g) (by go_cell) (by simp)
    have k2 := cell_at hb1 (p := ⟨w.heap.size, 2, none⟩) (v := .int .u8 r) (by go_cell) (by simp)
    go_wp2_with fail
    refine (Right_is _ _ _ _ HO.out _).mono ?_
    rintro e w2 ⟨rfl, hb2⟩
    go_wp2_with fail
    go_ret
    exact ⟨rfl, by repeat (first | exact Later.refl _ | assumption | apply Later.alloc | apply Later.drew | refine Later.trans ?_ (by assumption))⟩
  · have hr : 1 ≤ r ∧ r ≤ 7 := ((okH_iff t g r).1 ho).2.2
    have HB := Lib.hid (show (bits .and .u8 r q == q) = b by rw [has_bit r q hr hc', ← hb, allowsH, ho, hq]; simp; omega)
    have HP := Lib.hid (show decide (0 < q) = true by simp; omega)
    clear hb hq ho hc hc' c0 hr
    go_enter Tryd.func17, Tryd.ntmps17
    go_wp2_with fail
    refine (Asks_is _ q true HQ.out HP.out _).mono ?_
    rintro e w1 ⟨rfl, hb1⟩
    have k0 := cell_at hb1 (p := ⟨w.heap.size, 0, none⟩) (v := .int .i64 t) (by go_cell) (by simp)
    have k1 := cell_at hb1 (p := ⟨w.heap.size, 1, none⟩) (v := .int .u32 g) (by go_cell) (by simp)
    have k2 := cell_at hb1 (p := ⟨w.heap.size, 2, none⟩) (v := .int .u8 r) (by go_cell) (by simp)
    go_wp2_with fail
    refine (Right_is _ _ _ _ HO.out _).mono ?_
    rintro e w2 ⟨rfl, hb2⟩
    have j0 := cell_at hb2 k0 (Nat.lt_of_lt_of_le (by simp) hb1.size)
    have j1 := cell_at hb2 k1 (Nat.lt_of_lt_of_le (by simp) hb1.size)
    have j2 := cell_at hb2 k2 (Nat.lt_of_lt_of_le (by simp) hb1.size)
    go_wp2_with fail
    refine (has_is _ _ _ _ _ HB.out _).mono ?_
    rintro e w3 ⟨rfl, hb3⟩
    go_wp2_with fail
    go_ret
    exact ⟨rfl, by repeat (first | exact Later.refl _ | assumption | apply Later.alloc | apply Later.drew | refine Later.trans ?_ (by assumption))⟩

theorem Within_is (t g r t' g' r' : Int) (b : Bool) (hb : withinH t g r t' g' r' = b) (w : World) : Calls Tryd.prog 16 #[.agg #[.int .i64 t, .int .u32 g, .int .u8 r], .agg #[.int .i64 t', .int .u32 g', .int .u8 r']] w fun e w' => e = .returned (.bool b) ∧ Later w w' := by
  obtain ⟨x, hx⟩ : ∃ x, okH t g r = x := ⟨_, rfl⟩
  obtain ⟨y, hy⟩ : ∃ y, okH t' g' r' = y := ⟨_, rfl⟩
  have HX := Lib.hid hx
  have HY := Lib.hid hy
  cases x
  · obtain rfl : b = false := by rw [← hb, withinH, hx]; simp
    clear hb hx hy
    go_enter Tryd.func16, Tryd.ntmps16
    go_wp2_with fail
    refine (Right_is _ _ _ _ HX.out _).mono ?_
    rintro e w1 ⟨rfl, hb1⟩
    go_wp2_with fail
    go_ret
    exact ⟨rfl, by repeat (first | exact Later.refl _ | assumption | apply Later.alloc | apply Later.drew | refine Later.trans ?_ (by assumption))⟩
  cases y
  · obtain rfl : b = false := by rw [← hb, withinH, hx, hy]; simp
    clear hb hx hy
    go_enter Tryd.func16, Tryd.ntmps16
    go_wp2_with fail
    refine (Right_is _ _ _ _ HX.out _).mono ?_
    rintro e w1 ⟨rfl, hb1⟩
    have k0 := cell_at hb1 (p := ⟨w.heap.size, 0, none⟩) (v := .int .i64 t) (by go_cell) (by simp <;> omega)
    have k1 := cell_at hb1 (p := ⟨w.heap.size, 1, none⟩) (v := .int .u32 g) (by go_cell) (by simp <;> omega)
    have k2 := cell_at hb1 (p := ⟨w.heap.size, 2, none⟩) (v := .int .u8 r) (by go_cell) (by simp <;> omega)
    have l0 := cell_at hb1 (p := ⟨w.heap.size + 1, 0, none⟩) (v := .int .i64 t') (by go_cell) (by simp <;> omega)
    have l1 := cell_at hb1 (p := ⟨w.heap.size + 1, 1, none⟩) (v := .int .u32 g') (by go_cell) (by simp <;> omega)
    have l2 := cell_at hb1 (p := ⟨w.heap.size + 1, 2, none⟩) (v := .int .u8 r') (by go_cell) (by simp <;> omega)
    go_wp2_with fail
    refine (Right_is _ _ _ _ HY.out _).mono ?_
    rintro e w2 ⟨rfl, hb2⟩
    go_wp2_with fail
    go_ret
    exact ⟨rfl, by repeat (first | exact Later.refl _ | assumption | apply Later.alloc | apply Later.drew | refine Later.trans ?_ (by assumption))⟩
  by_cases ct : ¬ t = t'
  · obtain rfl : b = false := by rw [← hb, withinH, hx, hy]; simp [ct]
    have ct' : (t == t') = false := by simp [ct]
    clear hb hx hy
    go_enter Tryd.func16, Tryd.ntmps16
    go_wp2_with fail
    refine (Right_is _ _ _ _ HX.out _).mono ?_
    rintro e w1 ⟨rfl, hb1⟩
    have k0 := cell_at hb1 (p := ⟨w.heap.size, 0, none⟩) (v := .int .i64 t) (by go_cell) (by simp <;> omega)
    have k1 := cell_at hb1 (p := ⟨w.heap.size, 1, none⟩) (v := .int .u32 g) (by go_cell) (by simp <;> omega)
    have k2 := cell_at hb1 (p := ⟨w.heap.size, 2, none⟩) (v := .int .u8 r) (by go_cell) (by simp <;> omega)
    have l0 := cell_at hb1 (p := ⟨w.heap.size + 1, 0, none⟩) (v := .int .i64 t') (by go_cell) (by simp <;> omega)
    have l1 := cell_at hb1 (p := ⟨w.heap.size + 1, 1, none⟩) (v := .int .u32 g') (by go_cell) (by simp <;> omega)
    have l2 := cell_at hb1 (p := ⟨w.heap.size + 1, 2, none⟩) (v := .int .u8 r') (by go_cell) (by simp <;> omega)
    go_wp2_with fail
    refine (Right_is _ _ _ _ HY.out _).mono ?_
    rintro e w2 ⟨rfl, hb2⟩
    have i0 := cell_at hb2 k0 (Nat.lt_of_lt_of_le (by simp <;> omega) hb1.size)
    have i1 := cell_at hb2 k1 (Nat.lt_of_lt_of_le (by simp <;> omega) hb1.size)
    have i2 := cell_at hb2 k2 (Nat.lt_of_lt_of_le (by simp <;> omega) hb1.size)
    have j0 := cell_at hb2 l0 (Nat.lt_of_lt_of_le (by simp <;> omega) hb1.size)
    have j1 := cell_at hb2 l1 (Nat.lt_of_lt_of_le (by simp <;> omega) hb1.size)
    have j2 := cell_at hb2 l2 (Nat.lt_of_lt_of_le (by simp <;> omega) hb1.size)
    go_wp2_with fail
    go_ret
    exact ⟨rfl, by repeat (first | exact Later.refl _ | assumption | apply Later.alloc | apply Later.drew | refine Later.trans ?_ (by assumption))⟩
  have ct := Classical.not_not.1 ct
  by_cases cg : ¬ g = g'
  · obtain rfl : b = false := by rw [← hb, withinH, hx, hy]; simp [cg]
    have ct' : (t == t') = true := by simp [ct]
    have cg' : (g == g') = false := by simp [cg]
    clear hb hx hy ct
    go_enter Tryd.func16, Tryd.ntmps16
    go_wp2_with fail
    refine (Right_is _ _ _ _ HX.out _).mono ?_
    rintro e w1 ⟨rfl, hb1⟩
    have k0 := cell_at hb1 (p := ⟨w.heap.size, 0, none⟩) (v := .int .i64 t) (by go_cell) (by simp <;> omega)
    have k1 := cell_at hb1 (p := ⟨w.heap.size, 1, none⟩) (v := .int .u32 g) (by go_cell) (by simp <;> omega)
    have k2 := cell_at hb1 (p := ⟨w.heap.size, 2, none⟩) (v := .int .u8 r) (by go_cell) (by simp <;> omega)
    have l0 := cell_at hb1 (p := ⟨w.heap.size + 1, 0, none⟩) (v := .int .i64 t') (by go_cell) (by simp <;> omega)
    have l1 := cell_at hb1 (p := ⟨w.heap.size + 1, 1, none⟩) (v := .int .u32 g') (by go_cell) (by simp <;> omega)
    have l2 := cell_at hb1 (p := ⟨w.heap.size + 1, 2, none⟩) (v := .int .u8 r') (by go_cell) (by simp <;> omega)
    go_wp2_with fail
    refine (Right_is _ _ _ _ HY.out _).mono ?_
    rintro e w2 ⟨rfl, hb2⟩
    have i0 := cell_at hb2 k0 (Nat.lt_of_lt_of_le (by simp <;> omega) hb1.size)
    have i1 := cell_at hb2 k1 (Nat.lt_of_lt_of_le (by simp <;> omega) hb1.size)
    have i2 := cell_at hb2 k2 (Nat.lt_of_lt_of_le (by simp <;> omega) hb1.size)
    have j0 := cell_at hb2 l0 (Nat.lt_of_lt_of_le (by simp <;> omega) hb1.size)
    have j1 := cell_at hb2 l1 (Nat.lt_of_lt_of_le (by simp <;> omega) hb1.size)
    have j2 := cell_at hb2 l2 (Nat.lt_of_lt_of_le (by simp <;> omega) hb1.size)
    go_wp2_with fail
    go_ret
    exact ⟨rfl, by repeat (first | exact Later.refl _ | assumption | apply Later.alloc | apply Later.drew | refine Later.trans ?_ (by assumption))⟩
  · have cg := Classical.not_not.1 cg
    have hr : 1 ≤ r ∧ r ≤ 7 := ((okH_iff t g r).1 hx).2.2
    have hr' : 1 ≤ r' ∧ r' ≤ 7 := ((okH_iff t' g' r').1 hy).2.2
    have HB := Lib.hid (show (bits .and .u8 r' r == r) = b by rw [has_in r' r hr' hr, ← hb, withinH, hx, hy]; simp [ct, cg])
    have ct' : (t == t') = true := by simp [ct]
    have cg' : (g == g') = true := by simp [cg]
    clear hb hx hy hr hr' ct cg
    go_enter Tryd.func16, Tryd.ntmps16
    go_wp2_with fail
    refine (Right_is _ _ _ _ HX.out _).mono ?_
    rintro e w1 ⟨rfl, hb1⟩
    have k0 := cell_at hb1 (p := ⟨w.heap.size, 0, none⟩) (v := .int .i64 t) (by go_cell) (by simp <;> omega)
    have k1 := cell_at hb1 (p := ⟨w.heap.size, 1, none⟩) (v := .int .u32 g) (by go_cell) (by simp <;> omega)
    have k2 := cell_at hb1 (p := ⟨w.heap.size, 2, none⟩) (v := .int .u8 r) (by go_cell) (by simp <;> omega)
    have l0 := cell_at hb1 (p := ⟨w.heap.size + 1, 0, none⟩) (v := .int .i64 t') (by go_cell) (by simp <;> omega)
    have l1 := cell_at hb1 (p := ⟨w.heap.size + 1, 1, none⟩) (v := .int .u32 g') (by go_cell) (by simp <;> omega)
    have l2 := cell_at hb1 (p := ⟨w.heap.size + 1, 2, none⟩) (v := .int .u8 r') (by go_cell) (by simp <;> omega)
    go_wp2_with fail
    refine (Right_is _ _ _ _ HY.out _).mono ?_
    rintro e w2 ⟨rfl, hb2⟩
    have i0 := cell_at hb2 k0 (Nat.lt_of_lt_of_le (by simp <;> omega) hb1.size)
    have i1 := cell_at hb2 k1 (Nat.lt_of_lt_of_le (by simp <;> omega) hb1.size)
    have i2 := cell_at hb2 k2 (Nat.lt_of_lt_of_le (by simp <;> omega) hb1.size)
    have j0 := cell_at hb2 l0 (Nat.lt_of_lt_of_le (by simp <;> omega) hb1.size)
    have j1 := cell_at hb2 l1 (Nat.lt_of_lt_of_le (by simp <;> omega) hb1.size)
    have j2 := cell_at hb2 l2 (Nat.lt_of_lt_of_le (by simp <;> omega) hb1.size)
    go_wp2_with fail
    refine (has_is _ _ _ _ _ HB.out _).mono ?_
    rintro e w3 ⟨rfl, hb3⟩
    go_wp2_with fail
    go_ret
    exact ⟨rfl, by repeat (first | exact Later.refl _ | assumption | apply Later.alloc | apply Later.drew | refine Later.trans ?_ (by assumption))⟩
end Go.Proofs.YtpfnccjfmbecfaaDoor
