/-
  The reference's Allows and Within. Conditions: the rights are a byte.
-/
import Derived.Test.YtpfnccjfmbecfaaDoorD
import Derived.Deep.QuietTactic
import Derived.BigQuiet
namespace Go.Proofs.YtpfnccjfmbecfaaDoor
open Go.RowKit

theorem beq_dec (a b : Int) : (a == b) = decide (a = b) := by by_cases h : a = b <;> simp [h]

theorem refAllows_is (t g r d : Int) (b : Bool) (r0 : 0 ≤ r) (r1 : r ≤ 255) (hb : allowsH t g r d = b) (w : World) : Calls Tryd.prog 29 #[.agg #[.int .i64 t, .int .u32 g, .int .u8 r], .int .i64 d] w fun e w' => e = .returned (.bool b) ∧ Later w w' := by
  obtain ⟨q, hq⟩ : ∃ q, askR d = q := ⟨_, rfl⟩
  obtain ⟨o, ho⟩ : ∃ o, okH t g r = o := ⟨_, rfl⟩
  have HQ := Lib.hid hq
  have HO := Lib.hid ho
  have hc := askR_cases d
  rw [hq] at hc
  cases o
  · obtain rfl : b = false := by rw [← hb, allowsH, ho]; simp
    clear hb hq ho hc
    go_enter Tryd.func29, Tryd.ntmps29
    go_wp2_with fail
    refine (refAsks_is _ q HQ.out _).mono ?_
    rintro e w1 ⟨rfl, rfl⟩
    go_wp2_with fail
    refine (refRight_is _ _ _ _ r0 r1 HO.out _).mono ?_
    rintro e w2 ⟨rfl, hb2⟩
    go_wp2_with fail
    go_ret
    exact ⟨rfl, by repeat (first | exact Later.refl _ | assumption | apply Later.alloc | apply Later.drew | apply Later.drewN | refine Later.trans ?_ (by assumption))⟩
  have HB := Lib.hid (show (decide (0 < q) && decide (r / q % 2 = 1)) = b by rw [← hb, allowsH, ho, hq]; simp)
  clear hb hq ho
  rcases hc with rfl | rfl | rfl | rfl
  · obtain rfl : false = b := by rw [← HB.out]; simp
    go_enter Tryd.func29, Tryd.ntmps29
    go_wp2_with fail
    refine (refAsks_is _ _ HQ.out _).mono ?_
    rintro e w1 ⟨rfl, rfl⟩
    go_wp2_with fail
    refine (refRight_is _ _ _ _ r0 r1 HO.out _).mono ?_
    rintro e w2 ⟨rfl, hb2⟩
    go_wp2_with fail
    go_ret
    exact ⟨rfl, by repeat (first | exact Later.refl _ | assumption | apply Later.alloc | apply Later.drew | apply Later.drewN | refine Later.trans ?_ (by assumption))⟩
  · go_enter Tryd.func29, Tryd.ntmps29
    go_wp2_with fail
    refine (refAsks_is _ _ HQ.out _).mono ?_
    rintro e w1 ⟨rfl, rfl⟩
    go_wp2_with fail
    refine (refRight_is _ _ _ _ r0 r1 HO.out _).mono ?_
    rintro e w2 ⟨rfl, hb2⟩
    have k2 := cell_at hb2 (p := ⟨w.heap.size, 2, none⟩) (v := .int .u8 r) (by go_cell) (by simp)
    go_wp2_with fail
    go_ret
    refine ⟨?_, by repeat (first | exact Later.refl _ | assumption | apply Later.alloc | apply Later.drew | apply Later.drewN | refine Later.trans ?_ (by assumption))⟩
    rw [← HB.out]
    simp [beq_dec]
  · go_enter Tryd.func29, Tryd.ntmps29
    go_wp2_with fail
    refine (refAsks_is _ _ HQ.out _).mono ?_
    rintro e w1 ⟨rfl, rfl⟩
    go_wp2_with fail
    refine (refRight_is _ _ _ _ r0 r1 HO.out _).mono ?_
    rintro e w2 ⟨rfl, hb2⟩
    have k2 := cell_at hb2 (p := ⟨w.heap.size, 2, none⟩) (v := .int .u8 r) (by go_cell) (by simp)
    go_wp2_with fail
    go_ret
    refine ⟨?_, by repeat (first | exact Later.refl _ | assumption | apply Later.alloc | apply Later.drew | apply Later.drewN | refine Later.trans ?_ (by assumption))⟩
    rw [← HB.out]
    simp [beq_dec]
  · go_enter Tryd.func29, Tryd.ntmps29
    go_wp2_with fail
    refine (refAsks_is _ _ HQ.out _).mono ?_
    rintro e w1 ⟨rfl, rfl⟩
    go_wp2_with fail
    refine (refRight_is _ _ _ _ r0 r1 HO.out _).mono ?_
    rintro e w2 ⟨rfl, hb2⟩
    have k2 := cell_at hb2 (p := ⟨w.heap.size, 2, none⟩) (v := .int .u8 r) (by go_cell) (by simp)
    go_wp2_with fail
    go_ret
    refine ⟨?_, by repeat (first | exact Later.refl _ | assumption | apply Later.alloc | apply Later.drew | apply Later.drewN | refine Later.trans ?_ (by assumption))⟩
    rw [← HB.out]
    simp [beq_dec]

set_option maxHeartbeats 6400000 in
theorem refWithin_is (t g r t' g' r' : Int) (b : Bool) (r0 : 0 ≤ r) (r1 : r ≤ 255) (s0 : 0 ≤ r') (s1 : r' ≤ 255) (hb : withinH t g r t' g' r' = b) (w : World) : Calls Tryd.prog 30 #[.agg #[.int .i64 t, .int .u32 g, .int .u8 r], .agg #[.int .i64 t', .int .u32 g', .int .u8 r']] w fun e w' => e = .returned (.bool b) ∧ Later w w' := by
  obtain ⟨x, hx⟩ : ∃ x, okH t g r = x := ⟨_, rfl⟩
  obtain ⟨y, hy⟩ : ∃ y, okH t' g' r' = y := ⟨_, rfl⟩
  have HX := Lib.hid hx
  have HY := Lib.hid hy
  cases x
  · obtain rfl : b = false := by rw [← hb, withinH, hx]; simp
    clear hb hx hy
    go_enter Tryd.func30, Tryd.ntmps30
    go_wp2_with fail
    refine (refRight_is _ _ _ _ r0 r1 HX.out _).mono ?_
    rintro e w1 ⟨rfl, hb1⟩
    go_wp2_with fail
    go_ret
    exact ⟨rfl, by repeat (first | exact Later.refl _ | assumption | apply Later.alloc | apply Later.drew | apply Later.drewN | refine Later.trans ?_ (by assumption))⟩
  cases y
  · obtain rfl : b = false := by rw [← hb, withinH, hx, hy]; simp
    clear hb hx hy
    go_enter Tryd.func30, Tryd.ntmps30
    go_wp2_with fail
    refine (refRight_is _ _ _ _ r0 r1 HX.out _).mono ?_
    rintro e w1 ⟨rfl, hb1⟩
    have k0 := cell_at hb1 (p := ⟨w.heap.size, 0, none⟩) (v := .int .i64 t) (by go_cell) (by simp <;> omega)
    have k1 := cell_at hb1 (p := ⟨w.heap.size, 1, none⟩) (v := .int .u32 g) (by go_cell) (by simp <;> omega)
    have k2 := cell_at hb1 (p := ⟨w.heap.size, 2, none⟩) (v := .int .u8 r) (by go_cell) (by simp <;> omega)
    have l0 := cell_at hb1 (p := ⟨w.heap.size + 1, 0, none⟩) (v := .int .i64 t') (by go_cell) (by simp <;> omega)
    have l1 := cell_at hb1 (p := ⟨w.heap.size + 1, 1, none⟩) (v := .int .u32 g') (by go_cell) (by simp <;> omega)
    have l2 := cell_at hb1 (p := ⟨w.heap.size + 1, 2, none⟩) (v := .int .u8 r') (by go_cell) (by simp <;> omega)
    go_wp2_with fail
    refine (refRight_is _ _ _ _ s0 s1 HY.out _).mono ?_
    rintro e w2 ⟨rfl, hb2⟩
    go_wp2_with fail
    go_ret
    exact ⟨rfl, by repeat (first | exact Later.refl _ | assumption | apply Later.alloc | apply Later.drew | apply Later.drewN | refine Later.trans ?_ (by assumption))⟩
  by_cases ct : ¬ t = t'
  · obtain rfl : b = false := by rw [← hb, withinH, hx, hy]; simp [ct]
    have ct' : (t != t') = true := by simp [ct]
    clear hb hx hy
    go_enter Tryd.func30, Tryd.ntmps30
    go_wp2_with fail
    refine (refRight_is _ _ _ _ r0 r1 HX.out _).mono ?_
    rintro e w1 ⟨rfl, hb1⟩
    have k0 := cell_at hb1 (p := ⟨w.heap.size, 0, none⟩) (v := .int .i64 t) (by go_cell) (by simp <;> omega)
    have k1 := cell_at hb1 (p := ⟨w.heap.size, 1, none⟩) (v := .int .u32 g) (by go_cell) (by simp <;> omega)
    have k2 := cell_at hb1 (p := ⟨w.heap.size, 2, none⟩) (v := .int .u8 r) (by go_cell) (by simp <;> omega)
    have l0 := cell_at hb1 (p := ⟨w.heap.size + 1, 0, none⟩) (v := .int .i64 t') (by go_cell) (by simp <;> omega)
    have l1 := cell_at hb1 (p := ⟨w.heap.size + 1, 1, none⟩) (v := .int .u32 g') (by go_cell) (by simp <;> omega)
    have l2 := cell_at hb1 (p := ⟨w.heap.size + 1, 2, none⟩) (v := .int .u8 r') (by go_cell) (by simp <;> omega)
    go_wp2_with fail
    refine (refRight_is _ _ _ _ s0 s1 HY.out _).mono ?_
    rintro e w2 ⟨rfl, hb2⟩
    have i0 := cell_at hb2 k0 (Nat.lt_of_lt_of_le (by simp <;> omega) hb1.size)
    have i1 := cell_at hb2 k1 (Nat.lt_of_lt_of_le (by simp <;> omega) hb1.size)
    have i2 := cell_at hb2 k2 (Nat.lt_of_lt_of_le (by simp <;> omega) hb1.size)
    have j0 := cell_at hb2 l0 (Nat.lt_of_lt_of_le (by simp <;> omega) hb1.size)
    have j1 := cell_at hb2 l1 (Nat.lt_of_lt_of_le (by simp <;> omega) hb1.size)
    have j2 := cell_at hb2 l2 (Nat.lt_of_lt_of_le (by simp <;> omega) hb1.size)
    go_wp2_with fail
    go_ret
    exact ⟨rfl, by repeat (first | exact Later.refl _ | assumption | apply Later.alloc | apply Later.drew | apply Later.drewN | refine Later.trans ?_ (by assumption))⟩
  have ct := Classical.not_not.1 ct
  by_cases cg : ¬ g = g'
  · obtain rfl : b = false := by rw [← hb, withinH, hx, hy]; simp [cg]
    have ct' : (t != t') = false := by simp [ct]
    have cg' : (g != g') = true := by simp [cg]
    clear hb hx hy ct
    go_enter Tryd.func30, Tryd.ntmps30
    go_wp2_with fail
    refine (refRight_is _ _ _ _ r0 r1 HX.out _).mono ?_
    rintro e w1 ⟨rfl, hb1⟩
    have k0 := cell_at hb1 (p := ⟨w.heap.size, 0, none⟩) (v := .int .i64 t) (by go_cell) (by simp <;> omega)
    have k1 := cell_at hb1 (p := ⟨w.heap.size, 1, none⟩) (v := .int .u32 g) (by go_cell) (by simp <;> omega)
    have k2 := cell_at hb1 (p := ⟨w.heap.size, 2, none⟩) (v := .int .u8 r) (by go_cell) (by simp <;> omega)
    have l0 := cell_at hb1 (p := ⟨w.heap.size + 1, 0, none⟩) (v := .int .i64 t') (by go_cell) (by simp <;> omega)
    have l1 := cell_at hb1 (p := ⟨w.heap.size + 1, 1, none⟩) (v := .int .u32 g') (by go_cell) (by simp <;> omega)
    have l2 := cell_at hb1 (p := ⟨w.heap.size + 1, 2, none⟩) (v := .int .u8 r') (by go_cell) (by simp <;> omega)
    go_wp2_with fail
    refine (refRight_is _ _ _ _ s0 s1 HY.out _).mono ?_
    rintro e w2 ⟨rfl, hb2⟩
    have i0 := cell_at hb2 k0 (Nat.lt_of_lt_of_le (by simp <;> omega) hb1.size)
    have i1 := cell_at hb2 k1 (Nat.lt_of_lt_of_le (by simp <;> omega) hb1.size)
    have i2 := cell_at hb2 k2 (Nat.lt_of_lt_of_le (by simp <;> omega) hb1.size)
    have j0 := cell_at hb2 l0 (Nat.lt_of_lt_of_le (by simp <;> omega) hb1.size)
    have j1 := cell_at hb2 l1 (Nat.lt_of_lt_of_le (by simp <;> omega) hb1.size)
    have j2 := cell_at hb2 l2 (Nat.lt_of_lt_of_le (by simp <;> omega) hb1.size)
    go_wp2_with fail
    go_ret
    exact ⟨rfl, by repeat (first | exact Later.refl _ | assumption | apply Later.alloc | apply Later.drew | apply Later.drewN | refine Later.trans ?_ (by assumption))⟩
  have cg := Classical.not_not.1 cg
  have hB : inR r r' = b := by rw [← hb, withinH, hx, hy]; simp [ct, cg]
  have ct' : (t != t') = false := by simp [ct]
  have cg' : (g != g') = false := by simp [cg]
  clear hb hx hy
  by_cases c0 : ¬ r % 2 ≤ r' % 2
  · obtain rfl : b = false := by rw [← hB, inR]; simp [c0]
    clear hB ct cg
    go_enter Tryd.func30, Tryd.ntmps30
    go_wp2_with fail
    refine (refRight_is _ _ _ _ r0 r1 HX.out _).mono ?_
    rintro e w1 ⟨rfl, hb1⟩
    have k0 := cell_at hb1 (p := ⟨w.heap.size, 0, none⟩) (v := .int .i64 t) (by go_cell) (by simp <;> omega)
    have k1 := cell_at hb1 (p := ⟨w.heap.size, 1, none⟩) (v := .int .u32 g) (by go_cell) (by simp <;> omega)
    have k2 := cell_at hb1 (p := ⟨w.heap.size, 2, none⟩) (v := .int .u8 r) (by go_cell) (by simp <;> omega)
    have l0 := cell_at hb1 (p := ⟨w.heap.size + 1, 0, none⟩) (v := .int .i64 t') (by go_cell) (by simp <;> omega)
    have l1 := cell_at hb1 (p := ⟨w.heap.size + 1, 1, none⟩) (v := .int .u32 g') (by go_cell) (by simp <;> omega)
    have l2 := cell_at hb1 (p := ⟨w.heap.size + 1, 2, none⟩) (v := .int .u8 r') (by go_cell) (by simp <;> omega)
    go_wp2_with fail
    refine (refRight_is _ _ _ _ s0 s1 HY.out _).mono ?_
    rintro e w2 ⟨rfl, hb2⟩
    have i0 := cell_at hb2 k0 (Nat.lt_of_lt_of_le (by simp <;> omega) hb1.size)
    have i1 := cell_at hb2 k1 (Nat.lt_of_lt_of_le (by simp <;> omega) hb1.size)
    have i2 := cell_at hb2 k2 (Nat.lt_of_lt_of_le (by simp <;> omega) hb1.size)
    have j0 := cell_at hb2 l0 (Nat.lt_of_lt_of_le (by simp <;> omega) hb1.size)
    have j1 := cell_at hb2 l1 (Nat.lt_of_lt_of_le (by simp <;> omega) hb1.size)
    have j2 := cell_at hb2 l2 (Nat.lt_of_lt_of_le (by simp <;> omega) hb1.size)
    go_wp2_with fail
    refine wp_loop_rounds 4 ?_
    rw [rounds_succ]
    go_wp2_with fail
    go_quiet (fail)
    go_wp2_with fail
    go_ret
    exact ⟨rfl, by repeat (first | exact Later.refl _ | assumption | apply Later.alloc | apply Later.drew | apply Later.drewN | refine Later.trans ?_ (by assumption))⟩
  have c0 := Classical.not_not.1 c0
  by_cases c1 : ¬ r / 2 % 2 ≤ r' / 2 % 2
  · obtain rfl : b = false := by rw [← hB, inR]; simp [c1]
    clear hB ct cg
    go_enter Tryd.func30, Tryd.ntmps30
    go_wp2_with fail
    refine (refRight_is _ _ _ _ r0 r1 HX.out _).mono ?_
    rintro e w1 ⟨rfl, hb1⟩
    have k0 := cell_at hb1 (p := ⟨w.heap.size, 0, none⟩) (v := .int .i64 t) (by go_cell) (by simp <;> omega)
    have k1 := cell_at hb1 (p := ⟨w.heap.size, 1, none⟩) (v := .int .u32 g) (by go_cell) (by simp <;> omega)
    have k2 := cell_at hb1 (p := ⟨w.heap.size, 2, none⟩) (v := .int .u8 r) (by go_cell) (by simp <;> omega)
    have l0 := cell_at hb1 (p := ⟨w.heap.size + 1, 0, none⟩) (v := .int .i64 t') (by go_cell) (by simp <;> omega)
    have l1 := cell_at hb1 (p := ⟨w.heap.size + 1, 1, none⟩) (v := .int .u32 g') (by go_cell) (by simp <;> omega)
    have l2 := cell_at hb1 (p := ⟨w.heap.size + 1, 2, none⟩) (v := .int .u8 r') (by go_cell) (by simp <;> omega)
    go_wp2_with fail
    refine (refRight_is _ _ _ _ s0 s1 HY.out _).mono ?_
    rintro e w2 ⟨rfl, hb2⟩
    have i0 := cell_at hb2 k0 (Nat.lt_of_lt_of_le (by simp <;> omega) hb1.size)
    have i1 := cell_at hb2 k1 (Nat.lt_of_lt_of_le (by simp <;> omega) hb1.size)
    have i2 := cell_at hb2 k2 (Nat.lt_of_lt_of_le (by simp <;> omega) hb1.size)
    have j0 := cell_at hb2 l0 (Nat.lt_of_lt_of_le (by simp <;> omega) hb1.size)
    have j1 := cell_at hb2 l1 (Nat.lt_of_lt_of_le (by simp <;> omega) hb1.size)
    have j2 := cell_at hb2 l2 (Nat.lt_of_lt_of_le (by simp <;> omega) hb1.size)
    go_wp2_with fail
    refine wp_loop_rounds 4 ?_
    rw [rounds_succ]
    go_wp2_with fail
    go_quiet (fail)
    go_wp2_with fail
    rw [rounds_succ]
    go_wp2_with fail
    go_quiet (fail)
    go_wp2_with fail
    go_ret
    exact ⟨rfl, by repeat (first | exact Later.refl _ | assumption | apply Later.alloc | apply Later.drew | apply Later.drewN | refine Later.trans ?_ (by assumption))⟩
  have c1 := Classical.not_not.1 c1
  by_cases c2 : ¬ r / 4 % 2 ≤ r' / 4 % 2
  · obtain rfl : b = false := by rw [← hB, inR]; simp [c2]
    clear hB ct cg
    go_enter Tryd.func30, Tryd.ntmps30
    go_wp2_with fail
    refine (refRight_is _ _ _ _ r0 r1 HX.out _).mono ?_
    rintro e w1 ⟨rfl, hb1⟩
    have k0 := cell_at hb1 (p := ⟨w.heap.size, 0, none⟩) (v := .int .i64 t) (by go_cell) (by simp <;> omega)
    have k1 := cell_at hb1 (p := ⟨w.heap.size, 1, none⟩) (v := .int .u32 g) (by go_cell) (by simp <;> omega)
    have k2 := cell_at hb1 (p := ⟨w.heap.size, 2, none⟩) (v := .int .u8 r) (by go_cell) (by simp <;> omega)
    have l0 := cell_at hb1 (p := ⟨w.heap.size + 1, 0, none⟩) (v := .int .i64 t') (by go_cell) (by simp <;> omega)
    have l1 := cell_at hb1 (p := ⟨w.heap.size + 1, 1, none⟩) (v := .int .u32 g') (by go_cell) (by simp <;> omega)
    have l2 := cell_at hb1 (p := ⟨w.heap.size + 1, 2, none⟩) (v := .int .u8 r') (by go_cell) (by simp <;> omega)
    go_wp2_with fail
    refine (refRight_is _ _ _ _ s0 s1 HY.out _).mono ?_
    rintro e w2 ⟨rfl, hb2⟩
    have i0 := cell_at hb2 k0 (Nat.lt_of_lt_of_le (by simp <;> omega) hb1.size)
    have i1 := cell_at hb2 k1 (Nat.lt_of_lt_of_le (by simp <;> omega) hb1.size)
    have i2 := cell_at hb2 k2 (Nat.lt_of_lt_of_le (by simp <;> omega) hb1.size)
    have j0 := cell_at hb2 l0 (Nat.lt_of_lt_of_le (by simp <;> omega) hb1.size)
    have j1 := cell_at hb2 l1 (Nat.lt_of_lt_of_le (by simp <;> omega) hb1.size)
    have j2 := cell_at hb2 l2 (Nat.lt_of_lt_of_le (by simp <;> omega) hb1.size)
    go_wp2_with fail
    refine wp_loop_rounds 4 ?_
    rw [rounds_succ]
    go_wp2_with fail
    go_quiet (fail)
    go_wp2_with fail
    rw [rounds_succ]
    go_wp2_with fail
    go_quiet (fail)
    go_wp2_with fail
    rw [rounds_succ]
    go_wp2_with fail
    go_quiet (fail)
    go_wp2_with fail
    go_ret
    exact ⟨rfl, by repeat (first | exact Later.refl _ | assumption | apply Later.alloc | apply Later.drew | apply Later.drewN | refine Later.trans ?_ (by assumption))⟩
  have c2 := Classical.not_not.1 c2
  · obtain rfl : b = true := by rw [← hB, inR]; simp [c0, c1, c2]
    clear hB ct cg
    go_enter Tryd.func30, Tryd.ntmps30
    go_wp2_with fail
    refine (refRight_is _ _ _ _ r0 r1 HX.out _).mono ?_
    rintro e w1 ⟨rfl, hb1⟩
    have k0 := cell_at hb1 (p := ⟨w.heap.size, 0, none⟩) (v := .int .i64 t) (by go_cell) (by simp <;> omega)
    have k1 := cell_at hb1 (p := ⟨w.heap.size, 1, none⟩) (v := .int .u32 g) (by go_cell) (by simp <;> omega)
    have k2 := cell_at hb1 (p := ⟨w.heap.size, 2, none⟩) (v := .int .u8 r) (by go_cell) (by simp <;> omega)
    have l0 := cell_at hb1 (p := ⟨w.heap.size + 1, 0, none⟩) (v := .int .i64 t') (by go_cell) (by simp <;> omega)
    have l1 := cell_at hb1 (p := ⟨w.heap.size + 1, 1, none⟩) (v := .int .u32 g') (by go_cell) (by simp <;> omega)
    have l2 := cell_at hb1 (p := ⟨w.heap.size + 1, 2, none⟩) (v := .int .u8 r') (by go_cell) (by simp <;> omega)
    go_wp2_with fail
    refine (refRight_is _ _ _ _ s0 s1 HY.out _).mono ?_
    rintro e w2 ⟨rfl, hb2⟩
    have i0 := cell_at hb2 k0 (Nat.lt_of_lt_of_le (by simp <;> omega) hb1.size)
    have i1 := cell_at hb2 k1 (Nat.lt_of_lt_of_le (by simp <;> omega) hb1.size)
    have i2 := cell_at hb2 k2 (Nat.lt_of_lt_of_le (by simp <;> omega) hb1.size)
    have j0 := cell_at hb2 l0 (Nat.lt_of_lt_of_le (by simp <;> omega) hb1.size)
    have j1 := cell_at hb2 l1 (Nat.lt_of_lt_of_le (by simp <;> omega) hb1.size)
    have j2 := cell_at hb2 l2 (Nat.lt_of_lt_of_le (by simp <;> omega) hb1.size)
    go_wp2_with fail
    refine wp_loop_rounds 4 ?_
    rw [rounds_succ]
    go_wp2_with fail
    go_quiet (fail)
    go_wp2_with fail
    rw [rounds_succ]
    go_wp2_with fail
    go_quiet (fail)
    go_wp2_with fail
    rw [rounds_succ]
    go_wp2_with fail
    go_quiet (fail)
    go_wp2_with fail
    rw [rounds_succ]
    go_wp2_with fail
    go_ret
    exact ⟨rfl, by repeat (first | exact Later.refl _ | assumption | apply Later.alloc | apply Later.drew | apply Later.drewN | refine Later.trans ?_ (by assumption))⟩
end Go.Proofs.YtpfnccjfmbecfaaDoor
