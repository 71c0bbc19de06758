/-
  The walks of the small functions of handle. Conditions: the numbers are within their types.
-/
import Derived.Test.YtpfnccjfmbecfaaDoorChecked
import Derived.WalkKit
import Derived.WalkLawsBesides
import Derived.WalkSpells
import Derived.ProofKit
import Derived.Laws.BitsAllLaws
import Derived.Lib.Hide
import Derived.LoopN
import Derived.Handy
import Derived.MapKept
import Derived.Carry
namespace Go.Proofs.YtpfnccjfmbecfaaDoor
open Go.RowKit

/-- w' is w with at most new blocks and draws. -/
def Later (w w' : World) : Prop := Below w.heap.size w w'
theorem Later.refl (w : World) : Later w w := Below.refl _ _
theorem Later.trans {a b c : World} (h : Later a b) (k : Later b c) : Later a c := Below.trans h (Below.mono k h.size)
theorem Later.alloc {a b : World} (h : Later a b) (o : Obj) : Later a (b.alloc o) := Below.alloc h h.size o
theorem Later.drew {a b : World} (h : Later a b) : Later a b.drew := Below.drew h
theorem Later.drewN {a b : World} (h : Later a b) (n : Nat) : Later a (b.drewN n) := h.trans ⟨rfl, rfl, rfl, Nat.le_refl _, fun _ _ => rfl⟩
theorem Later.setCell {a b : World} (h : Later a b) (p : Addr) (u : Value) (hp : a.heap.size ≤ p.block) : Later a (b.setCell p u) := Below.setCell h hp u
theorem Later.size {a b : World} (h : Later a b) : a.heap.size ≤ b.heap.size := Below.size h
theorem Later.reads {W w1 : World} (hb : Later W w1) : (∀ b o, b < W.heap.size → w1.cell? ⟨b, o, none⟩ = W.cell? ⟨b, o, none⟩) ∧ (∀ b o, b < W.heap.size → w1.frozen? ⟨b, o, none⟩ = W.frozen? ⟨b, o, none⟩) ∧ W.heap.size ≤ w1.heap.size :=
  ⟨fun b o h => Below.cell (p := ⟨b, o, none⟩) hb h, fun b o h => Below.frozen (p := ⟨b, o, none⟩) hb h, Below.size hb⟩

theorem cell_at {w w' : World} (hl : Later w w') {p : Addr} {v : Value} (h : w.cell? p = some v) (hp : p.block < w.heap.size) : w'.cell? p = some v := (Below.cell hl hp).trans h

/-- valid -/
def okH (t g r : Int) : Bool := decide (1 ≤ t) && decide (t ≤ 16) && (decide (1 ≤ g) && (decide (1 ≤ r) && decide (r ≤ 7)))
theorem okH_iff (t g r : Int) : okH t g r = true ↔ (1 ≤ t ∧ t ≤ 16) ∧ 1 ≤ g ∧ 1 ≤ r ∧ r ≤ 7 := by simp [okH]

theorem tenant_is (t g r : Int) (b : Bool) (hb : decide (1 ≤ t ∧ t ≤ 16) = b) (w : World) : Calls Tryd.prog 35 #[.agg #[.int .i64 t, .int .u32 g, .int .u8 r]] w fun e w' => e = .returned (.bool b) ∧ Later w w' := by
  by_cases h1 : 1 ≤ t
  · have hp : decide (t ≤ 16) = b := by rw [← hb]; simp [h1]
    clear hb
    go_enter Tryd.func35, Tryd.ntmps35
    go_wp2
    go_ret
    exact ⟨rfl, by repeat (first | exact Later.refl _ | assumption | apply Later.alloc | apply Later.drew | refine Later.trans ?_ (by assumption))⟩
  · obtain rfl : b = false := by rw [← hb]; simp [h1]
    clear hb
    go_enter Tryd.func35, Tryd.ntmps35
    go_wp2
    go_ret
    exact ⟨rfl, by repeat (first | exact Later.refl _ | assumption | apply Later.alloc | apply Later.drew | refine Later.trans ?_ (by assumption))⟩
theorem gen_is (t g r : Int) (b : Bool) (hb : decide (1 ≤ g) = b) (w : World) : Calls Tryd.prog 36 #[.agg #[.int .i64 t, .int .u32 g, .int .u8 r]] w fun e w' => e = .returned (.bool b) ∧ Later w w' := by
  go_enter Tryd.func36, Tryd.ntmps36
  go_wp2
  go_ret
  exact ⟨rfl, by repeat (first | exact Later.refl _ | assumption | apply Later.alloc | apply Later.drew | refine Later.trans ?_ (by assumption))⟩
theorem rights_is (t g r : Int) (b : Bool) (hb : decide (1 ≤ r ∧ r ≤ 7) = b) (w : World) : Calls Tryd.prog 37 #[.agg #[.int .i64 t, .int .u32 g, .int .u8 r]] w fun e w' => e = .returned (.bool b) ∧ Later w w' := by
  by_cases h1 : 1 ≤ r
  · have hp : decide (r ≤ 7) = b := by rw [← hb]; simp [h1]
    clear hb
    go_enter Tryd.func37, Tryd.ntmps37
    go_wp2
    go_ret
    exact ⟨rfl, by repeat (first | exact Later.refl _ | assumption | apply Later.alloc | apply Later.drew | refine Later.trans ?_ (by assumption))⟩
  · obtain rfl : b = false := by rw [← hb]; simp [h1]
    clear hb
    go_enter Tryd.func37, Tryd.ntmps37
    go_wp2
    go_ret
    exact ⟨rfl, by repeat (first | exact Later.refl _ | assumption | apply Later.alloc | apply Later.drew | refine Later.trans ?_ (by assumption))⟩
set_option maxHeartbeats 6400000 in
theorem right_is (t g r : Int) (b : Bool) (hb : okH t g r = b) (w : World) : Calls Tryd.prog 21 #[.agg #[.int .i64 t, .int .u32 g, .int .u8 r]] w fun e w' => e = .returned (.bool b) ∧ Later w w' := by
  obtain ⟨x, hx⟩ : ∃ x, decide (1 ≤ t ∧ t ≤ 16) = x := ⟨_, rfl⟩
  obtain ⟨y, hy⟩ : ∃ y, decide (1 ≤ g) = y := ⟨_, rfl⟩
  obtain ⟨z, hz⟩ : ∃ z, decide (1 ≤ r ∧ r ≤ 7) = z := ⟨_, rfl⟩
  obtain rfl : (x && (y && z)) = b := by rw [← hb, ← hx, ← hy, ← hz, okH]; simp
  have HX := Lib.hid hx
  have HY := Lib.hid hy
  have HZ := Lib.hid hz
  clear hb hx hy hz
  go_enter Tryd.func21, Tryd.ntmps21
  go_wp2_with fail
  refine wp_loop_rounds 4 ?_
  rw [rounds_succ]
  go_wp2_with fail
  refine (tenant_is _ _ _ _ HX.out _).mono ?_
  rintro e w1 ⟨rfl, hb1⟩
  have k1 := cell_at hb1 (p := ⟨w.heap.size + 1, 1, none⟩) (v := .func (.func 36) #[.agg #[.int .i64 t, .int .u32 g, .int .u8 r]] #[]) (by go_cell) (by simp)
  have k2 := cell_at hb1 (p := ⟨w.heap.size + 1, 2, none⟩) (v := .func (.func 37) #[.agg #[.int .i64 t, .int .u32 g, .int .u8 r]] #[]) (by go_cell) (by simp)
  cases x
  · go_wp2_with fail
    go_ret
    exact ⟨rfl, by repeat (first | exact Later.refl _ | assumption | apply Later.alloc | apply Later.drew | refine Later.trans ?_ (by assumption))⟩
  go_wp2_with fail
  rw [rounds_succ]
  go_wp2_with fail
  refine (gen_is _ _ _ _ HY.out _).mono ?_
  rintro e w2 ⟨rfl, hb2⟩
  have k3 := cell_at hb2 k2 (Nat.lt_of_lt_of_le (by simp) hb1.size)
  clear k1 k2
  cases y
  · go_wp2_with fail
    go_ret
    exact ⟨rfl, by repeat (first | exact Later.refl _ | assumption | apply Later.alloc | apply Later.drew | refine Later.trans ?_ (by assumption))⟩
  go_wp2_with fail
  rw [rounds_succ]
  go_wp2_with fail
  refine (rights_is _ _ _ _ HZ.out _).mono ?_
  rintro e w3 ⟨rfl, hb3⟩
  cases z
  · go_wp2_with fail
    go_ret
    exact ⟨rfl, by repeat (first | exact Later.refl _ | assumption | apply Later.alloc | apply Later.drew | refine Later.trans ?_ (by assumption))⟩
  go_wp2_with fail
  rw [rounds_succ]
  go_wp2_with fail
  go_ret
  exact ⟨rfl, by repeat (first | exact Later.refl _ | assumption | apply Later.alloc | apply Later.drew | refine Later.trans ?_ (by assumption))⟩
theorem Right_is (t g r : Int) (b : Bool) (hb : okH t g r = b) (w : World) : Calls Tryd.prog 12 #[.agg #[.int .i64 t, .int .u32 g, .int .u8 r]] w fun e w' => e = .returned (.bool b) ∧ Later w w' := by
  have HB := Lib.hid hb
  clear hb
  go_enter Tryd.func12, Tryd.ntmps12
  go_wp2_with fail
  refine (right_is _ _ _ _ HB.out _).mono ?_
  rintro e w1 ⟨rfl, hb1⟩
  go_wp2_with fail
  go_ret
  exact ⟨rfl, by repeat (first | exact Later.refl _ | assumption | apply Later.alloc | apply Later.drew | refine Later.trans ?_ (by assumption))⟩
theorem has_is (t g r q : Int) (b : Bool) (hb : (bits .and .u8 r q == q) = b) (w : World) : Calls Tryd.prog 31 #[.agg #[.int .i64 t, .int .u32 g, .int .u8 r], .int .u8 q] w fun e w' => e = .returned (.bool b) ∧ Later w w' := by
  go_enter Tryd.func31, Tryd.ntmps31
  go_wp2_with fail
  go_ret
  exact ⟨rfl, by repeat (first | exact Later.refl _ | assumption | apply Later.alloc | apply Later.drew | refine Later.trans ?_ (by assumption))⟩

end Go.Proofs.YtpfnccjfmbecfaaDoor
