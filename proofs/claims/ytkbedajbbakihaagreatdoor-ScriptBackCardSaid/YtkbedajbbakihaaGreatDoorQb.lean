/-
 Texts of this proof, put together (Ha, Hf, Hg, Hh, In, Rg, IvZ, Hi): each part's first words say what it holds. Conditions: as each part says.
-/
import Derived.Test.YtkbedajbbakihaaGreatDoorQa
import Derived.WalkKit
import Derived.WalkLawsBesides
import Derived.WalkSpells
import Derived.ProofKit
import Derived.Laws.BitsAllLaws
import Derived.Lib.Hide
import Derived.LoopN
import Derived.Handy
import Derived.MapKept
import Derived.Carry
import Derived.Shelf.Small.Wraps
import Derived.Lib.ItoaMem
import Derived.Lib.AppendIntMem
import Derived.Lib.ConvBytes
import Derived.BigCall
import Derived.BigGuard
import Derived.Lib.QuietBelow
import Derived.Deep.RegionHeld3
import Derived.LoopTactic
import Derived.Orders
import Derived.RangeFuncNested
import Derived.RangeFuncCalls
import Derived.RangeFuncLeaves
import Derived.RangeFuncBox
/-
 The walks of the small functions of handle. Conditions: the numbers are within their types.
-/
namespace Go.Proofs.YtkbedajbbakihaaGreatDoor
open Go.RowKit

theorem Later.reads {W w1 : World} (hb : Later W w1) : (∀ b o, b < W.heap.size → w1.cell? ⟨b, o, none⟩ = W.cell? ⟨b, o, none⟩) ∧ (∀ b o, b < W.heap.size → w1.frozen? ⟨b, o, none⟩ = W.frozen? ⟨b, o, none⟩) ∧ W.heap.size ≤ w1.heap.size :=
 ⟨fun b o h => Below.cell (p := ⟨b, o, none⟩) hb h, fun b o h => Below.frozen (p := ⟨b, o, none⟩) hb h, Below.size hb⟩

/-- valid -/
def okH (t g r : Int) : Bool := decide (1 ≤ t) && decide (t ≤ 16) && (decide (1 ≤ g) && (decide (1 ≤ r) && decide (r ≤ 7)))
theorem okH_iff (t g r : Int) : okH t g r = true ↔ (1 ≤ t ∧ t ≤ 16) ∧ 1 ≤ g ∧ 1 ≤ r ∧ r ≤ 7 := by simp [okH]

theorem tenant_is (t g r : Int) (b : Bool) (hb : decide (1 ≤ t ∧ t ≤ 16) = b) (w : World) : Calls Tryz.prog 183 #[.agg #[.int .i64 t, .int .u32 g, .int .u8 r]] w fun e w' => e = .returned (.bool b) ∧ Later w w' := by
 by_cases h1 : 1 ≤ t
 ·have hp : decide (t ≤ 16) = b := by rw [← hb]; simp [h1]
  clear hb
  go_enter Tryz.func183, Tryz.ntmps183
  go_wp2
  go_ret
  exact ⟨rfl, by repeat (first | exact Later.refl _ | assumption | apply Later.alloc | apply Later.drew | apply Later.drewN | refine Later.trans ?_ (by assumption))⟩
 ·obtain rfl : b = false := by rw [← hb]; simp [h1]
  clear hb
  go_enter Tryz.func183, Tryz.ntmps183
  go_wp2
  go_ret
  exact ⟨rfl, by repeat (first | exact Later.refl _ | assumption | apply Later.alloc | apply Later.drew | apply Later.drewN | refine Later.trans ?_ (by assumption))⟩
theorem gen_is (t g r : Int) (b : Bool) (hb : decide (1 ≤ g) = b) (w : World) : Calls Tryz.prog 184 #[.agg #[.int .i64 t, .int .u32 g, .int .u8 r]] w fun e w' => e = .returned (.bool b) ∧ Later w w' := by
 go_enter Tryz.func184, Tryz.ntmps184
 go_wp2
 go_ret
 exact ⟨rfl, by repeat (first | exact Later.refl _ | assumption | apply Later.alloc | apply Later.drew | apply Later.drewN | refine Later.trans ?_ (by assumption))⟩
theorem rights_is (t g r : Int) (b : Bool) (hb : decide (1 ≤ r ∧ r ≤ 7) = b) (w : World) : Calls Tryz.prog 185 #[.agg #[.int .i64 t, .int .u32 g, .int .u8 r]] w fun e w' => e = .returned (.bool b) ∧ Later w w' := by
 by_cases h1 : 1 ≤ r
 ·have hp : decide (r ≤ 7) = b := by rw [← hb]; simp [h1]
  clear hb
  go_enter Tryz.func185, Tryz.ntmps185
  go_wp2
  go_ret
  exact ⟨rfl, by repeat (first | exact Later.refl _ | assumption | apply Later.alloc | apply Later.drew | apply Later.drewN | refine Later.trans ?_ (by assumption))⟩
 ·obtain rfl : b = false := by rw [← hb]; simp [h1]
  clear hb
  go_enter Tryz.func185, Tryz.ntmps185
  go_wp2
  go_ret
  exact ⟨rfl, by repeat (first | exact Later.refl _ | assumption | apply Later.alloc | apply Later.drew | apply Later.drewN | refine Later.trans ?_ (by assumption))⟩
set_option maxHeartbeats 6400000 in
theorem right_is (t g r : Int) (b : Bool) (hb : okH t g r = b) (w : World) : Calls Tryz.prog 159 #[.agg #[.int .i64 t, .int .u32 g, .int .u8 r]] w fun e w' => e = .returned (.bool b) ∧ Later w w' := by
 obtain ⟨x, hx⟩ : ∃ x, decide (1 ≤ t ∧ t ≤ 16) = x := ⟨_, rfl⟩
 obtain ⟨y, hy⟩ : ∃ y, decide (1 ≤ g) = y := ⟨_, rfl⟩
 obtain ⟨z, hz⟩ : ∃ z, decide (1 ≤ r ∧ r ≤ 7) = z := ⟨_, rfl⟩
 obtain rfl : (x && (y && z)) = b := by rw [← hb, ← hx, ← hy, ← hz, okH]; simp
 have HX := Lib.hid hx
 have HY := Lib.hid hy
 have HZ := Lib.hid hz
 clear hb hx hy hz
 go_enter Tryz.func159, Tryz.ntmps159
 go_wp2_with fail
 refine wp_loop_rounds 4 ?_
 rw [rounds_succ]
 go_wp2_with fail
 refine (tenant_is _ _ _ _ HX.out _).mono ?_
 rintro e w1 ⟨rfl, hb1⟩
 have k1 := cell_at hb1 (p := ⟨w.heap.size + 1, 1, none⟩) (v := .func (.func 184) #[.agg #[.int .i64 t, .int .u32 g, .int .u8 r]] #[]) (by go_cell) (by simp)
 have k2 := cell_at hb1 (p := ⟨w.heap.size + 1, 2, none⟩) (v := .func (.func 185) #[.agg #[.int .i64 t, .int .u32 g, .int .u8 r]] #[]) (by go_cell) (by simp)
 cases x
 ·go_wp2_with fail
  go_ret
  exact ⟨rfl, by repeat (first | exact Later.refl _ | assumption | apply Later.alloc | apply Later.drew | apply Later.drewN | refine Later.trans ?_ (by assumption))⟩
 go_wp2_with fail
 rw [rounds_succ]
 go_wp2_with fail
 refine (gen_is _ _ _ _ HY.out _).mono ?_
 rintro e w2 ⟨rfl, hb2⟩
 have k3 := cell_at hb2 k2 (Nat.lt_of_lt_of_le (by simp) hb1.size)
 clear k1 k2
 cases y
 ·go_wp2_with fail
  go_ret
  exact ⟨rfl, by repeat (first | exact Later.refl _ | assumption | apply Later.alloc | apply Later.drew | apply Later.drewN | refine Later.trans ?_ (by assumption))⟩
 go_wp2_with fail
 rw [rounds_succ]
 go_wp2_with fail
 refine (rights_is _ _ _ _ HZ.out _).mono ?_
 rintro e w3 ⟨rfl, hb3⟩
 cases z
 ·go_wp2_with fail
  go_ret
  exact ⟨rfl, by repeat (first | exact Later.refl _ | assumption | apply Later.alloc | apply Later.drew | apply Later.drewN | refine Later.trans ?_ (by assumption))⟩
 go_wp2_with fail
 rw [rounds_succ]
 go_wp2_with fail
 go_ret
 exact ⟨rfl, by repeat (first | exact Later.refl _ | assumption | apply Later.alloc | apply Later.drew | apply Later.drewN | refine Later.trans ?_ (by assumption))⟩
theorem Right_is (t g r : Int) (b : Bool) (hb : okH t g r = b) (w : World) : Calls Tryz.prog 133 #[.agg #[.int .i64 t, .int .u32 g, .int .u8 r]] w fun e w' => e = .returned (.bool b) ∧ Later w w' := by
 have HB := Lib.hid hb
 clear hb
 go_enter Tryz.func133, Tryz.ntmps133
 go_wp2_with fail
 refine (right_is _ _ _ _ HB.out _).mono ?_
 rintro e w1 ⟨rfl, hb1⟩
 go_wp2_with fail
 go_ret
 exact ⟨rfl, by repeat (first | exact Later.refl _ | assumption | apply Later.alloc | apply Later.drew | apply Later.drewN | refine Later.trans ?_ (by assumption))⟩
theorem has_is (t g r q : Int) (b : Bool) (hb : (bits .and .u8 r q == q) = b) (w : World) : Calls Tryz.prog 161 #[.agg #[.int .i64 t, .int .u32 g, .int .u8 r], .int .u8 q] w fun e w' => e = .returned (.bool b) ∧ Later w w' := by
 go_enter Tryz.func161, Tryz.ntmps161
 go_wp2_with fail
 go_ret
 exact ⟨rfl, by repeat (first | exact Later.refl _ | assumption | apply Later.alloc | apply Later.drew | apply Later.drewN | refine Later.trans ?_ (by assumption))⟩

theorem seven (r : Int) (h : 1 ≤ r ∧ r ≤ 7) : r = 1 ∨ r = 2 ∨ r = 3 ∨ r = 4 ∨ r = 5 ∨ r = 6 ∨ r = 7 := by omega
theorem has_bit (r q : Int) (h : 1 ≤ r ∧ r ≤ 7) (hq : q = 1 ∨ q = 2 ∨ q = 4) : (bits .and .u8 r q == q) = decide (r / q % 2 = 1) := by
 rcases seven r h with rfl | rfl | rfl | rfl | rfl | rfl | rfl <;> rcases hq with rfl | rfl | rfl <;> rfl
theorem refRight_is (t g r : Int) (b : Bool) (r0 : 0 ≤ r) (r1 : r ≤ 255) (hb : okH t g r = b) (w : World) : Calls Tryz.prog 142 #[.agg #[.int .i64 t, .int .u32 g, .int .u8 r]] w fun e w' => e = .returned (.bool b) ∧ Later w w' := by
 have HB := Lib.hid hb
 clear hb
 by_cases h1 : ¬ 1 ≤ t
 ·obtain rfl : false = b := by rw [← HB.out, okH]; simp [h1]
  clear HB
  go_enter Tryz.func142, Tryz.ntmps142
  go_wp2
  go_ret
  exact ⟨rfl, by repeat (first | exact Later.refl _ | assumption | apply Later.alloc | apply Later.drew | apply Later.drewN | refine Later.trans ?_ (by assumption))⟩
 have h1 := Classical.not_not.1 h1
 by_cases h2 : ¬ t ≤ 16
 ·obtain rfl : false = b := by rw [← HB.out, okH]; simp [h2]
  clear HB
  go_enter Tryz.func142, Tryz.ntmps142
  go_wp2
  go_ret
  exact ⟨rfl, by repeat (first | exact Later.refl _ | assumption | apply Later.alloc | apply Later.drew | apply Later.drewN | refine Later.trans ?_ (by assumption))⟩
 have h2 := Classical.not_not.1 h2
 by_cases h3 : ¬ 1 ≤ g
 ·obtain rfl : false = b := by rw [← HB.out, okH]; simp [h3]
  clear HB
  go_enter Tryz.func142, Tryz.ntmps142
  go_wp2
  go_ret
  exact ⟨rfl, by repeat (first | exact Later.refl _ | assumption | apply Later.alloc | apply Later.drew | apply Later.drewN | refine Later.trans ?_ (by assumption))⟩
 have h3 := Classical.not_not.1 h3
 by_cases h4 : ¬ 1 ≤ r
 ·obtain rfl : false = b := by rw [← HB.out, okH]; simp [h4]
  clear HB
  go_enter Tryz.func142, Tryz.ntmps142
  go_wp2
  go_ret
  exact ⟨rfl, by repeat (first | exact Later.refl _ | assumption | apply Later.alloc | apply Later.drew | apply Later.drewN | refine Later.trans ?_ (by assumption))⟩
 have h4 := Classical.not_not.1 h4
 by_cases h5 : ¬ r ≤ 7
 ·obtain rfl : false = b := by rw [← HB.out, okH]; simp [h5]
  clear HB
  go_enter Tryz.func142, Tryz.ntmps142
  go_wp2
  go_ret
  exact ⟨rfl, by repeat (first | exact Later.refl _ | assumption | apply Later.alloc | apply Later.drew | apply Later.drewN | refine Later.trans ?_ (by assumption))⟩
 have h5 := Classical.not_not.1 h5
 ·obtain rfl : true = b := by rw [← HB.out, okH]; simp [h1, h2, h3, h4, h5]
  clear HB
  go_enter Tryz.func142, Tryz.ntmps142
  go_wp2
  go_ret
  exact ⟨rfl, by repeat (first | exact Later.refl _ | assumption | apply Later.alloc | apply Later.drew | apply Later.drewN | refine Later.trans ?_ (by assumption))⟩
theorem beq_dec (a b : Int) : (a == b) = decide (a = b) := by by_cases h : a = b <;> simp [h]

end Go.Proofs.YtkbedajbbakihaaGreatDoor

/-
 The reference's number: the decimal digits. Conditions: the number fits in 63 bits.
-/
namespace Go.Proofs.YtkbedajbbakihaaGreatDoor
open Go.RowKit Go.Sort Go.Lib

theorem str_app (l m : List UInt8) : (⟨l.toArray⟩ : ByteArray) ++ ⟨m.toArray⟩ = ⟨(l ++ m).toArray⟩ := by
 apply ByteArray.ext
 simp
theorem digits_le (u : Nat) (hu : u < 18446744073709551616) : (Lib.decDigits u).length ≤ 20 := by
 rw [Lib.decDigits_length]
 by_cases h0 : u = 0
 ·subst h0; rw [Lib.nDigits_small (by omega)]; omega
 ·have := Lib.numDigits_eq u (by omega) hu; split at this <;> omega

set_option maxRecDepth 100000 in
theorem number_is (u : Nat) (hu : u < 9223372036854775808) : ∀ w : World, Calls Tryz.prog 143 #[.int .i64 u] w fun e w' => e = .returned (.string ⟨(Lib.decDigits u).toArray⟩) ∧ Later w w' := by
 induction u using Nat.strongRecOn with
 | ind u ih =>
  intro w
  obtain ⟨n, hn⟩ : ∃ n : Int, n = (u : Int) := ⟨_, rfl⟩
  rw [← hn]
  have n0 : 0 ≤ n := by omega
  have n1 : n ≤ 9223372036854775807 := by omega
  have hcv : ∀ w : World, (convert 22 9 (.slice (some ⟨w.heap.size, 0, none⟩) 1 1)).run Tryz.prog (w.alloc (.cells #[.int .u8 (48 + n % 10)] 5)) = .ok (.string ⟨[UInt8.ofNat (48 + u % 10)].toArray⟩) (w.alloc (.cells #[.int .u8 (48 + n % 10)] 5)) := fun w => by
   refine run_convert_bytes_back (P := Tryz.prog) (w.alloc (.cells #[.int .u8 (48 + n % 10)] 5)) 22 9 5 ⟨w.heap.size, 0, none⟩ 1 [UInt8.ofNat (48 + u % 10)] Tryz.underlying22 Tryz.underlying5 Tryz.underlying9 (fun j hj => ?_)
   obtain rfl : j = 0 := by simpa using hj
   simp [Addr.add, hn]
   omega
  have HN := Lib.hid hn
  have HI := Lib.hid ih
  clear hn ih
  by_cases h10 : n ≤ 9
  ·have hc : ¬ (9 : Int) < n := by omega
   have ed : [UInt8.ofNat (48 + u % 10)] = Lib.decDigits u := by
    have := HN.out
    rw [Lib.decDigits, dif_pos (by omega), Nat.mod_eq_of_lt (by omega)]
   rw [← ed]
   clear hu ed
   go_enter Tryz.func143, Tryz.ntmps143
   go_wp2_with fail
   go_ret
   exact ⟨rfl, by repeat (first | exact Later.refl _ | assumption | apply Later.alloc | apply Later.drew | apply Later.drewN | refine Later.trans ?_ (by assumption))⟩
  ·have hq : n / 10 = ((u / 10 : Nat) : Int) := by have := HN.out; omega
   have hl := digits_le (u / 10) (by omega)
   have ed : Lib.decDigits u = Lib.decDigits (u / 10) ++ [UInt8.ofNat (48 + u % 10)] := by
    have := HN.out
    rw [Lib.decDigits, dif_neg (by omega)]
   rw [ed, ← str_app]
   have IH := Lib.hid (show ∀ w : World, Calls Tryz.prog 143 #[.int .i64 (n / 10)] w fun e w' => e = .returned (.string ⟨(Lib.decDigits (u / 10)).toArray⟩) ∧ Later w w' by
    rw [hq]; exact HI.out (u / 10) (by have := HN.out; omega) (by omega))
   obtain ⟨L, hL⟩ : ∃ L, L = (⟨(Lib.decDigits (u / 10)).toArray⟩ : ByteArray) := ⟨_, rfl⟩
   have hLs : L.size ≤ 20 := by rw [hL]; exact hl
   rw [← hL] at IH ⊢
   obtain ⟨D, hD⟩ : ∃ D, D = (⟨[UInt8.ofNat (48 + u % 10)].toArray⟩ : ByteArray) := ⟨_, rfl⟩
   have hDs : D.size = 1 := by rw [hD]; rfl
   rw [← hD] at hcv ⊢
   have hcat : ¬ 9223372036854775807 < L.size + D.size := by omega
   clear hl ed hq hu hL hD
   go_enter Tryz.func143, Tryz.ntmps143
   go_wp2_with fail
   refine (IH.out _).mono ?_
   rintro e w1 ⟨rfl, hb1⟩
   go_wp2_with fail
   go_ret
   exact ⟨rfl, by repeat (first | exact Later.refl _ | assumption | apply Later.alloc | apply Later.drew | apply Later.drewN | refine Later.trans ?_ (by assumption))⟩
end Go.Proofs.YtkbedajbbakihaaGreatDoor

/-
 strconv.FormatUint at base 10. Conditions: the table of powers of ten reads as the program's text lays it.
-/
namespace Go.Proofs.YtkbedajbbakihaaGreatDoor
open Go.RowKit Go.Sort Go.Lib

abbrev Tab (w : World) : Prop := Lib.TabIs Tryz.prog w "internal/strconv.uint64pow10" .u64 Lib.pow10Tab

theorem later_grow (w : World) (k : Nat) (os : Array Obj) : Later w (grow (w.drewN k) os) := Lib.below_grow w.heap.size w (Nat.le_refl _) k os

set_option maxHeartbeats 6400000 in
set_option maxRecDepth 100000 in
theorem formatUint_in (u : Nat) (hu64 : u < 18446744073709551616) (w : World) (htab : Tab w) :
  Calls Tryz.prog 139 #[.int .u64 u, .int .i64 10] w fun e w' => e = .returned (.string ⟨(Lib.decDigits u).toArray⟩) ∧ Later w w' := by
 by_cases hs : u < 100
 ·have iu : (u : Int) < 100 := by omega
  go_enter Tryz.func139, Tryz.ntmps139
  go_wp2_with (go_at_call 153; refine (Tryz.internal_strconv_small u hs _).mono ?_; rintro e w' ⟨rfl, rfl⟩)
  go_ret
  exact ⟨rfl, Later.refl _⟩
 ·have hu1 : 1 ≤ u := by omega
  have hnd20 : Lib.nDigits u ≤ 20 := by have := Lib.numDigits_eq u hu1 hu64; split at this <;> omega
  have hal : Tryz.prog.arrayLen 183 = 24 := by kernel_rfl
  have hsl : ∀ W, (Instr.sliceAt 183 (.pointer (some ⟨w.heap.size, 0, none⟩)) none (some (.int .i64 (Lib.nDigits u : Int))) none).run Tryz.prog W = .ok (.slice (some ⟨w.heap.size, 0, none⟩) (Lib.nDigits u) 24) W := fun W => by
   rw [run_sliceAt_array_h W 183 ⟨w.heap.size, 0, none⟩ (by simp [Program.arrayLen, Program.elem, Tryz.underlying183]) .i64 (Lib.nDigits u : Int) (by omega) (by rw [hal]; omega)]
   go_simp
  have hH0 := Lib.holds_zero0 w 183 (Lib.nDigits u) (by omega)
  have hfmt := Tryz.internal_strconv_formatBase10 w.heap.size 0 24 u (Array.replicate (Lib.nDigits u) 0) (w.alloc (.cells Lib.zeros24 183)) hH0 (by rw [Array.size_replicate]; exact Lib.lt_pow_nDigits u) hu64 (by rw [Array.size_replicate]; omega)
  rw [Array.size_replicate] at hfmt
  have HH0 := Lib.hid hH0
  have iu : (100 : Int) ≤ (u : Int) := by omega
  clear hH0 hal
  go_enter Tryz.func139, Tryz.ntmps139
  go_wp2_with (go_at_call 154; refine (Tryz.internal_strconv_numDigits u hu1 hu64 _ (Lib.tabIs_alloc htab _)).mono ?_; rintro e w' ⟨rfl, rfl⟩)
  go_at_call 155
  refine hfmt.mono ?_
  rintro e w' ⟨rfl, k, v', dk, rfl, hF⟩
  have hcv : (convert 22 9 (.slice (some ⟨w.heap.size, 0, none⟩) (Lib.nDigits u) 24)).run Tryz.prog ((putRow (fun (b : UInt8) => Value.int .u8 (b.toNat : Int)) (w.alloc (.cells Lib.zeros24 183)) w.heap.size 0 dk).drewN k) = .ok (.string ⟨(Lib.decDigits u).toArray⟩) ((putRow (fun (b : UInt8) => Value.int .u8 (b.toNat : Int)) (w.alloc (.cells Lib.zeros24 183)) w.heap.size 0 dk).drewN k) := by
   have h := run_convert_bytes_back (P := Tryz.prog) ((putRow (fun (b : UInt8) => Value.int .u8 (b.toNat : Int)) (w.alloc (.cells Lib.zeros24 183)) w.heap.size 0 dk).drewN k) 22 9 5 ⟨w.heap.size, 0, none⟩ 24 (Lib.decDigits u) Tryz.underlying22 Tryz.underlying5 Tryz.underlying9 (fun j hj => by
    rw [Lib.row_is_numeral hF j hj, Lib.add_plain, World.cell?_drewN]
    exact cell?_putRow (fun (b : UInt8) => Value.int .u8 (b.toNat : Int)) _ w.heap.size 0 _ dk HH0.out (by rw [hF.size, Array.size_replicate]) j (by rw [hF.size]; rw [Lib.decDigits_length] at hj; exact hj))
   rw [Lib.decDigits_length] at h
   exact h
  go_wp2
  go_ret
  obtain ⟨os, eo⟩ := Lib.fin_at w (.cells Lib.zeros24 183) dk k 0
  exact ⟨rfl, by rw [eo]; exact later_grow w k os⟩

theorem formatUint_any (u : Nat) (hu64 : u < 18446744073709551616) (w : World) (htab : Tab w) :
  Calls Tryz.prog 111 #[.int .u64 u, .int .i64 10] w fun e w' => e = .returned (.string ⟨(Lib.decDigits u).toArray⟩) ∧ Later w w' := by
 go_enter Tryz.func111, Tryz.ntmps111
 go_wp2_with (go_at_call 139; refine (formatUint_in u hu64 _ htab).mono ?_; rintro e w' ⟨rfl, hb⟩)
 go_ret
 exact ⟨rfl, hb⟩

end Go.Proofs.YtkbedajbbakihaaGreatDoor

/-
 The text of a handle: the program's Show. Conditions: the handle is valid or the numbers are within their types; the table of powers of ten reads as laid.
-/
namespace Go.Proofs.YtkbedajbbakihaaGreatDoor
open Go.RowKit Go.Sort Go.Lib

theorem var_later {w w' : World} {n : String} {cs : Array Value} (hl : Later w w') (h : w.var? Tryz.prog n = some cs) : w'.var? Tryz.prog n = some cs := by
 have h0 := h
 unfold World.var? at h0
 rcases hg : Tryz.prog.globalNamed n with _ | g
 ·rw [hg] at h0; cases h0
 ·rw [hg, Option.bind_some] at h0
  have hlt : g < w.heap.size := by
   rcases Nat.lt_or_ge g w.heap.size with hlt | hge
   ·exact hlt
   ·rw [Array.getElem?_eq_none hge] at h0; cases h0
  exact var?_below hl hg hlt h
theorem Tab.later {w w' : World} (h : Tab w) (hl : Later w w') : Tab w' := var_later hl h
theorem quiet_later {f : FuncId} {args : Array Value} {w : World} {d : Nat} {os : Array Obj} {v : Value}
  (h : Calls Tryz.prog f args (grow (redrawn w d) os) fun e w' => e = .returned v ∧ Later (grow (redrawn w d) os) w') : Calls Tryz.prog f args (grow (redrawn w d) os) fun e w'' => e = .returned v ∧ ∃ p : Regrown, w'' = grow (redrawn w p.d) p.os :=
 Calls.regrown_of h

/-- the letters of the rights -/
def lettersR (r : Int) : List UInt8 := (if r % 2 = 1 then [114] else []) ++ ((if r / 2 % 2 = 1 then [119] else []) ++ (if r / 4 % 2 = 1 then [115] else []))
/-- the text of a handle -/
def showH (t g : Nat) (r : Int) : List UInt8 := Lib.decDigits t ++ (46 :: (Lib.decDigits g ++ (46 :: lettersR r)))

theorem letters_is (w : World) : Calls Tryz.prog 160 #[] w fun e w' => e = .returned (.agg #[.string ⟨#[114]⟩, .string ⟨#[119]⟩, .string ⟨#[115]⟩]) ∧ Later w w' := by
 go_enter Tryz.func160, Tryz.ntmps160
 go_wp2_with fail
 exact bodyPost_ret (v := .agg #[.string ⟨#[114]⟩, .string ⟨#[119]⟩, .string ⟨#[115]⟩]) (by simp [results, Tryz.results160, go_sem]) rfl ⟨rfl, by repeat (first | exact Later.refl _ | assumption | apply Later.alloc | apply Later.drew | apply Later.drewN | refine Later.trans ?_ (by assumption))⟩
theorem join3 (L : Nat) (a b c : List UInt8) (V : World) (h0 : V.cell? ⟨L, 0, none⟩ = some (.string ⟨a.toArray⟩)) (h1 : V.cell? ⟨L, 1, none⟩ = some (.string ⟨b.toArray⟩)) (h2 : V.cell? ⟨L, 2, none⟩ = some (.string ⟨c.toArray⟩)) (hL : L < V.heap.size) (hlen : a.length + b.length + c.length ≤ 1000) :
  Calls Tryz.prog 116 #[.slice (some ⟨L, 0, none⟩) 3 3, .string ⟨#[46]⟩] V fun e w' => e = .returned (.string ⟨(a ++ (46 :: (b ++ (46 :: c)))).toArray⟩) ∧ Later V w' := by
 have hj : Lib.join ([(⟨a.toArray⟩ : ByteArray), ⟨b.toArray⟩, ⟨c.toArray⟩].map (·.data.toList)) (⟨#[46]⟩ : ByteArray).data.toList = a ++ (46 :: (b ++ (46 :: c))) := by simp [Lib.join]
 have h := Tryz.strings_Join L 0 3 [⟨a.toArray⟩, ⟨b.toArray⟩, ⟨c.toArray⟩] ⟨#[46]⟩ V (fun j x hx => by
  rcases j with _ | _ | _ | j
  ·simp at hx; subst hx; exact h0
  ·simp at hx; subst hx; exact h1
  ·simp at hx; subst hx; exact h2
  ·simp at hx) hL (by simp) (by simp) (by rw [hj]; simp; omega)
 rw [hj] at h
 exact h

def lettersK (r : Int) (k : Nat) : List UInt8 := (if 0 < k ∧ r % 2 = 1 then [114] else []) ++ ((if 1 < k ∧ r / 2 % 2 = 1 then [119] else []) ++ (if 2 < k ∧ r / 4 % 2 = 1 then [115] else []))
theorem lettersK_len (r : Int) (k : Nat) : (lettersK r k).length ≤ 3 := by
 unfold lettersK
 simp only [List.length_append]
 repeat' split <;> simp
/-- what the loop of text keeps: the handle's box, and the three texts -/
def TInv (w V : World) (B L : Nat) (x y r : Int) (dt dg acc : List UInt8) : Prop :=
 Later w V ∧ (B < L ∧ w.heap.size ≤ L ∧ L < V.heap.size) ∧ (V.cell? ⟨B, 0, none⟩ = some (.int .i64 x) ∧ V.cell? ⟨B, 1, none⟩ = some (.int .u32 y) ∧ V.cell? ⟨B, 2, none⟩ = some (.int .u8 r)) ∧
 (V.cell? ⟨L, 0, none⟩ = some (.string ⟨dt.toArray⟩) ∧ V.cell? ⟨L, 1, none⟩ = some (.string ⟨dg.toArray⟩) ∧ V.cell? ⟨L, 2, none⟩ = some (.string ⟨acc.toArray⟩)) ∧ V.frozen? ⟨L, 2, none⟩ = false
theorem TInv.later {w V U : World} {B L : Nat} {x y r : Int} {dt dg acc : List UInt8} (h : TInv w V B L x y r dt dg acc) (hl : Later V U) : TInv w U B L x y r dt dg acc := by
 obtain ⟨h1, ⟨h2, h3, h4⟩, ⟨a0, a1, a2⟩, ⟨b0, b1, b2⟩, h5⟩ := h
 have hB : B < V.heap.size := Nat.lt_trans h2 h4
 exact ⟨h1.trans hl, ⟨h2, h3, Nat.lt_of_lt_of_le h4 hl.size⟩, ⟨cell_at hl a0 hB, cell_at hl a1 hB, cell_at hl a2 hB⟩, ⟨cell_at hl b0 h4, cell_at hl b1 h4, cell_at hl b2 h4⟩, (hl.reads.2.1 L 2 h4).trans h5⟩
theorem TInv.store {w V : World} {B L : Nat} {x y r : Int} {dt dg acc : List UInt8} (h : TInv w V B L x y r dt dg acc) (c : UInt8) (A : ByteArray) (hA : A = ⟨acc.toArray⟩) : TInv w (V.setCell ⟨L, 2, none⟩ (.string (A ++ ⟨#[c]⟩))) B L x y r dt dg (acc ++ [c]) := by
 obtain ⟨h1, ⟨h2, h3, h4⟩, ⟨a0, a1, a2⟩, ⟨b0, b1, b2⟩, h5⟩ := h
 have hne : B ≠ L := by omega
 have e : A ++ ⟨#[c]⟩ = (⟨(acc ++ [c]).toArray⟩ : ByteArray) := by rw [hA]; exact str_app acc [c]
 rw [e]
 refine ⟨h1.setCell _ _ h3, ⟨h2, h3, by simpa using h4⟩, ⟨?_, ?_, ?_⟩, ⟨?_, ?_, ?_⟩, ?_⟩
 ·exact (World.cell?_setCell_other V _ _ _ (by intro h; injection h with h; omega)).trans a0
 ·exact (World.cell?_setCell_other V _ _ _ (by intro h; injection h with h; omega)).trans a1
 ·exact (World.cell?_setCell_other V _ _ _ (by intro h; injection h with h; omega)).trans a2
 ·exact (World.cell?_setCell_other V _ _ _ (by simp)).trans b0
 ·exact (World.cell?_setCell_other V _ _ _ (by simp)).trans b1
 ·exact World.cell?_setCell_same V _ _ b2
 ·simpa using h5

set_option maxRecDepth 100000 in
set_option maxHeartbeats 6400000 in
theorem text_is (t g : Nat) (r : Int) (w : World) (ht : t ≤ 16) (hg : g ≤ 4294967295) (r1 : 1 ≤ r) (r7 : r ≤ 7) (htab : Tab w) :
  Calls Tryz.prog 134 #[.agg #[.int .i64 t, .int .u32 g, .int .u8 r]] w fun e w' => e = .returned (.string ⟨(showH t g r).toArray⟩) ∧ Later w w' := by
 have hI : ∀ w1 : World, Calls Tryz.prog 69 #[.int .i64 t] w1 fun e w' => e = .returned (.string ⟨(Lib.decDigits t).toArray⟩) ∧ w' = w1 := fun w1 => Tryz.strconv_Itoa_small t (by omega) w1
 have hF : ∀ w1 : World, Tab w1 → Calls Tryz.prog 111 #[.int .u64 g, .int .i64 10] w1 fun e w' => e = .returned (.string ⟨(Lib.decDigits g).toArray⟩) ∧ Later w1 w' := fun w1 h1 => formatUint_any g (by omega) w1 h1
 obtain ⟨x, hx⟩ : ∃ x : Int, x = (t : Int) := ⟨_, rfl⟩
 obtain ⟨y, hy⟩ : ∃ y : Int, y = (g : Int) := ⟨_, rfl⟩
 have y0 : 0 ≤ y := by omega
 have y1 : y ≤ 4294967295 := by omega
 rw [← hx, ← hy]
 rw [← hx] at hI
 rw [← hy] at hF
 have hwr : IntKind.u64.wrap y = y := by rw [IntKind.wrap_u64]; omega
 have HWR := Lib.hid hwr
 have HLEN := Lib.hid (show (Lib.decDigits t).length + (Lib.decDigits g).length ≤ 40 by have h1 := digits_le t (by omega); have h2 := digits_le g (by omega); omega)
 clear ht hg hx hy hwr
 go_enter Tryz.func134, Tryz.ntmps134
 go_wp2_with fail
 obtain ⟨W, hW⟩ : ∃ W, w.alloc (Obj.cells #[Value.int IntKind.i64 x, Value.int IntKind.u32 y, Value.int IntKind.u8 r] 168) = W := ⟨_, rfl⟩
 have k0 : W.cell? ⟨w.heap.size, 0, none⟩ = some (.int .i64 x) := by rw [← hW]; simp
 have k1 : W.cell? ⟨w.heap.size, 1, none⟩ = some (.int .u32 y) := by rw [← hW]; simp
 have k2 : W.cell? ⟨w.heap.size, 2, none⟩ = some (.int .u8 r) := by rw [← hW]; simp
 have hlW : Later w W := by rw [← hW]; exact (Later.refl w).alloc _
 have hWs : w.heap.size < W.heap.size := by rw [← hW]; simp
 have hTW : Tab W := htab.later hlW
 rw [hW]
 clear hW htab
 have HF : ∀ w1 : World, (Later W w1 ∧ w1.cell? ⟨w.heap.size, 0, none⟩ = some (.int .i64 x) ∧ w1.cell? ⟨w.heap.size, 1, none⟩ = some (.int .u32 y)) → Calls Tryz.prog 111 #[.int .u64 (IntKind.u64.wrap y), .int .i64 10] w1 fun e w' => e = .returned (.string ⟨(Lib.decDigits g).toArray⟩) ∧ (Later W w' ∧ w'.cell? ⟨w.heap.size, 0, none⟩ = some (.int .i64 x) ∧ w'.cell? ⟨w.heap.size, 1, none⟩ = some (.int .u32 y)) := fun w1 h1 => by
  rw [HWR.out]
  exact (hF w1 (hTW.later h1.1)).mono fun e w' h => ⟨h.1, h1.1.trans h.2, cell_at h.2 h1.2.1 (Nat.lt_of_lt_of_le hWs h1.1.size), cell_at h.2 h1.2.2 (Nat.lt_of_lt_of_le hWs h1.1.size)⟩
 have HD : ∀ w1 : World, (Later W w1 ∧ w1.cell? ⟨w.heap.size, 0, none⟩ = some (.int .i64 x) ∧ w1.cell? ⟨w.heap.size, 1, none⟩ = some (.int .u32 y)) → (Later W w1.drew ∧ w1.drew.cell? ⟨w.heap.size, 0, none⟩ = some (.int .i64 x) ∧ w1.drew.cell? ⟨w.heap.size, 1, none⟩ = some (.int .u32 y)) := fun w1 h => ⟨h.1.drew, h.2⟩
 have HA : ∀ (w1 : World) (o : Obj), (Later W w1 ∧ w1.cell? ⟨w.heap.size, 0, none⟩ = some (.int .i64 x) ∧ w1.cell? ⟨w.heap.size, 1, none⟩ = some (.int .u32 y)) → (Later W (w1.alloc o) ∧ (w1.alloc o).cell? ⟨w.heap.size, 0, none⟩ = some (.int .i64 x) ∧ (w1.alloc o).cell? ⟨w.heap.size, 1, none⟩ = some (.int .u32 y)) := fun w1 o h => ⟨h.1.alloc o, cell_at ((Later.refl w1).alloc o) h.2.1 (Nat.lt_of_lt_of_le hWs h.1.size), cell_at ((Later.refl w1).alloc o) h.2.2 (Nat.lt_of_lt_of_le hWs h.1.size)⟩
 have HW : Later W W := Later.refl W
 clear hF
 go_region_held3 (fun w' => Later W w' ∧ w'.cell? ⟨w.heap.size, 0, none⟩ = some (.int .i64 x) ∧ w'.cell? ⟨w.heap.size, 1, none⟩ = some (.int .u32 y)) (first | assumption | exact ⟨HW, k0, k1⟩ | (refine HD _ ?_; assumption) | exact HD _ ⟨HW, k0, k1⟩ | (refine HA _ _ ?_; first | assumption | exact ⟨HW, k0, k1⟩ | exact HD _ ⟨HW, k0, k1⟩)) (first | (go_at_call 69; refine (hI _).mono ?_; rintro e w' ⟨rfl, rfl⟩) | (go_at_call 111; refine (HF _ ?_).mono ?_; (first | assumption | exact ⟨HW, k0, k1⟩ | (refine HD _ ?_; assumption) | exact HD _ ⟨HW, k0, k1⟩); rintro e w' ⟨rfl, hS⟩))
 rename_i hHeld
 have LW := hS.1
 have m0 := hS.2.1
 have m1 := hS.2.2
 have m2 := cell_at hS.1 k2 hWs
 obtain ⟨L, hL⟩ : ∃ L, w'.heap.size = L := ⟨_, rfl⟩
 obtain ⟨V, hV⟩ : ∃ V, w'.alloc (Obj.cells #[Value.string { data := (Lib.decDigits t).toArray }, Value.string { data := (Lib.decDigits g).toArray }, Value.string { data := #[] }] 9) = V := ⟨_, rfl⟩
 have hwL : w.heap.size < L := by rw [← hL]; exact Nat.lt_of_lt_of_le hWs LW.size
 have v2 : V.cell? ⟨w.heap.size, 2, none⟩ = some (.int .u8 r) := by rw [← hV]; exact cell_at ((Later.refl w').alloc _) m2 (by rw [hL]; exact hwL)
 have v0 : V.cell? ⟨w.heap.size, 0, none⟩ = some (.int .i64 x) := by rw [← hV]; exact cell_at ((Later.refl w').alloc _) m0 (by rw [hL]; exact hwL)
 have v1 : V.cell? ⟨w.heap.size, 1, none⟩ = some (.int .u32 y) := by rw [← hV]; exact cell_at ((Later.refl w').alloc _) m1 (by rw [hL]; exact hwL)
 have s0 : V.cell? ⟨L, 0, none⟩ = some (.string ⟨(Lib.decDigits t).toArray⟩) := by rw [← hV, ← hL]; simp
 have s1 : V.cell? ⟨L, 1, none⟩ = some (.string ⟨(Lib.decDigits g).toArray⟩) := by rw [← hV, ← hL]; simp
 have s2 : V.cell? ⟨L, 2, none⟩ = some (.string ⟨#[]⟩) := by rw [← hV, ← hL]; simp
 have sf : V.frozen? ⟨L, 2, none⟩ = false := by rw [← hV, ← hL]; simp
 have hLV : L < V.heap.size := by rw [← hV, ← hL]; simp
 have hlV : Later w V := by rw [← hV]; exact (hlW.trans LW).alloc _
 rw [hV, hL]
 clear hHeld hS HW LW m0 m1 m2 hV hL HWR hTW k0 k1 k2 hlW hWs
 go_wp2_with fail
 refine (letters_is _).mono ?_
 rintro e w2 ⟨rfl, hb2⟩
 go_wp2_with fail
 have hI3 : TInv w w2 w.heap.size L x y r (Lib.decDigits t) (Lib.decDigits g) (lettersK r 0) := TInv.later ⟨hlV, ⟨hwL, Nat.le_of_lt hwL, hLV⟩, ⟨v0, v1, v2⟩, ⟨s0, s1, by simpa [lettersK] using s2⟩, sf⟩ hb2
 have HR := Lib.hid (And.intro r1 r7)
 have ix0 : ∀ W : World, (Instr.index 191 (.agg #[.string ⟨#[114]⟩, .string ⟨#[119]⟩, .string ⟨#[115]⟩]) (.int .i64 0)).run Tryz.prog W = .ok (.string ⟨#[114]⟩) W := fun W => by kernel_rfl
 have ix1 : ∀ W : World, (Instr.index 191 (.agg #[.string ⟨#[114]⟩, .string ⟨#[119]⟩, .string ⟨#[115]⟩]) (.int .i64 1)).run Tryz.prog W = .ok (.string ⟨#[119]⟩) W := fun W => by kernel_rfl
 have ix2 : ∀ W : World, (Instr.index 191 (.agg #[.string ⟨#[114]⟩, .string ⟨#[119]⟩, .string ⟨#[115]⟩]) (.int .i64 2)).run Tryz.prog W = .ok (.string ⟨#[115]⟩) W := fun W => by kernel_rfl
 have mixed : Tryz.prog.follows .mixedOrders = true := by kernel_rfl
 clear hb2 hlV hwL hLV v0 v1 v2 s0 s1 s2 sf r1 r7 y0 y1
 go_loopw [17] (fun i wr => ∃ k : Nat, k ≤ 3 ∧ i = .int .i64 k ∧ TInv w wr w.heap.size L x y r (Lib.decDigits t) (Lib.decDigits g) (lettersK r k)) (fun i _ => 3 - (RowKit.intOf i).toNat)
 case atStart => exact ⟨0, by omega, rfl, hI3⟩
 case round =>
  obtain ⟨k, hk, rfl, hI⟩ := hrel
  rename World => wk
  clear hI3
  have hI' := hI
  obtain ⟨h1, ⟨h2, h3, h4⟩, ⟨a0, a1, a2⟩, ⟨b0, b1, b2⟩, h5⟩ := hI'
  have hk' : k = 0 ∨ k = 1 ∨ k = 2 ∨ k = 3 := by omega
  rcases hk' with rfl | rfl | rfl | rfl
  ·obtain ⟨p, hp⟩ : ∃ p, (bits .and .u8 r 1 == 1) = p := ⟨_, rfl⟩
   have hbit := has_bit r 1 HR.out (by omega)
   have HP := Lib.hid hp
   have HPB := Lib.hid (show decide (r % 2 = 1) = p by rw [hbit] at hp; simpa using hp)
   clear hp hbit
   obtain ⟨A, hA⟩ : ∃ A, A = (⟨(lettersK r 0).toArray⟩ : ByteArray) := ⟨_, rfl⟩
   have hcat : ¬ 9223372036854775807 < A.size + ByteArray.size ⟨#[114]⟩ := by
    have : A.size ≤ 3 := by
     rw [hA]
     show (lettersK r 0).length ≤ 3
     unfold lettersK
     simp only [List.length_append]
     repeat' split <;> simp
    have e1 : ByteArray.size ⟨#[114]⟩ = 1 := rfl
    omega
   rw [← hA] at b2
   have HA := Lib.hid hA
   clear hA
   cases p
   ·have c31 := fun d os => quiet_later (has_is x y r 1 false HP.out (grow (redrawn wk d) os))
    have z0 := cell_regrown a0
    have z1 := cell_regrown a1
    have z2 := cell_regrown a2
    go_wp2_with fail
    refine wp_region_quiet_below mixed (by kernel_rfl) ?_
    repeat (quiet_step (exact c31 _ _))
    refine wpQuiet_nil ?_
    intro _ hw'
    obtain ⟨⟨dq, osq⟩, hw''⟩ := hw'
    subst hw''
    have hJ := hI.later (below_regrown wk dq osq)
    have e2 := cell_regrown b2 dq osq
    have e5 : (grow (redrawn wk dq) osq).frozen? ⟨L, 2, none⟩ = false := hJ.2.2.2.2
    clear z0 z1 z2 c31
    generalize grow (redrawn wk dq) osq = U at *
    go_wp2_with fail
    go_roundw
    case rel =>
     refine ⟨1, by omega, rfl, ?_⟩
     have e : lettersK r 1 = lettersK r 0 := by
      have := of_decide_eq_false HPB.out
      simp [lettersK, this]
     rw [e]
     exact hJ
    case measure => simp [RowKit.intOf]
   ·have c31 := fun d os => quiet_later (has_is x y r 1 true HP.out (grow (redrawn wk d) os))
    have z0 := cell_regrown a0
    have z1 := cell_regrown a1
    have z2 := cell_regrown a2
    go_wp2_with fail
    refine wp_region_quiet_below mixed (by kernel_rfl) ?_
    repeat (quiet_step (exact c31 _ _))
    refine wpQuiet_nil ?_
    intro _ hw'
    obtain ⟨⟨dq, osq⟩, hw''⟩ := hw'
    subst hw''
    have hJ := hI.later (below_regrown wk dq osq)
    have e2 := cell_regrown b2 dq osq
    have e5 : (grow (redrawn wk dq) osq).frozen? ⟨L, 2, none⟩ = false := hJ.2.2.2.2
    clear z0 z1 z2 c31
    generalize grow (redrawn wk dq) osq = U at *
    go_wp2_with fail
    go_roundw
    case rel =>
     refine ⟨1, by omega, rfl, ?_⟩
     have e : lettersK r 1 = lettersK r 0 ++ [114] := by
      have := of_decide_eq_true HPB.out
      simp [lettersK, this]
     rw [e]
     exact hJ.store 114 A HA.out
    case measure => simp [RowKit.intOf]
  ·obtain ⟨p, hp⟩ : ∃ p, (bits .and .u8 r 2 == 2) = p := ⟨_, rfl⟩
   have hbit := has_bit r 2 HR.out (by omega)
   have HP := Lib.hid hp
   have HPB := Lib.hid (show decide (r / 2 % 2 = 1) = p by rw [hbit] at hp; simpa using hp)
   clear hp hbit
   obtain ⟨A, hA⟩ : ∃ A, A = (⟨(lettersK r 1).toArray⟩ : ByteArray) := ⟨_, rfl⟩
   have hcat : ¬ 9223372036854775807 < A.size + ByteArray.size ⟨#[119]⟩ := by
    have : A.size ≤ 3 := by
     rw [hA]
     show (lettersK r 1).length ≤ 3
     unfold lettersK
     simp only [List.length_append]
     repeat' split <;> simp
    have e1 : ByteArray.size ⟨#[119]⟩ = 1 := rfl
    omega
   rw [← hA] at b2
   have HA := Lib.hid hA
   clear hA
   cases p
   ·have c31 := fun d os => quiet_later (has_is x y r 2 false HP.out (grow (redrawn wk d) os))
    have z0 := cell_regrown a0
    have z1 := cell_regrown a1
    have z2 := cell_regrown a2
    go_wp2_with fail
    refine wp_region_quiet_below mixed (by kernel_rfl) ?_
    repeat (quiet_step (exact c31 _ _))
    refine wpQuiet_nil ?_
    intro _ hw'
    obtain ⟨⟨dq, osq⟩, hw''⟩ := hw'
    subst hw''
    have hJ := hI.later (below_regrown wk dq osq)
    have e2 := cell_regrown b2 dq osq
    have e5 : (grow (redrawn wk dq) osq).frozen? ⟨L, 2, none⟩ = false := hJ.2.2.2.2
    clear z0 z1 z2 c31
    generalize grow (redrawn wk dq) osq = U at *
    go_wp2_with fail
    go_roundw
    case rel =>
     refine ⟨2, by omega, rfl, ?_⟩
     have e : lettersK r 2 = lettersK r 1 := by
      have := of_decide_eq_false HPB.out
      simp [lettersK, this]
     rw [e]
     exact hJ
    case measure => simp [RowKit.intOf]
   ·have c31 := fun d os => quiet_later (has_is x y r 2 true HP.out (grow (redrawn wk d) os))
    have z0 := cell_regrown a0
    have z1 := cell_regrown a1
    have z2 := cell_regrown a2
    go_wp2_with fail
    refine wp_region_quiet_below mixed (by kernel_rfl) ?_
    repeat (quiet_step (exact c31 _ _))
    refine wpQuiet_nil ?_
    intro _ hw'
    obtain ⟨⟨dq, osq⟩, hw''⟩ := hw'
    subst hw''
    have hJ := hI.later (below_regrown wk dq osq)
    have e2 := cell_regrown b2 dq osq
    have e5 : (grow (redrawn wk dq) osq).frozen? ⟨L, 2, none⟩ = false := hJ.2.2.2.2
    clear z0 z1 z2 c31
    generalize grow (redrawn wk dq) osq = U at *
    go_wp2_with fail
    go_roundw
    case rel =>
     refine ⟨2, by omega, rfl, ?_⟩
     have e : lettersK r 2 = lettersK r 1 ++ [119] := by
      have := of_decide_eq_true HPB.out
      simp [lettersK, this]
     rw [e]
     exact hJ.store 119 A HA.out
    case measure => simp [RowKit.intOf]
  ·obtain ⟨p, hp⟩ : ∃ p, (bits .and .u8 r 4 == 4) = p := ⟨_, rfl⟩
   have hbit := has_bit r 4 HR.out (by omega)
   have HP := Lib.hid hp
   have HPB := Lib.hid (show decide (r / 4 % 2 = 1) = p by rw [hbit] at hp; simpa using hp)
   clear hp hbit
   obtain ⟨A, hA⟩ : ∃ A, A = (⟨(lettersK r 2).toArray⟩ : ByteArray) := ⟨_, rfl⟩
   have hcat : ¬ 9223372036854775807 < A.size + ByteArray.size ⟨#[115]⟩ := by
    have : A.size ≤ 3 := by
     rw [hA]
     show (lettersK r 2).length ≤ 3
     unfold lettersK
     simp only [List.length_append]
     repeat' split <;> simp
    have e1 : ByteArray.size ⟨#[115]⟩ = 1 := rfl
    omega
   rw [← hA] at b2
   have HA := Lib.hid hA
   clear hA
   cases p
   ·have c31 := fun d os => quiet_later (has_is x y r 4 false HP.out (grow (redrawn wk d) os))
    have z0 := cell_regrown a0
    have z1 := cell_regrown a1
    have z2 := cell_regrown a2
    go_wp2_with fail
    refine wp_region_quiet_below mixed (by kernel_rfl) ?_
    repeat (quiet_step (exact c31 _ _))
    refine wpQuiet_nil ?_
    intro _ hw'
    obtain ⟨⟨dq, osq⟩, hw''⟩ := hw'
    subst hw''
    have hJ := hI.later (below_regrown wk dq osq)
    have e2 := cell_regrown b2 dq osq
    have e5 : (grow (redrawn wk dq) osq).frozen? ⟨L, 2, none⟩ = false := hJ.2.2.2.2
    clear z0 z1 z2 c31
    generalize grow (redrawn wk dq) osq = U at *
    go_wp2_with fail
    go_roundw
    case rel =>
     refine ⟨3, by omega, rfl, ?_⟩
     have e : lettersK r 3 = lettersK r 2 := by
      have := of_decide_eq_false HPB.out
      simp [lettersK, this]
     rw [e]
     exact hJ
    case measure => simp [RowKit.intOf]
   ·have c31 := fun d os => quiet_later (has_is x y r 4 true HP.out (grow (redrawn wk d) os))
    have z0 := cell_regrown a0
    have z1 := cell_regrown a1
    have z2 := cell_regrown a2
    go_wp2_with fail
    refine wp_region_quiet_below mixed (by kernel_rfl) ?_
    repeat (quiet_step (exact c31 _ _))
    refine wpQuiet_nil ?_
    intro _ hw'
    obtain ⟨⟨dq, osq⟩, hw''⟩ := hw'
    subst hw''
    have hJ := hI.later (below_regrown wk dq osq)
    have e2 := cell_regrown b2 dq osq
    have e5 : (grow (redrawn wk dq) osq).frozen? ⟨L, 2, none⟩ = false := hJ.2.2.2.2
    clear z0 z1 z2 c31
    generalize grow (redrawn wk dq) osq = U at *
    go_wp2_with fail
    go_roundw
    case rel =>
     refine ⟨3, by omega, rfl, ?_⟩
     have e : lettersK r 3 = lettersK r 2 ++ [115] := by
      have := of_decide_eq_true HPB.out
      simp [lettersK, this]
     rw [e]
     exact hJ.store 115 A HA.out
    case measure => simp [RowKit.intOf]
  ·have hlen : (Lib.decDigits t).length + (Lib.decDigits g).length + (lettersK r 3).length ≤ 1000 := by
    have h1 := HLEN.out
    have h2 := lettersK_len r 3
    omega
   have hs3 : showH t g r = Lib.decDigits t ++ (46 :: (Lib.decDigits g ++ (46 :: lettersK r 3))) := by simp [showH, lettersK, lettersR]
   have hJ := join3 L (Lib.decDigits t) (Lib.decDigits g) (lettersK r 3) wk b0 b1 b2 h4 hlen
   rw [← hs3] at hJ
   clear hlen hs3
   go_wp2_with fail
   refine hJ.mono ?_
   rintro e w3 ⟨rfl, hb3⟩
   go_wp2_with fail
   go_ret
   exact ⟨rfl, h1.trans hb3⟩

theorem Show_yes (t g : Nat) (r : Int) (w : World) (ho : okH t g r = true) (hg : g ≤ 4294967295) (htab : Tab w) :
  Calls Tryz.prog 89 #[.agg #[.int .i64 t, .int .u32 g, .int .u8 r]] w fun e w' => e = .returned (.tuple #[.string ⟨(showH t g r).toArray⟩, .int .i64 0]) ∧ Later w w' := by
 have hr := (okH_iff _ _ _).1 ho
 have hT : ∀ w1, Tab w1 → Calls Tryz.prog 134 #[.agg #[.int .i64 t, .int .u32 g, .int .u8 r]] w1 fun e w' => e = .returned (.string ⟨(showH t g r).toArray⟩) ∧ Later w1 w' := fun w1 h1 => text_is t g r w1 (by omega) hg hr.2.2.1 hr.2.2.2 h1
 have HO := Lib.hid ho
 obtain ⟨x, hx⟩ : ∃ x : Int, x = (t : Int) := ⟨_, rfl⟩
 obtain ⟨y, hy⟩ : ∃ y : Int, y = (g : Int) := ⟨_, rfl⟩
 rw [← hx, ← hy] at HO hT ⊢
 clear hx hy hr ho hg
 go_enter Tryz.func89, Tryz.ntmps89
 go_wp2_with fail
 refine (Right_is _ _ _ _ HO.out _).mono ?_
 rintro e w1 ⟨rfl, hb1⟩
 have k0 := cell_at hb1 (p := ⟨w.heap.size, 0, none⟩) (v := .int .i64 x) (by go_cell) (by simp)
 have k1 := cell_at hb1 (p := ⟨w.heap.size, 1, none⟩) (v := .int .u32 y) (by go_cell) (by simp)
 have k2 := cell_at hb1 (p := ⟨w.heap.size, 2, none⟩) (v := .int .u8 r) (by go_cell) (by simp)
 have ht1 := htab.later (((Later.refl w).alloc _).trans hb1)
 go_wp2_with fail
 refine (hT _ ht1).mono ?_
 rintro e w2 ⟨rfl, hb2⟩
 go_wp2_with fail
 go_ret2
 exact ⟨rfl, by repeat (first | exact Later.refl _ | assumption | apply Later.alloc | apply Later.drew | apply Later.drewN | refine Later.trans ?_ (by assumption))⟩
theorem Show_no (t g r : Int) (w : World) (ho : okH t g r = false) :
  Calls Tryz.prog 89 #[.agg #[.int .i64 t, .int .u32 g, .int .u8 r]] w fun e w' => e = .returned (.tuple #[.string ⟨#[]⟩, .int .i64 4]) ∧ Later w w' := by
 have HO := Lib.hid ho
 clear ho
 go_enter Tryz.func89, Tryz.ntmps89
 go_wp2_with fail
 refine (Right_is _ _ _ _ HO.out _).mono ?_
 rintro e w1 ⟨rfl, hb1⟩
 go_wp2_with fail
 go_ret2
 exact ⟨rfl, by repeat (first | exact Later.refl _ | assumption | apply Later.alloc | apply Later.drew | apply Later.drewN | refine Later.trans ?_ (by assumption))⟩
end Go.Proofs.YtkbedajbbakihaaGreatDoor

/-
 A region that draws its order, walked by an invariant: what each operation finds done, and what it leaves. Conditions: none (a law of the model, for every program).
-/
namespace Go.Proofs.YtkbedajbbakihaaGreatDoor

def updD (D : Nat → Bool) (i : Nat) : Nat → Bool := fun j => if j = i then true else D j
theorem updD_same (D : Nat → Bool) (i : Nat) : updD D i i = true := by simp [updD]
section
variable {P : Program} {ops : Array Oper} {Q : Exit → Act → World → Prop} {md : Region.Mode}
/-- each operation waits only for earlier ones -/
def lowB (md : Region.Mode) (ops : Array Oper) : Bool :=
 (List.range ops.size).all fun i => ((ops[i]?).map fun o => o.after.all fun e => !Region.binds md e || decide (e.on < i)).getD true
theorem lowB_at (h : lowB md ops = true) {i : Nat} {o : Oper} (ho : ops[i]? = some o) : ∀ e ∈ o.after, Region.binds md e = true → e.on < i := by
 intro e he hb
 have hi : i < ops.size := (Array.getElem?_eq_some_iff.1 ho).1
 have h1 := List.all_eq_true.1 h i (List.mem_range.2 hi)
 rw [ho] at h1
 simp only [Option.map_some, Option.getD_some, Array.all_eq_true_iff_forall_mem] at h1
 have h2 := h1 e he
 simpa [hb] using h2
theorem getD_updD {listed : Array Bool} {i : Nat} (hi : i < listed.size) : (fun j => (listed.setIfInBounds i true).getD j false) = updD (fun j => listed.getD j false) i := by
 funext j
 unfold updD
 by_cases h : j = i
 ·subst h
  rw [if_pos rfl, Array.getD_eq_getD_getElem?, Array.getElem?_setIfInBounds_self_of_lt hi]
  rfl
 ·rw [if_neg h]
  exact getD_set_ne false (fun e => h e.symm)
theorem wpAny_inv (I : (Nat → Bool) → Act → World → Prop) (hlow : lowB md ops = true)
  (hstep : ∀ i D a w, i < ops.size → D i = false → (∀ o, ops[i]? = some o → ∀ e ∈ o.after, Region.binds md e = true → D e.on = true) → I D a w → wpOp P ops Q i (fun a' w' => I (updD D i) a' w') a w)
  (hend : ∀ D a w, (∀ i, i < ops.size → D i = true) → I D a w → Q .normal a w) :
  ∀ (fuel : Nat) (listed : Array Bool) (a : Act) (w : World), listed.size = ops.size → listed.toList.count false ≤ fuel → I (fun i => listed.getD i false) a w → wpAny P md ops Q fuel listed a w := by
 have hall : ∀ listed : Array Bool, listed.size = ops.size → Region.ready md ops listed = [] → ∀ i, i < ops.size → listed.getD i false = true := by
  intro listed hs hr i
  induction i using Nat.strongRecOn with
  | ind i ih =>
   intro hi
   cases hb : listed.getD i false with
   | true => rfl
   | false =>
    exfalso
    have hmem : i ∈ Region.ready md ops listed := by
     refine mem_ready.2 ⟨?_, ops[i], Array.getElem?_eq_getElem hi, fun e he hbe => ?_⟩
     ·rw [Array.getD_eq_getD_getElem?, Array.getElem?_eq_getElem (by omega)] at hb ⊢
      exact hb
     ·have hlt := lowB_at hlow (Array.getElem?_eq_getElem hi) e he hbe
      exact ih e.on hlt (by omega)
    rw [hr] at hmem
    cases hmem
 intro fuel
 induction fuel with
 | zero =>
  intro listed a w hs hc hI
  have htrue : ∀ i, i < ops.size → listed.getD i false = true := by
   intro i hi
   have h0 : false ∉ listed.toList := List.count_eq_zero.1 (by omega)
   rw [Array.getD_eq_getD_getElem?, Array.getElem?_eq_getElem (by omega), Option.getD_some]
   cases hb : listed[i] with
   | true => rfl
   | false => exact absurd (by rw [← hb]; simp) h0
  refine ⟨?_, hend _ a w htrue hI⟩
  apply List.eq_nil_iff_forall_not_mem.2
  intro i hi
  obtain ⟨h1, o, ho, _⟩ := mem_ready.1 hi
  have hlt : i < ops.size := (Array.getElem?_eq_some_iff.1 ho).1
  have h2 := htrue i hlt
  rw [Array.getD_eq_getD_getElem?, Array.getElem?_eq_getElem (by omega)] at h1 h2
  simp only [Option.getD_some] at h1 h2
  rw [h1] at h2
  cases h2
 | succ fuel ih =>
  intro listed a w hs hc hI
  refine ⟨fun hr => hend _ a w (hall listed hs hr) hI, fun i hi => ?_⟩
  obtain ⟨h1, o, ho, hd⟩ := mem_ready.1 hi
  have hlt : i < ops.size := (Array.getElem?_eq_some_iff.1 ho).1
  have hlt' : i < listed.size := by omega
  have hf : listed.getD i false = false := by
   rw [Array.getD_eq_getD_getElem?, Array.getElem?_eq_getElem hlt'] at h1 ⊢
   exact h1
  refine wpOp_mono (fun a' w' h => ?_) (hstep i _ a w hlt hf (fun o' ho' e he hb => by rw [ho] at ho'; injection ho' with ho'; subst ho'; exact hd e he hb) hI)
  refine ih _ a' w' (by simpa using hs) ?_ ?_
  ·rw [Array.toList_setIfInBounds, List.count_set (by simpa using hlt')]
   have hv : listed[i] = false := by
    rw [Array.getD_eq_getD_getElem?, Array.getElem?_eq_getElem hlt'] at hf
    exact hf
   have hpos : 0 < listed.toList.count false := List.count_pos_iff.2 (by rw [← hv]; simp)
   rw [if_pos (by simp [hv]), if_neg (by decide)]
   omega
  ·rw [getD_updD hlt']
   exact h
end
/-- what an operation waits for -/
def depsOf (md : Region.Mode) (ops : Array Oper) (i : Nat) : List Nat := ((ops[i]?).map fun o => (o.after.toList.filter fun e => Region.binds md e).map (·.on)).getD []
theorem wp_region_inv {P : Program} {id : Nat} {ops : Array Oper} {Q : Exit → Act → World → Prop} {a : Act} {w : World} (hm : P.follows .mixedOrders = true) (I : (Nat → Bool) → Act → World → Prop) (hlow : lowB .any ops = true)
  (h0 : I (fun _ => false) a { w with drawn := w.drawn + 1 })
  (hstep : ∀ i D a w, i < ops.size → D i = false → (∀ k, (depsOf .any ops i).contains k = true → D k = true) → I D a w → wpOp P ops Q i (fun a' w' => I (updD D i) a' w') a w)
  (hend : ∀ D a w, (∀ i, i < ops.size → D i = true) → I D a w → Q .normal a w) : (Code.region id ops true).wp P Q a w := by
 refine wp_region_any hm (wpAny_inv I hlow (fun i D a w hi hD hd hI => hstep i D a w hi hD (fun k hk => ?_) hI) hend ops.size _ a _ (by simp) ?_ ?_)
 ·have h1 := List.contains_iff_mem.1 hk
  unfold depsOf at h1
  rw [Array.getElem?_eq_getElem hi] at h1
  simp only [Option.map_some, Option.getD_some, List.mem_map, List.mem_filter] at h1
  obtain ⟨e, ⟨h2, h3⟩, rfl⟩ := h1
  exact hd _ (Array.getElem?_eq_getElem hi) e (by simpa using h2) h3
 ·simp
 ·have e : (fun i => (Array.replicate ops.size false).getD i false) = fun _ => false := by
   funext i
   by_cases h : i < ops.size <;> simp [Array.getD_eq_getD_getElem?, h]
  rw [e]
  exact h0
end Go.Proofs.YtkbedajbbakihaaGreatDoor

/-
 A region within a round of a range over a function, walked as everywhere. Conditions: no operation of it is a defer statement or a call of a row; the walk is not let out.
-/
namespace Go.Proofs.YtkbedajbbakihaaGreatDoor

section
variable {P : Program} {ops : Array Oper} {Q : Exit → Act → World → Prop} {n l : Nat}
/-- no operation defers -/
def noDefer (ops : Array Oper) : Bool := ops.all fun o => match o.op with | .defer _ => false | _ => true
theorem noDefer_at {i : Nat} {o : Oper} (h : noDefer ops = true) (ho : ops[i]? = some o) : ∀ c, o.op ≠ .defer c := by
 intro c hc
 have h1 := (Array.all_eq_true_iff_forall_mem.1 h) o (Array.mem_of_getElem? ho)
 rw [hc] at h1
 cases h1
theorem rows_round {row : String} {args : Array Value} {w : World} {R : Value → World → Prop} (h : Rows P row args w R) : RowsIn (Fence.wide.inRound l) n P row args w R := by
 intro c cs _
 obtain ⟨v, w', r, s⟩ := h c cs
 exact ⟨v, w', r, stepsIn_wide.2 s⟩
theorem calls_round {f : FuncId} {args : Array Value} {w : World} {R : Ending → World → Prop} (h : Calls P f args w R) : CallsIn (Fence.wide.inRound l) n P f args w R :=
 CallsIn.inRound l (callsIn_wide.2 h)
theorem oper_round {o : Oper} (hd : ∀ c, o.op ≠ .defer c) {a : Act} {w : World} {K K' : Act → World → Prop} (hK : ∀ a w, K a w → K' a w) (h : o.wp P a w K Q) :
  o.wpIn (Fence.wide.inRound l) n P a w K' Q := by
 refine ⟨fun _ _ => trivial, ?_⟩
 rw [Fence.inRound_round, Oper.semAt_eq (some l) a.eval o hd]
 unfold Oper.wp at h
 generalize (execOp a.eval o).run P w = r at h ⊢
 cases r with
 | ok x w' =>
  cases x with
  | value v => exact hK _ _ h
  | skip => exact hK _ _ h
  | defer d => exact hK _ _ h
  | enter f args =>
   refine ⟨fun h => (by cases h), (calls_round h).mono ?_⟩
   intro e w'' he
   cases e with
   | returned v => exact hK _ _ he
   | panicked c => exact he
   | outgrown => exact he
  | row row args =>
   refine ⟨fun h => (by cases h), ?_⟩
   intro c cs hr
   obtain ⟨v, w'', r, s⟩ := rows_round (n := n - 1) (l := l) h c cs hr
   exact ⟨v, w'', hK _ _ r, s⟩
  | round => exact h.elim
  | _ => exact h.elim
 | halt e w' =>
  cases e with
  | panic v => exact h
  | _ => exact h.elim
theorem ops_round (hd : noDefer ops = true) (hQ : ¬ LetsOut Q) : ∀ (is : List Nat) (a : Act) (w : World), wpOps P ops Q is a w → wpOpsIn (Fence.wide.inRound l) n P ops Q is a w := by
 intro is
 induction is with
 | nil => intro a w h; exact h
 | cons i is ih =>
  intro a w h
  simp only [wpOps] at h
  simp only [wpOpsIn]
  cases ho : ops[i]? with
  | none =>
   rw [ho] at h
   exact ih a w h
  | some o =>
   rw [ho] at h
   dsimp only at h ⊢
   split
   ·rename_i hw
    rw [if_pos hw] at h
    rcases h with h | ⟨-, h⟩
    ·exact oper_round (noDefer_at hd ho) ih h
    ·exact (hQ h).elim
   ·rename_i hw
    rw [if_neg hw] at h
    exact ⟨fun _ _ => trivial, ih _ _ h⟩
/-- a region that keeps its order -/
theorem wpIn_reg {id : Nat} {a : Act} {w : World} (hd : noDefer ops = true) (hQ : ¬ LetsOut Q) (h : wpList P ops Q ops.toList a w) : (Code.region id ops false).wpIn (Fence.wide.inRound l) n P Q a w :=
 wpIn_region (ops_round hd hQ _ a w (by rw [List.range_eq_range', ← Array.length_toList, wpOps_eq_wpList ops.toList 0 (by simp)]; exact h))
/-- a region that draws its order, by an invariant -/
theorem wpIn_reg_inv {id : Nat} {a : Act} {w : World} (hm : P.follows .mixedOrders = true) (hd : noDefer ops = true) (hQ : ¬ LetsOut Q) (I : (Nat → Bool) → Act → World → Prop) (hlow : lowB .any ops = true)
  (h0 : I (fun _ => false) a { w with drawn := w.drawn + 1 })
  (hstep : ∀ i D a w, i < ops.size → D i = false → (∀ k, (depsOf .any ops i).contains k = true → D k = true) → I D a w → wpOp P ops Q i (fun a' w' => I (updD D i) a' w') a w)
  (hend : ∀ D a w, (∀ i, i < ops.size → D i = true) → I D a w → Q .normal a w) : (Code.region id ops true).wpIn (Fence.wide.inRound l) n P Q a w := by
 refine wpIn_region_draw fun t => ops_round hd hQ _ a _ ?_
 simp only [Region.schedule, hm, Bool.true_or, if_true]
 refine wpAny_sound ops.size t _ a _ (wpAny_inv I hlow (fun i D a w hi hD hd hI => hstep i D a w hi hD (fun k hk => ?_) hI) hend ops.size _ a _ (by simp) ?_ ?_)
 ·have h1 := List.contains_iff_mem.1 hk
  unfold depsOf at h1
  rw [Array.getElem?_eq_getElem hi] at h1
  simp only [Option.map_some, Option.getD_some, List.mem_map, List.mem_filter] at h1
  obtain ⟨e, ⟨h2, h3⟩, rfl⟩ := h1
  exact hd _ (Array.getElem?_eq_getElem hi) e (by simpa using h2) h3
 ·simp
 ·have e : (fun i => (Array.replicate ops.size false).getD i false) = fun _ => false := by
   funext i
   by_cases h : i < ops.size <;> simp [Array.getD_eq_getD_getElem?, h]
  rw [e]
  exact h0
theorem not_out {K : Act → World → Prop} (hQ : ¬ LetsOut Q) : ¬ LetsOut (Exit.then K Q) := fun ⟨a, w, h⟩ => hQ ⟨a, w, h⟩
end
end Go.Proofs.YtkbedajbbakihaaGreatDoor

/-
 Regions that draw their order, by an invariant, with what is done known to be closed. Conditions: as In's and Rg's.
-/
namespace Go.Proofs.YtkbedajbbakihaaGreatDoor
section
variable {P : Program} {ops : Array Oper} {Q : Exit → Act → World → Prop} {n l : Nat}
/-- what is done waits for nothing that is not done -/
def Clo (ops : Array Oper) (D : Nat → Bool) : Prop := ∀ k, k < ops.size → D k = true → ∀ j, (depsOf .any ops k).contains j = true → D j = true
theorem Clo.upd {D : Nat → Bool} {i : Nat} (h : Clo ops D) (hd : ∀ k, (depsOf .any ops i).contains k = true → D k = true) : Clo ops (updD D i) := by
 intro k hk hD j hj
 unfold updD at hD ⊢
 by_cases hji : j = i
 ·rw [if_pos hji]
 ·rw [if_neg hji]
  by_cases hki : k = i
  ·subst hki; exact hd j hj
  ·rw [if_neg hki] at hD
   exact h k hk hD j hj
theorem Clo.no {D : Nat → Bool} (h : Clo ops D) {i k : Nat} (hi : D i = false) (hk : k < ops.size) (hj : (depsOf .any ops k).contains i = true) : D k = false := by
 cases hD : D k with
 | false => rfl
 | true => have := h k hk hD i hj; rw [hi] at this; cases this
theorem wpIn_reg_iv {id : Nat} {a : Act} {w : World} (hm : P.follows .mixedOrders = true) (hd : noDefer ops = true) (hQ : ¬ LetsOut Q) (I : (Nat → Bool) → Act → World → Prop) (hlow : lowB .any ops = true)
  (h0 : I (fun _ => false) a { w with drawn := w.drawn + 1 })
  (hstep : ∀ i D a w, i < ops.size → D i = false → (∀ k, (depsOf .any ops i).contains k = true → D k = true) → Clo ops D → I D a w → wpOp P ops Q i (fun a' w' => I (updD D i) a' w') a w)
  (hend : ∀ D a w, (∀ i, i < ops.size → D i = true) → I D a w → Q .normal a w) : (Code.region id ops true).wpIn (Fence.wide.inRound l) n P Q a w :=
 wpIn_reg_inv hm hd hQ (fun D a w => I D a w ∧ Clo ops D) hlow ⟨h0, fun k _ hk => by cases hk⟩
  (fun i D a w hi hD hdep hI => wpOp_mono (fun a' w' h => ⟨h, hI.2.upd hdep⟩) (hstep i D a w hi hD hdep hI.2 hI.1))
  (fun D a w hD hI => hend D a w hD hI.1)
theorem wp_region_iv {id : Nat} {a : Act} {w : World} (hm : P.follows .mixedOrders = true) (I : (Nat → Bool) → Act → World → Prop) (hlow : lowB .any ops = true)
  (h0 : I (fun _ => false) a { w with drawn := w.drawn + 1 })
  (hstep : ∀ i D a w, i < ops.size → D i = false → (∀ k, (depsOf .any ops i).contains k = true → D k = true) → Clo ops D → I D a w → wpOp P ops Q i (fun a' w' => I (updD D i) a' w') a w)
  (hend : ∀ D a w, (∀ i, i < ops.size → D i = true) → I D a w → Q .normal a w) : (Code.region id ops true).wp P Q a w :=
 wp_region_inv hm (fun D a w => I D a w ∧ Clo ops D) hlow ⟨h0, fun k _ hk => by cases hk⟩
  (fun i D a w hi hD hdep hI => wpOp_mono (fun a' w' h => ⟨h, hI.2.upd hdep⟩) (hstep i D a w hi hD hdep hI.2 hI.1))
  (fun D a w hD hI => hend D a w hD hI.1)
theorem updD_self {D : Nat → Bool} {i : Nat} (h : updD D i i = false) : False := by simp [updD] at h
end
end Go.Proofs.YtkbedajbbakihaaGreatDoor

/-
 The reference's Show. Conditions: the numbers are within their types.
-/
namespace Go.Proofs.YtkbedajbbakihaaGreatDoor
open Go.RowKit Go.Sort Go.Lib

theorem refShow_no (t g r : Int) (w : World) (r0 : 0 ≤ r) (r1 : r ≤ 255) (ho : okH t g r = false) :
  Calls Tryz.prog 117 #[.agg #[.int .i64 t, .int .u32 g, .int .u8 r]] w fun e w' => e = .returned (.tuple #[.string ⟨#[]⟩, .int .i64 4]) ∧ Later w w' := by
 have HO := Lib.hid ho
 clear ho
 go_enter Tryz.func117, Tryz.ntmps117
 go_wp2_with fail
 refine (refRight_is _ _ _ _ r0 r1 HO.out _).mono ?_
 rintro e w1 ⟨rfl, hb1⟩
 go_wp2_with fail
 go_ret2
 exact ⟨rfl, by repeat (first | exact Later.refl _ | assumption | apply Later.alloc | apply Later.drew | apply Later.drewN | refine Later.trans ?_ (by assumption))⟩
set_option maxRecDepth 100000 in
set_option maxHeartbeats 6400000 in
theorem refShow_yes (t g : Nat) (r : Int) (w : World) (ho : okH t g r = true) (hg : g ≤ 4294967295) :
  Calls Tryz.prog 117 #[.agg #[.int .i64 t, .int .u32 g, .int .u8 r]] w fun e w' => e = .returned (.tuple #[.string ⟨(showH t g r).toArray⟩, .int .i64 0]) ∧ Later w w' := by
 have hr := (okH_iff _ _ _).1 ho
 have hNt : ∀ w1, Calls Tryz.prog 143 #[.int .i64 t] w1 fun e w' => e = .returned (.string ⟨(Lib.decDigits t).toArray⟩) ∧ Later w1 w' := fun w1 => number_is t (by omega) w1
 have hNg : ∀ w1, Calls Tryz.prog 143 #[.int .i64 g] w1 fun e w' => e = .returned (.string ⟨(Lib.decDigits g).toArray⟩) ∧ Later w1 w' := fun w1 => number_is g (by omega) w1
 have HO := Lib.hid ho
 have l1 := digits_le t (by omega)
 have l2 := digits_le g (by omega)
 obtain ⟨r1, r7⟩ := hr.2.2
 obtain ⟨x, hx⟩ : ∃ x : Int, x = (t : Int) := ⟨_, rfl⟩
 obtain ⟨y, hy⟩ : ∃ y : Int, y = (g : Int) := ⟨_, rfl⟩
 rw [← hx, ← hy] at HO ⊢
 rw [← hx] at hNt
 rw [← hy] at hNg
 have y0 : 0 ≤ y := by omega
 have y1 : y ≤ 4294967295 := by omega
 have hwr : IntKind.i64.wrap y = y := IntWalk.i64_in _ (by omega)
 obtain ⟨A, hA⟩ : ∃ A : ByteArray, A = ⟨(Lib.decDigits t).toArray⟩ := ⟨_, rfl⟩
 obtain ⟨B, hB⟩ : ∃ B : ByteArray, B = ⟨(Lib.decDigits g).toArray⟩ := ⟨_, rfl⟩
 rw [← hA] at hNt
 rw [← hB] at hNg
 have a1 : A.size ≤ 20 := by rw [hA]; exact l1
 have b1 : B.size ≤ 20 := by rw [hB]; exact l2
 have hbase : A ++ ⟨#[46]⟩ ++ B ++ ⟨#[46]⟩ = (⟨(Lib.decDigits t ++ (46 :: (Lib.decDigits g ++ [46]))).toArray⟩ : ByteArray) := by
  rw [hA, hB]
  apply ByteArray.ext
  simp
 have q1 : ¬ 9223372036854775807 < A.size + 1 := by omega
 have q2 : ¬ 9223372036854775807 < A.size + 1 + B.size := by omega
 have q3 : ¬ 9223372036854775807 < A.size + 1 + B.size + 1 := by omega
 rw [← hwr] at hNg
 have HBASE := Lib.hid hbase
 have HLEN := Lib.hid (show (Lib.decDigits t).length + (Lib.decDigits g).length ≤ 40 by omega)
 clear hwr hx hy hr ho hg l1 l2 hA hB hbase
 go_enter Tryz.func117, Tryz.ntmps117
 go_wp2_with fail
 refine (refRight_is _ _ _ _ (by omega) (by omega) HO.out _).mono ?_
 rintro e w1 ⟨rfl, hb1⟩
 have k0 := cell_at hb1 (p := ⟨w.heap.size, 0, none⟩) (v := .int .i64 x) (by go_cell) (by simp)
 have k1 := cell_at hb1 (p := ⟨w.heap.size, 1, none⟩) (v := .int .u32 y) (by go_cell) (by simp)
 have k2 := cell_at hb1 (p := ⟨w.heap.size, 2, none⟩) (v := .int .u8 r) (by go_cell) (by simp)
 have hl1 : Later w w1 := ((Later.refl w).alloc _).trans hb1
 have hws : w.heap.size < w1.heap.size := Nat.lt_of_lt_of_le (by simp) hb1.size
 clear hb1
 go_wp2_with fail
 have z0 := cell_regrown k0
 have z1 := cell_regrown k1
 have cA := fun d os => quiet_later (hNt (grow (redrawn w1 d) os))
 have cB := fun d os => quiet_later (hNg (grow (redrawn w1 d) os))
 have mixed : Tryz.prog.follows .mixedOrders = true := by kernel_rfl
 refine wp_region_quiet_below mixed (by kernel_rfl) ?_
 repeat (quiet_step (first | with_reducible exact cA _ _ | with_reducible exact cB _ _))
 refine wpQuiet_nil ?_
 intro _ hw'
 obtain ⟨⟨dq, osq⟩, hw''⟩ := hw'
 subst hw''
 have u2 := cell_regrown k2 dq osq
 have hlU : Later w (grow (redrawn w1 dq) osq) := hl1.trans (below_regrown w1 dq osq)
 clear z0 z1 cA cB hl1 hws k0 k1 k2
 generalize grow (redrawn w1 dq) osq = U at *
 rw [HBASE.out]
 go_wp2_with fail
 have HR := Lib.hid (And.intro r1 r7)
 have sl0 : ∀ W : World, (Instr.sliceAt 9 (.string ⟨#[114, 119, 115]⟩) (some (.int .i64 0)) (some (.int .i64 1)) none).run Tryz.prog W = .ok (.string ⟨#[114]⟩) W := fun W => by kernel_rfl
 have sl1 : ∀ W : World, (Instr.sliceAt 9 (.string ⟨#[114, 119, 115]⟩) (some (.int .i64 1)) (some (.int .i64 2)) none).run Tryz.prog W = .ok (.string ⟨#[119]⟩) W := fun W => by kernel_rfl
 have sl2 : ∀ W : World, (Instr.sliceAt 9 (.string ⟨#[114, 119, 115]⟩) (some (.int .i64 2)) (some (.int .i64 3)) none).run Tryz.prog W = .ok (.string ⟨#[115]⟩) W := fun W => by kernel_rfl
 have r0 : 0 ≤ r := by omega
 have r255 : r ≤ 255 := by omega
 clear r1 r7 q1 q2 q3 y0 y1 a1 b1 hNt hNg
 obtain ⟨base, hbase⟩ : ∃ base, base = Lib.decDigits t ++ (46 :: (Lib.decDigits g ++ [46])) := ⟨_, rfl⟩
 rw [← hbase]
 have HB := Lib.hid hbase
 have HL := Lib.hid (show base.length ≤ 50 by have := HLEN.out; rw [hbase]; simp; omega)
 clear hbase
 go_loop [4, 6] (fun s i => ∃ k : Nat, k ≤ 3 ∧ i = .int .i64 k ∧ s = .string ⟨(base ++ lettersK r k).toArray⟩) (fun _ i => 3 - (RowKit.intOf i).toNat)
 case atStart => exact ⟨0, by omega, rfl, by simp [lettersK]⟩
 case round =>
  obtain ⟨k, hk, rfl, rfl⟩ := hrel
  obtain ⟨C, hC⟩ : ∃ C : ByteArray, C = ⟨(base ++ lettersK r k).toArray⟩ := ⟨_, rfl⟩
  have hcat : ¬ 9223372036854775807 < C.size + 1 := by
   have h1 := HL.out
   have h2 := lettersK_len r k
   have : C.size = base.length + (lettersK r k).length := by rw [hC]; simp [ByteArray.size]
   omega
  rw [← hC]
  have HC := Lib.hid hC
  clear hC
  have hk' : k = 0 ∨ k = 1 ∨ k = 2 ∨ k = 3 := by omega
  rcases hk' with rfl | rfl | rfl | rfl
  ·obtain ⟨b, hb⟩ : ∃ b, (r % 2 == 1) = b := ⟨_, rfl⟩
   have HPB := Lib.hid hb
   cases b
   ·go_wp2_with fail
    go_round
    case rel =>
     refine ⟨1, by omega, rfl, ?_⟩
     have e : lettersK r 1 = lettersK r 0 := by
      have hx := HPB.out
      have := of_decide_eq_false ((beq_dec _ _).symm.trans hx)
      simp [lettersK, this]
     rw [e, HC.out]
    case measure => simp [RowKit.intOf]
   ·go_wp2_with fail
    go_round
    case rel =>
     refine ⟨1, by omega, rfl, ?_⟩
     have e : lettersK r 1 = lettersK r 0 ++ [114] := by
      have hx := HPB.out
      have := of_decide_eq_true ((beq_dec _ _).symm.trans hx)
      simp [lettersK, this]
     rw [e, HC.out]
     rw [← List.append_assoc]
     exact congrArg Value.string (str_app (base ++ lettersK r 0) [114])
    case measure => simp [RowKit.intOf]
  ·obtain ⟨b, hb⟩ : ∃ b, (r / 2 % 2 == 1) = b := ⟨_, rfl⟩
   have HPB := Lib.hid hb
   cases b
   ·go_wp2_with fail
    go_round
    case rel =>
     refine ⟨2, by omega, rfl, ?_⟩
     have e : lettersK r 2 = lettersK r 1 := by
      have hx := HPB.out
      have := of_decide_eq_false ((beq_dec _ _).symm.trans hx)
      simp [lettersK, this]
     rw [e, HC.out]
    case measure => simp [RowKit.intOf]
   ·go_wp2_with fail
    go_round
    case rel =>
     refine ⟨2, by omega, rfl, ?_⟩
     have e : lettersK r 2 = lettersK r 1 ++ [119] := by
      have hx := HPB.out
      have := of_decide_eq_true ((beq_dec _ _).symm.trans hx)
      simp [lettersK, this]
     rw [e, HC.out]
     rw [← List.append_assoc]
     exact congrArg Value.string (str_app (base ++ lettersK r 1) [119])
    case measure => simp [RowKit.intOf]
  ·obtain ⟨b, hb⟩ : ∃ b, (r / 4 % 2 == 1) = b := ⟨_, rfl⟩
   have HPB := Lib.hid hb
   cases b
   ·go_wp2_with fail
    go_round
    case rel =>
     refine ⟨3, by omega, rfl, ?_⟩
     have e : lettersK r 3 = lettersK r 2 := by
      have hx := HPB.out
      have := of_decide_eq_false ((beq_dec _ _).symm.trans hx)
      simp [lettersK, this]
     rw [e, HC.out]
    case measure => simp [RowKit.intOf]
   ·go_wp2_with fail
    go_round
    case rel =>
     refine ⟨3, by omega, rfl, ?_⟩
     have e : lettersK r 3 = lettersK r 2 ++ [115] := by
      have hx := HPB.out
      have := of_decide_eq_true ((beq_dec _ _).symm.trans hx)
      simp [lettersK, this]
     rw [e, HC.out]
     rw [← List.append_assoc]
     exact congrArg Value.string (str_app (base ++ lettersK r 2) [115])
    case measure => simp [RowKit.intOf]
  ·go_wp2_with fail
   go_ret2
   refine ⟨?_, hlU⟩
   rw [HC.out, HB.out]
   simp [showH, lettersK, lettersR]
end Go.Proofs.YtkbedajbbakihaaGreatDoor
