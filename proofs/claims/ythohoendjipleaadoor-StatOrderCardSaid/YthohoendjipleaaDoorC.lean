/-
  Package stat: a counter increased; the map of counters. Conditions: the counters are words.
-/
import Derived.Test.YthohoendjipleaaDoorB
import Derived.Laws.Externs
namespace Go.Proofs.YthohoendjipleaaDoor
open Go.RowKit

/-- a counter increased -/
def mo (x n : Int) : Int := if x + n ≤ 18446744073709551615 then x + n else 18446744073709551615
theorem mo_in (x n : Int) (h0 : 0 ≤ x) (n0 : 0 ≤ n) : 0 ≤ mo x n ∧ mo x n ≤ 18446744073709551615 := by unfold mo; split <;> omega
theorem add64_run (x y c : Int) (hx : 0 ≤ x) (hy : 0 ≤ y) (hc0 : 0 ≤ c) (hc : c ≤ 1) (w : World) :
    (callFunc 31 #[.int .u64 x, .int .u64 y, .int .u64 c]).run Tryd.prog w = .ok (.value (.tuple #[.int .u64 ((x + y + c) % 18446744073709551616), .int .u64 ((x + y + c) / 18446744073709551616)])) w := by
  rw [run_callFunc_extern Tryd.func31 (by kernel_rfl) (by kernel_rfl) (by kernel_rfl) (e := add64Entry) (by kernel_rfl), run_add64 x y c hx hy hc0 hc]
  rfl
theorem more_is (x n : Int) (x0 : 0 ≤ x) (x1 : x ≤ 18446744073709551615) (n0 : 0 ≤ n) (n1 : n ≤ 18446744073709551615) (w : World) :
    Calls Tryd.prog 25 #[.int .u64 x, .int .u64 n] w fun e w' => e = .returned (.int .u64 (mo x n)) ∧ w = w' := by
  by_cases h : x + n ≤ 18446744073709551615
  · have ha : ∀ w : World, (callFunc 31 #[.int .u64 x, .int .u64 n, .int .u64 0]).run Tryd.prog w = .ok (.value (.tuple #[.int .u64 (x + n), .int .u64 0])) w := fun w => by
      rw [add64_run x n 0 x0 n0 (by omega) (by omega), show (x + n + 0) % 18446744073709551616 = x + n by omega, show (x + n + 0) / 18446744073709551616 = 0 by omega]
    rw [mo, if_pos h]
    clear h
    go_enter Tryd.func25, Tryd.ntmps25
    go_wp2_with fail
    go_ret
    exact ⟨rfl, rfl⟩
  · have ha : ∀ w : World, (callFunc 31 #[.int .u64 x, .int .u64 n, .int .u64 0]).run Tryd.prog w = .ok (.value (.tuple #[.int .u64 ((x + n) % 18446744073709551616), .int .u64 1])) w := fun w => by
      rw [add64_run x n 0 x0 n0 (by omega) (by omega), Int.add_zero, show (x + n) / 18446744073709551616 = 1 by omega]
    rw [mo, if_neg h]
    clear h
    go_enter Tryd.func25, Tryd.ntmps25
    go_wp2_with fail
    go_ret
    exact ⟨rfl, rfl⟩
theorem count_is (S j : Nat) (x n : Int) (x0 : 0 ≤ x) (x1 : x ≤ 18446744073709551615) (n0 : 0 ≤ n) (n1 : n ≤ 4611686018427387904) (w : World)
    (hc : w.cell? ⟨S, j, none⟩ = some (.int .u64 x)) (hf : w.frozen? ⟨S, j, none⟩ = false) :
    Calls Tryd.prog 24 #[.pointer (some ⟨S, j, none⟩), .int .i64 n] w fun e w' => e = .returned (.tuple #[]) ∧ w' = w.setCell ⟨S, j, none⟩ (.int .u64 (mo x n)) := by
  go_enter Tryd.func24, Tryd.ntmps24
  go_wp2_with fail
  refine (more_is x n x0 x1 n0 (by omega) _).mono ?_
  rintro e w1 ⟨rfl, rfl⟩
  go_wp2_with fail
  go_end0
  exact ⟨rfl, rfl⟩
theorem counter1_is (S : Nat) (w : World) : Calls Tryd.prog 38 #[.pointer (some ⟨S, 0, none⟩)] w fun e w' => e = .returned (.pointer (some ⟨S, 2, none⟩)) ∧ w = w' := by
  go_enter Tryd.func38, Tryd.ntmps38
  go_wp2
  go_ret
  exact ⟨rfl, rfl⟩
theorem counter2_is (S : Nat) (w : World) : Calls Tryd.prog 39 #[.pointer (some ⟨S, 0, none⟩)] w fun e w' => e = .returned (.pointer (some ⟨S, 3, none⟩)) ∧ w = w' := by
  go_enter Tryd.func39, Tryd.ntmps39
  go_wp2
  go_ret
  exact ⟨rfl, rfl⟩
theorem counter3_is (S : Nat) (w : World) : Calls Tryd.prog 40 #[.pointer (some ⟨S, 0, none⟩)] w fun e w' => e = .returned (.pointer (some ⟨S, 4, none⟩)) ∧ w = w' := by
  go_enter Tryd.func40, Tryd.ntmps40
  go_wp2
  go_ret
  exact ⟨rfl, rfl⟩
theorem counter4_is (S : Nat) (w : World) : Calls Tryd.prog 41 #[.pointer (some ⟨S, 0, none⟩)] w fun e w' => e = .returned (.pointer (some ⟨S, 5, none⟩)) ∧ w = w' := by
  go_enter Tryd.func41, Tryd.ntmps41
  go_wp2
  go_ret
  exact ⟨rfl, rfl⟩
theorem counter5_is (S : Nat) (w : World) : Calls Tryd.prog 42 #[.pointer (some ⟨S, 0, none⟩)] w fun e w' => e = .returned (.pointer (some ⟨S, 6, none⟩)) ∧ w = w' := by
  go_enter Tryd.func42, Tryd.ntmps42
  go_wp2
  go_ret
  exact ⟨rfl, rfl⟩
def ctrE : List MapEntry := [⟨.int .i64 1, .func (.func 38) #[] #[], 0⟩, ⟨.int .i64 2, .func (.func 39) #[] #[], 1⟩, ⟨.int .i64 3, .func (.func 40) #[] #[], 2⟩, ⟨.int .i64 4, .func (.func 41) #[] #[], 3⟩, ⟨.int .i64 5, .func (.func 42) #[] #[], 4⟩]
theorem counterOf_is (w : World) : Calls Tryd.prog 23 #[] w fun e w' => e = .returned (.map (some w.heap.size)) ∧ w' = w.alloc (.map ctrE.toArray 5) := by
  have h0 := run_makeMap (P := Tryd.prog) 70 w
  have p1 := run_put 70 72 Tryd.underlying70 w #[] 0 1 (.func (.func 38) #[] #[]) (by simp [Instr.findNow])
  have p2 := run_put 70 72 Tryd.underlying70 w (ctrE.take 1).toArray 1 2 (.func (.func 39) #[] #[]) (by simp [ctrE, Instr.findNow, Instr.sameNow])
  have p3 := run_put 70 72 Tryd.underlying70 w (ctrE.take 2).toArray 2 3 (.func (.func 40) #[] #[]) (by simp [ctrE, Instr.findNow, Instr.sameNow])
  have p4 := run_put 70 72 Tryd.underlying70 w (ctrE.take 3).toArray 3 4 (.func (.func 41) #[] #[]) (by simp [ctrE, Instr.findNow, Instr.sameNow])
  have p5 := run_put 70 72 Tryd.underlying70 w (ctrE.take 4).toArray 4 5 (.func (.func 42) #[] #[]) (by simp [ctrE, Instr.findNow, Instr.sameNow])
  simp only [ctrE, List.take, List.push_toArray, List.nil_append, List.cons_append, Nat.reduceAdd] at p1 p2 p3 p4 p5
  go_enter Tryd.func23, Tryd.ntmps23
  go_wp2_with fail
  go_ret
  exact ⟨rfl, rfl⟩
end Go.Proofs.YthohoendjipleaaDoor
