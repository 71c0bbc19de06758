/-
  Package stat: a counter increased; the map of counters. Conditions: the counters are words.
-/
import Derived.Test.YthohoendjipleaaGreatDoorB
import Derived.Laws.Externs
namespace Go.Proofs.YthohoendjipleaaGreatDoor
open Go.RowKit

/-- a counter increased -/
def mo (x n : Int) : Int := if x + n ≤ 18446744073709551615 then x + n else 18446744073709551615
theorem mo_in (x n : Int) (h0 : 0 ≤ x) (n0 : 0 ≤ n) : 0 ≤ mo x n ∧ mo x n ≤ 18446744073709551615 := by unfold mo; split <;> omega
theorem add64_run (x y c : Int) (hx : 0 ≤ x) (hy : 0 ≤ y) (hc0 : 0 ≤ c) (hc : c ≤ 1) (w : World) :
    (callFunc 22 #[.int .u64 x, .int .u64 y, .int .u64 c]).run Tryz.prog w = .ok (.value (.tuple #[.int .u64 ((x + y + c) % 18446744073709551616), .int .u64 ((x + y + c) / 18446744073709551616)])) w := by
  rw [run_callFunc_extern Tryz.func22 (by kernel_rfl) (by kernel_rfl) (by kernel_rfl) (e := add64Entry) (by kernel_rfl), run_add64 x y c hx hy hc0 hc]
  rfl
theorem more_is (x n : Int) (x0 : 0 ≤ x) (x1 : x ≤ 18446744073709551615) (n0 : 0 ≤ n) (n1 : n ≤ 18446744073709551615) (w : World) :
    Calls Tryz.prog 50 #[.int .u64 x, .int .u64 n] w fun e w' => e = .returned (.int .u64 (mo x n)) ∧ w = w' := by
  by_cases h : x + n ≤ 18446744073709551615
  · have ha : ∀ w : World, (callFunc 22 #[.int .u64 x, .int .u64 n, .int .u64 0]).run Tryz.prog w = .ok (.value (.tuple #[.int .u64 (x + n), .int .u64 0])) w := fun w => by
      rw [add64_run x n 0 x0 n0 (by omega) (by omega), show (x + n + 0) % 18446744073709551616 = x + n by omega, show (x + n + 0) / 18446744073709551616 = 0 by omega]
    rw [mo, if_pos h]
    clear h
    go_enter Tryz.func50, Tryz.ntmps50
    go_wp2_with fail
    go_ret
    exact ⟨rfl, rfl⟩
  · have ha : ∀ w : World, (callFunc 22 #[.int .u64 x, .int .u64 n, .int .u64 0]).run Tryz.prog w = .ok (.value (.tuple #[.int .u64 ((x + n) % 18446744073709551616), .int .u64 1])) w := fun w => by
      rw [add64_run x n 0 x0 n0 (by omega) (by omega), Int.add_zero, show (x + n) / 18446744073709551616 = 1 by omega]
    rw [mo, if_neg h]
    clear h
    go_enter Tryz.func50, Tryz.ntmps50
    go_wp2_with fail
    go_ret
    exact ⟨rfl, rfl⟩
theorem count_is (S j : Nat) (x n : Int) (x0 : 0 ≤ x) (x1 : x ≤ 18446744073709551615) (n0 : 0 ≤ n) (n1 : n ≤ 4611686018427387904) (w : World)
    (hc : w.cell? ⟨S, j, none⟩ = some (.int .u64 x)) (hf : w.frozen? ⟨S, j, none⟩ = false) :
    Calls Tryz.prog 49 #[.pointer (some ⟨S, j, none⟩), .int .i64 n] w fun e w' => e = .returned (.tuple #[]) ∧ w' = w.setCell ⟨S, j, none⟩ (.int .u64 (mo x n)) := by
  go_enter Tryz.func49, Tryz.ntmps49
  go_wp2_with fail
  refine (more_is x n x0 x1 n0 (by omega) _).mono ?_
  rintro e w1 ⟨rfl, rfl⟩
  go_wp2_with fail
  go_end0
  exact ⟨rfl, rfl⟩
theorem counter1_is (S : Nat) (w : World) : Calls Tryz.prog 64 #[.pointer (some ⟨S, 0, none⟩)] w fun e w' => e = .returned (.pointer (some ⟨S, 2, none⟩)) ∧ w = w' := by
  go_enter Tryz.func64, Tryz.ntmps64
  go_wp2
  go_ret
  exact ⟨rfl, rfl⟩
theorem counter2_is (S : Nat) (w : World) : Calls Tryz.prog 65 #[.pointer (some ⟨S, 0, none⟩)] w fun e w' => e = .returned (.pointer (some ⟨S, 3, none⟩)) ∧ w = w' := by
  go_enter Tryz.func65, Tryz.ntmps65
  go_wp2
  go_ret
  exact ⟨rfl, rfl⟩
theorem counter3_is (S : Nat) (w : World) : Calls Tryz.prog 66 #[.pointer (some ⟨S, 0, none⟩)] w fun e w' => e = .returned (.pointer (some ⟨S, 4, none⟩)) ∧ w = w' := by
  go_enter Tryz.func66, Tryz.ntmps66
  go_wp2
  go_ret
  exact ⟨rfl, rfl⟩
theorem counter4_is (S : Nat) (w : World) : Calls Tryz.prog 67 #[.pointer (some ⟨S, 0, none⟩)] w fun e w' => e = .returned (.pointer (some ⟨S, 5, none⟩)) ∧ w = w' := by
  go_enter Tryz.func67, Tryz.ntmps67
  go_wp2
  go_ret
  exact ⟨rfl, rfl⟩
theorem counter5_is (S : Nat) (w : World) : Calls Tryz.prog 68 #[.pointer (some ⟨S, 0, none⟩)] w fun e w' => e = .returned (.pointer (some ⟨S, 6, none⟩)) ∧ w = w' := by
  go_enter Tryz.func68, Tryz.ntmps68
  go_wp2
  go_ret
  exact ⟨rfl, rfl⟩
def ctrE : List MapEntry := [⟨.int .i64 1, .func (.func 64) #[] #[], 0⟩, ⟨.int .i64 2, .func (.func 65) #[] #[], 1⟩, ⟨.int .i64 3, .func (.func 66) #[] #[], 2⟩, ⟨.int .i64 4, .func (.func 67) #[] #[], 3⟩, ⟨.int .i64 5, .func (.func 68) #[] #[], 4⟩]
theorem counterOf_is (w : World) : Calls Tryz.prog 47 #[] w fun e w' => e = .returned (.map (some w.heap.size)) ∧ w' = w.alloc (.map ctrE.toArray 5) := by
  have h0 := run_makeMap (P := Tryz.prog) 100 w
  have p1 := run_put 100 102 Tryz.underlying100 w #[] 0 1 (.func (.func 64) #[] #[]) (by simp [Instr.findNow])
  have p2 := run_put 100 102 Tryz.underlying100 w (ctrE.take 1).toArray 1 2 (.func (.func 65) #[] #[]) (by simp [ctrE, Instr.findNow, Instr.sameNow])
  have p3 := run_put 100 102 Tryz.underlying100 w (ctrE.take 2).toArray 2 3 (.func (.func 66) #[] #[]) (by simp [ctrE, Instr.findNow, Instr.sameNow])
  have p4 := run_put 100 102 Tryz.underlying100 w (ctrE.take 3).toArray 3 4 (.func (.func 67) #[] #[]) (by simp [ctrE, Instr.findNow, Instr.sameNow])
  have p5 := run_put 100 102 Tryz.underlying100 w (ctrE.take 4).toArray 4 5 (.func (.func 68) #[] #[]) (by simp [ctrE, Instr.findNow, Instr.sameNow])
  simp only [ctrE, List.take, List.push_toArray, List.nil_append, List.cons_append, Nat.reduceAdd] at p1 p2 p3 p4 p5
  go_enter Tryz.func47, Tryz.ntmps47
  go_wp2_with fail
  go_ret
  exact ⟨rfl, rfl⟩
end Go.Proofs.YthohoendjipleaaGreatDoor
