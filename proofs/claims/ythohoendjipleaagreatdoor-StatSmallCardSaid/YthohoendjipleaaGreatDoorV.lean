/-
  The law's Valid: a Stat of ten numbers and the load of some deeds. Conditions: the deeds' cells read as said.
-/
import Derived.Test.YthohoendjipleaaGreatDoorD
import Derived.Test.YthohoendjipleaaGreatDoorQt
import Derived.Deep.MidRow
import Derived.Deep.WholeRow
import Derived.Great.BuildSlice
import Derived.Laws.CopyOwn
namespace Go.Proofs.YthohoendjipleaaGreatDoor
open Go.RowKit Go.Sort

theorem mixed : Tryz.prog.follows .mixedOrders = true := by kernel_rfl
theorem quiet_later {f : FuncId} {args : Array Value} {w : World} {d : Nat} {os : Array Obj} {v : Value}
    (h : Calls Tryz.prog f args (grow (redrawn w d) os) fun e w' => e = .returned v ∧ Later (grow (redrawn w d) os) w') : Calls Tryz.prog f args (grow (redrawn w d) os) fun e w'' => e = .returned v ∧ ∃ p : Regrown, w'' = grow (redrawn w p.d) p.os :=
  Calls.regrown_of h
/-- a slice of deeds -/
def Deeds (w : World) (v : Value) (l : List Int) : Prop :=
  (v = .slice none 0 0 ∧ l = []) ∨ (∃ a cap, v = .slice (some a) 0 cap ∧ l = []) ∨ ∃ b o cap, v = .slice (some ⟨b, o, none⟩) l.length cap ∧ b < w.heap.size ∧ l.length ≤ cap ∧ l.length ≤ 9223372036854775807 ∧ ∀ i, i < l.length → w.cell? ⟨b, o + i, none⟩ = some (.int .i64 (l.getD i 0))
theorem Deeds.later {w w' : World} {v : Value} {l : List Int} (h : Deeds w v l) (hl : Later w w') : Deeds w' v l := by
  rcases h with h | h | ⟨b, o, cap, h1, h2, h3, h4, h5⟩
  · exact .inl h
  · exact .inr (.inl h)
  · exact .inr (.inr ⟨b, o, cap, h1, Nat.lt_of_lt_of_le h2 hl.size, h3, h4, fun i hi => cell_at hl (h5 i hi) h2⟩)
theorem Of_zero (a : Addr) (cap : Nat) (w : World) : Calls Tryz.prog 29 #[.slice (some a) 0 cap] w fun e w' => e = .returned (.complex .f64 0 0) ∧ Later w w' := by
  go_enter Tryz.func29, Tryz.ntmps29
  go_wp2_with fail
  refine wp_loop_rounds 1 ?_
  rw [rounds_succ]
  go_wp2_with fail
  go_ret
  exact ⟨rfl, by repeat (first | exact Later.refl _ | assumption | apply Later.alloc | apply Later.drew | apply Later.drewN | refine Later.trans ?_ (by assumption))⟩
theorem getD_take (l : List Int) (k i : Nat) (h : i < k) : (l.take k).getD i 0 = l.getD i 0 := by
  simp [h]

set_option maxRecDepth 100000 in
set_option maxHeartbeats 4000000 in
theorem Valid_is (n : Nat → Int) (hn : ∀ j, 0 ≤ n j ∧ n j ≤ 4294967295) (v : Value) (l : List Int) (w : World) (hd : Deeds w v l) :
    Calls Tryz.prog 11 #[.agg #[.int .u32 (n 0), .int .u32 (n 1), .int .u32 (n 2), .int .u32 (n 3), .int .u32 (n 4), .int .u32 (n 5), .int .u32 (n 6), .int .u32 (n 7), .int .u32 (n 8), .int .u32 (n 9)], v] w fun e w' => e = .returned (.agg #[.int .u64 (n 0), .int .u64 (n 1), .int .u64 (n 2), .int .u64 (n 3), .int .u64 (n 4), .int .u64 (n 5), .int .u64 (n 6), .int .u64 (n 7), .int .u64 (n 8), .int .u64 (n 9), .complex .f64 (ldR (l.take 100)) (ldI (l.take 100))]) ∧ Later w w' := by
  have n0 := hn 0
  have n1 := hn 1
  have n2 := hn 2
  have n3 := hn 3
  have n4 := hn 4
  have n5 := hn 5
  have n6 := hn 6
  have n7 := hn 7
  have n8 := hn 8
  have n9 := hn 9
  clear hn
  obtain ⟨W, hW⟩ : ∃ W, ((w.alloc (.cells #[.int .u32 (n 0), .int .u32 (n 1), .int .u32 (n 2), .int .u32 (n 3), .int .u32 (n 4), .int .u32 (n 5), .int .u32 (n 6), .int .u32 (n 7), .int .u32 (n 8), .int .u32 (n 9)] 42)).alloc (.cells #[.int .u64 0, .int .u64 0, .int .u64 0, .int .u64 0, .int .u64 0, .int .u64 0, .int .u64 0, .int .u64 0, .int .u64 0, .int .u64 0, .complex .f64 0 0] 27)) = W := ⟨_, rfl⟩
  have k0 := cell_regrown (show W.cell? ⟨w.heap.size, 0, none⟩ = some (.int .u32 (n 0)) by rw [← hW]; simp)
  have k1 := cell_regrown (show W.cell? ⟨w.heap.size, 1, none⟩ = some (.int .u32 (n 1)) by rw [← hW]; simp)
  have k2 := cell_regrown (show W.cell? ⟨w.heap.size, 2, none⟩ = some (.int .u32 (n 2)) by rw [← hW]; simp)
  have k3 := cell_regrown (show W.cell? ⟨w.heap.size, 3, none⟩ = some (.int .u32 (n 3)) by rw [← hW]; simp)
  have k4 := cell_regrown (show W.cell? ⟨w.heap.size, 4, none⟩ = some (.int .u32 (n 4)) by rw [← hW]; simp)
  have k5 := cell_regrown (show W.cell? ⟨w.heap.size, 5, none⟩ = some (.int .u32 (n 5)) by rw [← hW]; simp)
  have k6 := cell_regrown (show W.cell? ⟨w.heap.size, 6, none⟩ = some (.int .u32 (n 6)) by rw [← hW]; simp)
  have k7 := cell_regrown (show W.cell? ⟨w.heap.size, 7, none⟩ = some (.int .u32 (n 7)) by rw [← hW]; simp)
  have k8 := cell_regrown (show W.cell? ⟨w.heap.size, 8, none⟩ = some (.int .u32 (n 8)) by rw [← hW]; simp)
  have k9 := cell_regrown (show W.cell? ⟨w.heap.size, 9, none⟩ = some (.int .u32 (n 9)) by rw [← hW]; simp)
  have hlW : Later w W := by rw [← hW]; exact ((Later.refl w).alloc _).alloc _
  have HB : W.heap[w.heap.size + 1]? = some (.cells #[.int .u64 0, .int .u64 0, .int .u64 0, .int .u64 0, .int .u64 0, .int .u64 0, .int .u64 0, .int .u64 0, .int .u64 0, .int .u64 0, .complex .f64 0 0] 27) := by
    rw [← hW]
    have h9 : (w.alloc (.cells #[.int .u32 (n 0), .int .u32 (n 1), .int .u32 (n 2), .int .u32 (n 3), .int .u32 (n 4), .int .u32 (n 5), .int .u32 (n 6), .int .u32 (n 7), .int .u32 (n 8), .int .u32 (n 9)] 42)).heap.size = w.heap.size + 1 := by simp
    rw [← h9]
    exact heap_alloc_last _ _
  have HBs : w.heap.size + 1 < W.heap.size := by rw [← hW]; simp
  have hdW := hd.later hlW
  clear hd
  have e0 : IntKind.u64.wrap (n 0) = n 0 := by rw [IntKind.wrap_u64]; omega
  have e1 : IntKind.u64.wrap (n 1) = n 1 := by rw [IntKind.wrap_u64]; omega
  have e2 : IntKind.u64.wrap (n 2) = n 2 := by rw [IntKind.wrap_u64]; omega
  have e3 : IntKind.u64.wrap (n 3) = n 3 := by rw [IntKind.wrap_u64]; omega
  have e4 : IntKind.u64.wrap (n 4) = n 4 := by rw [IntKind.wrap_u64]; omega
  have e5 : IntKind.u64.wrap (n 5) = n 5 := by rw [IntKind.wrap_u64]; omega
  have e6 : IntKind.u64.wrap (n 6) = n 6 := by rw [IntKind.wrap_u64]; omega
  have e7 : IntKind.u64.wrap (n 7) = n 7 := by rw [IntKind.wrap_u64]; omega
  have e8 : IntKind.u64.wrap (n 8) = n 8 := by rw [IntKind.wrap_u64]; omega
  have e9 : IntKind.u64.wrap (n 9) = n 9 := by rw [IntKind.wrap_u64]; omega
  rcases hdW with ⟨rfl, rfl⟩ | ⟨a, cap, rfl, rfl⟩ | ⟨b, o, cap, rfl, hb, hcap, hlen, hc⟩
  · have c19 := fun d os => quiet_later (Of_nil (grow (redrawn W d) os))
    go_enter Tryz.func11, Tryz.ntmps11
    go_wp2_with fail
    try rw [hW]
    clear hW
    refine wp_region_below_tail 37 mixed (by kernel_rfl) ?_
    simp only [List.take_succ_cons, List.take_zero, List.drop_succ_cons, List.drop_zero]
    repeat (quiet_step (first | with_reducible exact c19 _ _))
    refine wpQuiet_nil ?_
    intro w2 hw2
    have hl2 : Later W w2 := by obtain ⟨p, rfl⟩ := hw2; exact below_regrown W p.d p.os
    have HB2 : w2.heap[w.heap.size + 1]? = some (.cells #[.int .u64 0, .int .u64 0, .int .u64 0, .int .u64 0, .int .u64 0, .int .u64 0, .int .u64 0, .int .u64 0, .int .u64 0, .int .u64 0, .complex .f64 0 0] 27) := (Below.block hl2 _ HBs).trans HB
    refine wpList_store_rowTo rfl 27 (.tmp 4) (.tmp 41) rfl rfl (w.heap.size + 1) #[.int .u64 (n 0), .int .u64 (n 1), .int .u64 (n 2), .int .u64 (n 3), .int .u64 (n 4), .int .u64 (n 5), .int .u64 (n 6), .int .u64 (n 7), .int .u64 (n 8), .int .u64 (n 9), .complex .f64 (0) (0)] rfl rfl 27 #[.int .u64 0, .int .u64 0, .int .u64 0, .int .u64 0, .int .u64 0, .int .u64 0, .int .u64 0, .int .u64 0, .int .u64 0, .int .u64 0, .complex .f64 0 0] HB2 (by kernel_rfl) rfl (by kernel_rfl) ?_
    have hl3 : Later w (w2.setRow (w.heap.size + 1) #[.int .u64 (n 0), .int .u64 (n 1), .int .u64 (n 2), .int .u64 (n 3), .int .u64 (n 4), .int .u64 (n 5), .int .u64 (n 6), .int .u64 (n 7), .int .u64 (n 8), .int .u64 (n 9), .complex .f64 (0) (0)]) := below_setRow (hlW.trans hl2) (by omega) _
    have u := fun j => cell_setRow_same w2 (w.heap.size + 1) j _ #[.int .u64 (n 0), .int .u64 (n 1), .int .u64 (n 2), .int .u64 (n 3), .int .u64 (n 4), .int .u64 (n 5), .int .u64 (n 6), .int .u64 (n 7), .int .u64 (n 8), .int .u64 (n 9), .complex .f64 (0) (0)] 27 (0, 0) HB2
    have u0 := u 0
    have u1 := u 1
    have u2 := u 2
    have u3 := u 3
    have u4 := u 4
    have u5 := u 5
    have u6 := u 6
    have u7 := u 7
    have u8 := u 8
    have u9 := u 9
    have u10 := u 10
    clear u
    generalize w2.setRow (w.heap.size + 1) #[.int .u64 (n 0), .int .u64 (n 1), .int .u64 (n 2), .int .u64 (n 3), .int .u64 (n 4), .int .u64 (n 5), .int .u64 (n 6), .int .u64 (n 7), .int .u64 (n 8), .int .u64 (n 9), .complex .f64 (0) (0)] = w3 at *
    clear HB2 HB HBs hw2 hl2 c19 k0 k1 k2 k3 k4 k5 k6 k7 k8 k9
    go_wp2_with fail
    exact bodyPost_ret (v := .agg #[.int .u64 (n 0), .int .u64 (n 1), .int .u64 (n 2), .int .u64 (n 3), .int .u64 (n 4), .int .u64 (n 5), .int .u64 (n 6), .int .u64 (n 7), .int .u64 (n 8), .int .u64 (n 9), .complex .f64 (0) (0)]) (by simp [results, Tryz.results11, go_sem, u0, u1, u2, u3, u4, u5, u6, u7, u8, u9, u10]) rfl ⟨rfl, hl3⟩
  · have c19 := fun d os => quiet_later (Of_zero a cap (grow (redrawn W d) os))
    go_enter Tryz.func11, Tryz.ntmps11
    go_wp2_with fail
    try rw [hW]
    clear hW
    refine wp_region_below_tail 37 mixed (by kernel_rfl) ?_
    simp only [List.take_succ_cons, List.take_zero, List.drop_succ_cons, List.drop_zero]
    repeat (quiet_step (first | with_reducible exact c19 _ _))
    refine wpQuiet_nil ?_
    intro w2 hw2
    have hl2 : Later W w2 := by obtain ⟨p, rfl⟩ := hw2; exact below_regrown W p.d p.os
    have HB2 : w2.heap[w.heap.size + 1]? = some (.cells #[.int .u64 0, .int .u64 0, .int .u64 0, .int .u64 0, .int .u64 0, .int .u64 0, .int .u64 0, .int .u64 0, .int .u64 0, .int .u64 0, .complex .f64 0 0] 27) := (Below.block hl2 _ HBs).trans HB
    refine wpList_store_rowTo rfl 27 (.tmp 4) (.tmp 41) rfl rfl (w.heap.size + 1) #[.int .u64 (n 0), .int .u64 (n 1), .int .u64 (n 2), .int .u64 (n 3), .int .u64 (n 4), .int .u64 (n 5), .int .u64 (n 6), .int .u64 (n 7), .int .u64 (n 8), .int .u64 (n 9), .complex .f64 (0) (0)] rfl rfl 27 #[.int .u64 0, .int .u64 0, .int .u64 0, .int .u64 0, .int .u64 0, .int .u64 0, .int .u64 0, .int .u64 0, .int .u64 0, .int .u64 0, .complex .f64 0 0] HB2 (by kernel_rfl) rfl (by kernel_rfl) ?_
    have hl3 : Later w (w2.setRow (w.heap.size + 1) #[.int .u64 (n 0), .int .u64 (n 1), .int .u64 (n 2), .int .u64 (n 3), .int .u64 (n 4), .int .u64 (n 5), .int .u64 (n 6), .int .u64 (n 7), .int .u64 (n 8), .int .u64 (n 9), .complex .f64 (0) (0)]) := below_setRow (hlW.trans hl2) (by omega) _
    have u := fun j => cell_setRow_same w2 (w.heap.size + 1) j _ #[.int .u64 (n 0), .int .u64 (n 1), .int .u64 (n 2), .int .u64 (n 3), .int .u64 (n 4), .int .u64 (n 5), .int .u64 (n 6), .int .u64 (n 7), .int .u64 (n 8), .int .u64 (n 9), .complex .f64 (0) (0)] 27 (0, 0) HB2
    have u0 := u 0
    have u1 := u 1
    have u2 := u 2
    have u3 := u 3
    have u4 := u 4
    have u5 := u 5
    have u6 := u 6
    have u7 := u 7
    have u8 := u 8
    have u9 := u 9
    have u10 := u 10
    clear u
    generalize w2.setRow (w.heap.size + 1) #[.int .u64 (n 0), .int .u64 (n 1), .int .u64 (n 2), .int .u64 (n 3), .int .u64 (n 4), .int .u64 (n 5), .int .u64 (n 6), .int .u64 (n 7), .int .u64 (n 8), .int .u64 (n 9), .complex .f64 (0) (0)] = w3 at *
    clear HB2 HB HBs hw2 hl2 c19 k0 k1 k2 k3 k4 k5 k6 k7 k8 k9
    go_wp2_with fail
    exact bodyPost_ret (v := .agg #[.int .u64 (n 0), .int .u64 (n 1), .int .u64 (n 2), .int .u64 (n 3), .int .u64 (n 4), .int .u64 (n 5), .int .u64 (n 6), .int .u64 (n 7), .int .u64 (n 8), .int .u64 (n 9), .complex .f64 (0) (0)]) (by simp [results, Tryz.results11, go_sem, u0, u1, u2, u3, u4, u5, u6, u7, u8, u9, u10]) rfl ⟨rfl, hl3⟩
  · have HC := Lib.hid hc
    have hl100 : (l.take 100).length = min l.length 100 := by rw [List.length_take]; omega
    have hc2 : ∀ i, i < (l.take 100).length → W.cell? ⟨b, o + i, none⟩ = some (.int .i64 ((l.take 100).getD i 0)) := fun i hi => by
      rw [getD_take l 100 i (by omega)]; exact hc i (by omega)
    clear hc
    have c19 := fun d os => quiet_later (Of_is b o (l.take 100) cap (by omega) (grow (redrawn W d) os) (Nat.lt_of_lt_of_le hb (by simp [grow, redrawn])) (fun i hi => cell_regrown (hc2 i hi) d os))
    have HC2 := Lib.hid hc2
    clear hc2
    by_cases h100 : l.length ≤ 100
    · have h9 : (l.take 100).length = l.length := by omega
      rw [h9] at c19
      have hmin : (if (100 : Int) < (l.length : Int) then (100 : Int) else (l.length : Int)) = (l.length : Int) := by rw [if_neg (by omega)]
      have hcap2 : (l.length : Int) ≤ (cap : Int) := by omega
      clear h9 hl100
      obtain ⟨A, hA⟩ : ∃ A, ldR (l.take 100) = A := ⟨_, rfl⟩
      obtain ⟨B, hB⟩ : ∃ B, ldI (l.take 100) = B := ⟨_, rfl⟩
      rw [hA, hB] at c19 ⊢
      clear hA hB
      go_enter Tryz.func11, Tryz.ntmps11
      go_wp2_with fail
      try rw [hW]
      clear hW
      refine wp_region_below_tail 37 mixed (by kernel_rfl) ?_
      simp only [List.take_succ_cons, List.take_zero, List.drop_succ_cons, List.drop_zero]
      repeat (quiet_step (first | with_reducible exact c19 _ _))
      refine wpQuiet_nil ?_
      intro w2 hw2
      have hl2 : Later W w2 := by obtain ⟨p, rfl⟩ := hw2; exact below_regrown W p.d p.os
      have HB2 : w2.heap[w.heap.size + 1]? = some (.cells #[.int .u64 0, .int .u64 0, .int .u64 0, .int .u64 0, .int .u64 0, .int .u64 0, .int .u64 0, .int .u64 0, .int .u64 0, .int .u64 0, .complex .f64 0 0] 27) := (Below.block hl2 _ HBs).trans HB
      refine wpList_store_rowTo rfl 27 (.tmp 4) (.tmp 41) rfl rfl (w.heap.size + 1) #[.int .u64 (n 0), .int .u64 (n 1), .int .u64 (n 2), .int .u64 (n 3), .int .u64 (n 4), .int .u64 (n 5), .int .u64 (n 6), .int .u64 (n 7), .int .u64 (n 8), .int .u64 (n 9), .complex .f64 (A) (B)] rfl rfl 27 #[.int .u64 0, .int .u64 0, .int .u64 0, .int .u64 0, .int .u64 0, .int .u64 0, .int .u64 0, .int .u64 0, .int .u64 0, .int .u64 0, .complex .f64 0 0] HB2 (by kernel_rfl) rfl (by kernel_rfl) ?_
      have hl3 : Later w (w2.setRow (w.heap.size + 1) #[.int .u64 (n 0), .int .u64 (n 1), .int .u64 (n 2), .int .u64 (n 3), .int .u64 (n 4), .int .u64 (n 5), .int .u64 (n 6), .int .u64 (n 7), .int .u64 (n 8), .int .u64 (n 9), .complex .f64 (A) (B)]) := below_setRow (hlW.trans hl2) (by omega) _
      have u := fun j => cell_setRow_same w2 (w.heap.size + 1) j _ #[.int .u64 (n 0), .int .u64 (n 1), .int .u64 (n 2), .int .u64 (n 3), .int .u64 (n 4), .int .u64 (n 5), .int .u64 (n 6), .int .u64 (n 7), .int .u64 (n 8), .int .u64 (n 9), .complex .f64 (A) (B)] 27 (0, 0) HB2
      have u0 := u 0
      have u1 := u 1
      have u2 := u 2
      have u3 := u 3
      have u4 := u 4
      have u5 := u 5
      have u6 := u 6
      have u7 := u 7
      have u8 := u 8
      have u9 := u 9
      have u10 := u 10
      clear u
      generalize w2.setRow (w.heap.size + 1) #[.int .u64 (n 0), .int .u64 (n 1), .int .u64 (n 2), .int .u64 (n 3), .int .u64 (n 4), .int .u64 (n 5), .int .u64 (n 6), .int .u64 (n 7), .int .u64 (n 8), .int .u64 (n 9), .complex .f64 (A) (B)] = w3 at *
      clear HB2 HB HBs hw2 hl2 c19 k0 k1 k2 k3 k4 k5 k6 k7 k8 k9
      go_wp2_with fail
      exact bodyPost_ret (v := .agg #[.int .u64 (n 0), .int .u64 (n 1), .int .u64 (n 2), .int .u64 (n 3), .int .u64 (n 4), .int .u64 (n 5), .int .u64 (n 6), .int .u64 (n 7), .int .u64 (n 8), .int .u64 (n 9), .complex .f64 (A) (B)]) (by simp [results, Tryz.results11, go_sem, u0, u1, u2, u3, u4, u5, u6, u7, u8, u9, u10]) rfl ⟨rfl, hl3⟩
    · have h9 : (l.take 100).length = 100 := by omega
      rw [h9] at c19
      have hmin : (if (100 : Int) < (l.length : Int) then (100 : Int) else (l.length : Int)) = (100 : Int) := by rw [if_pos (by omega)]
      have hcap2 : (100 : Int) ≤ (cap : Int) := by omega
      clear h9 hl100
      obtain ⟨A, hA⟩ : ∃ A, ldR (l.take 100) = A := ⟨_, rfl⟩
      obtain ⟨B, hB⟩ : ∃ B, ldI (l.take 100) = B := ⟨_, rfl⟩
      rw [hA, hB] at c19 ⊢
      clear hA hB
      go_enter Tryz.func11, Tryz.ntmps11
      go_wp2_with fail
      try rw [hW]
      clear hW
      refine wp_region_below_tail 37 mixed (by kernel_rfl) ?_
      simp only [List.take_succ_cons, List.take_zero, List.drop_succ_cons, List.drop_zero]
      repeat (quiet_step (first | with_reducible exact c19 _ _))
      refine wpQuiet_nil ?_
      intro w2 hw2
      have hl2 : Later W w2 := by obtain ⟨p, rfl⟩ := hw2; exact below_regrown W p.d p.os
      have HB2 : w2.heap[w.heap.size + 1]? = some (.cells #[.int .u64 0, .int .u64 0, .int .u64 0, .int .u64 0, .int .u64 0, .int .u64 0, .int .u64 0, .int .u64 0, .int .u64 0, .int .u64 0, .complex .f64 0 0] 27) := (Below.block hl2 _ HBs).trans HB
      refine wpList_store_rowTo rfl 27 (.tmp 4) (.tmp 41) rfl rfl (w.heap.size + 1) #[.int .u64 (n 0), .int .u64 (n 1), .int .u64 (n 2), .int .u64 (n 3), .int .u64 (n 4), .int .u64 (n 5), .int .u64 (n 6), .int .u64 (n 7), .int .u64 (n 8), .int .u64 (n 9), .complex .f64 (A) (B)] rfl rfl 27 #[.int .u64 0, .int .u64 0, .int .u64 0, .int .u64 0, .int .u64 0, .int .u64 0, .int .u64 0, .int .u64 0, .int .u64 0, .int .u64 0, .complex .f64 0 0] HB2 (by kernel_rfl) rfl (by kernel_rfl) ?_
      have hl3 : Later w (w2.setRow (w.heap.size + 1) #[.int .u64 (n 0), .int .u64 (n 1), .int .u64 (n 2), .int .u64 (n 3), .int .u64 (n 4), .int .u64 (n 5), .int .u64 (n 6), .int .u64 (n 7), .int .u64 (n 8), .int .u64 (n 9), .complex .f64 (A) (B)]) := below_setRow (hlW.trans hl2) (by omega) _
      have u := fun j => cell_setRow_same w2 (w.heap.size + 1) j _ #[.int .u64 (n 0), .int .u64 (n 1), .int .u64 (n 2), .int .u64 (n 3), .int .u64 (n 4), .int .u64 (n 5), .int .u64 (n 6), .int .u64 (n 7), .int .u64 (n 8), .int .u64 (n 9), .complex .f64 (A) (B)] 27 (0, 0) HB2
      have u0 := u 0
      have u1 := u 1
      have u2 := u 2
      have u3 := u 3
      have u4 := u 4
      have u5 := u 5
      have u6 := u 6
      have u7 := u 7
      have u8 := u 8
      have u9 := u 9
      have u10 := u 10
      clear u
      generalize w2.setRow (w.heap.size + 1) #[.int .u64 (n 0), .int .u64 (n 1), .int .u64 (n 2), .int .u64 (n 3), .int .u64 (n 4), .int .u64 (n 5), .int .u64 (n 6), .int .u64 (n 7), .int .u64 (n 8), .int .u64 (n 9), .complex .f64 (A) (B)] = w3 at *
      clear HB2 HB HBs hw2 hl2 c19 k0 k1 k2 k3 k4 k5 k6 k7 k8 k9
      go_wp2_with fail
      exact bodyPost_ret (v := .agg #[.int .u64 (n 0), .int .u64 (n 1), .int .u64 (n 2), .int .u64 (n 3), .int .u64 (n 4), .int .u64 (n 5), .int .u64 (n 6), .int .u64 (n 7), .int .u64 (n 8), .int .u64 (n 9), .complex .f64 (A) (B)]) (by simp [results, Tryz.results11, go_sem, u0, u1, u2, u3, u4, u5, u6, u7, u8, u9, u10]) rfl ⟨rfl, hl3⟩
end Go.Proofs.YthohoendjipleaaGreatDoor
