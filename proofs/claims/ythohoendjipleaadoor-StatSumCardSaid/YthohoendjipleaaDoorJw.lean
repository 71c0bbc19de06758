/-
  Package stat: Join, walked. Conditions: the numbers are words; the parts of the loads are from 0 to 2.
-/
import Derived.Test.YthohoendjipleaaDoorJm
import Derived.Test.YthohoendjipleaaDoorQt
namespace Go.Proofs.YthohoendjipleaaDoor
open Go.RowKit Go.Sort
set_option linter.unusedSimpArgs false

theorem join_start (w : World) (x z : Nat → Int) (a b a' b' : Nat) : ∃ W0, ((w.alloc (.cells #[.int .u64 (x 0), .int .u64 (x 1), .int .u64 (x 2), .int .u64 (x 3), .int .u64 (x 4), .int .u64 (x 5), .int .u64 (x 6), .int .u64 (x 7), .int .u64 (x 8), .int .u64 (x 9), .complex .f64 a b] 29)).alloc (.cells #[.int .u64 (z 0), .int .u64 (z 1), .int .u64 (z 2), .int .u64 (z 3), .int .u64 (z 4), .int .u64 (z 5), .int .u64 (z 6), .int .u64 (z 7), .int .u64 (z 8), .int .u64 (z 9), .complex .f64 a' b'] 29)).alloc (.cells #[.int .u64 0, .int .u64 0, .int .u64 0, .int .u64 0, .int .u64 0, .int .u64 0, .int .u64 0, .int .u64 0, .int .u64 0, .int .u64 0, .complex .f64 0 0] 29) = W0 ∧ Later w W0 ∧ W0.heap.size = w.heap.size + 3 ∧
    StAt W0 w.heap.size x a b ∧ StAt W0 (w.heap.size + 1) z a' b' ∧ W0.heap[w.heap.size + 2]? = some (.cells ZST 29 (0, 0)) ∧ ∀ j, W0.frozen? ⟨w.heap.size, j, none⟩ = false := by
  refine ⟨_, rfl, (((Later.refl w).alloc _).alloc _).alloc _, by simp, ?_, ?_, ?_, fun j => ?_⟩
  · have h1 : StAt (w.alloc (.cells #[.int .u64 (x 0), .int .u64 (x 1), .int .u64 (x 2), .int .u64 (x 3), .int .u64 (x 4), .int .u64 (x 5), .int .u64 (x 6), .int .u64 (x 7), .int .u64 (x 8), .int .u64 (x 9), .complex .f64 a b] 29)) w.heap.size x a b := StAt.of_block (heap_alloc_last w _)
    have h2 : StAt ((w.alloc (.cells #[.int .u64 (x 0), .int .u64 (x 1), .int .u64 (x 2), .int .u64 (x 3), .int .u64 (x 4), .int .u64 (x 5), .int .u64 (x 6), .int .u64 (x 7), .int .u64 (x 8), .int .u64 (x 9), .complex .f64 a b] 29)).alloc (.cells #[.int .u64 (z 0), .int .u64 (z 1), .int .u64 (z 2), .int .u64 (z 3), .int .u64 (z 4), .int .u64 (z 5), .int .u64 (z 6), .int .u64 (z 7), .int .u64 (z 8), .int .u64 (z 9), .complex .f64 a' b'] 29)) w.heap.size x a b := h1.later ((Later.refl (w.alloc (.cells #[.int .u64 (x 0), .int .u64 (x 1), .int .u64 (x 2), .int .u64 (x 3), .int .u64 (x 4), .int .u64 (x 5), .int .u64 (x 6), .int .u64 (x 7), .int .u64 (x 8), .int .u64 (x 9), .complex .f64 a b] 29))).alloc _)
    exact h2.later ((Later.refl ((w.alloc (.cells #[.int .u64 (x 0), .int .u64 (x 1), .int .u64 (x 2), .int .u64 (x 3), .int .u64 (x 4), .int .u64 (x 5), .int .u64 (x 6), .int .u64 (x 7), .int .u64 (x 8), .int .u64 (x 9), .complex .f64 a b] 29)).alloc (.cells #[.int .u64 (z 0), .int .u64 (z 1), .int .u64 (z 2), .int .u64 (z 3), .int .u64 (z 4), .int .u64 (z 5), .int .u64 (z 6), .int .u64 (z 7), .int .u64 (z 8), .int .u64 (z 9), .complex .f64 a' b'] 29))).alloc _)
  · have h1 : StAt ((w.alloc (.cells #[.int .u64 (x 0), .int .u64 (x 1), .int .u64 (x 2), .int .u64 (x 3), .int .u64 (x 4), .int .u64 (x 5), .int .u64 (x 6), .int .u64 (x 7), .int .u64 (x 8), .int .u64 (x 9), .complex .f64 a b] 29)).alloc (.cells #[.int .u64 (z 0), .int .u64 (z 1), .int .u64 (z 2), .int .u64 (z 3), .int .u64 (z 4), .int .u64 (z 5), .int .u64 (z 6), .int .u64 (z 7), .int .u64 (z 8), .int .u64 (z 9), .complex .f64 a' b'] 29)) (w.alloc (.cells #[.int .u64 (x 0), .int .u64 (x 1), .int .u64 (x 2), .int .u64 (x 3), .int .u64 (x 4), .int .u64 (x 5), .int .u64 (x 6), .int .u64 (x 7), .int .u64 (x 8), .int .u64 (x 9), .complex .f64 a b] 29)).heap.size z a' b' := StAt.of_block (heap_alloc_last (w.alloc (.cells #[.int .u64 (x 0), .int .u64 (x 1), .int .u64 (x 2), .int .u64 (x 3), .int .u64 (x 4), .int .u64 (x 5), .int .u64 (x 6), .int .u64 (x 7), .int .u64 (x 8), .int .u64 (x 9), .complex .f64 a b] 29)) _)
    have := h1.later ((Later.refl ((w.alloc (.cells #[.int .u64 (x 0), .int .u64 (x 1), .int .u64 (x 2), .int .u64 (x 3), .int .u64 (x 4), .int .u64 (x 5), .int .u64 (x 6), .int .u64 (x 7), .int .u64 (x 8), .int .u64 (x 9), .complex .f64 a b] 29)).alloc (.cells #[.int .u64 (z 0), .int .u64 (z 1), .int .u64 (z 2), .int .u64 (z 3), .int .u64 (z 4), .int .u64 (z 5), .int .u64 (z 6), .int .u64 (z 7), .int .u64 (z 8), .int .u64 (z 9), .complex .f64 a' b'] 29))).alloc (.cells #[.int .u64 0, .int .u64 0, .int .u64 0, .int .u64 0, .int .u64 0, .int .u64 0, .int .u64 0, .int .u64 0, .int .u64 0, .int .u64 0, .complex .f64 0 0] 29))
    rwa [show (w.alloc (.cells #[.int .u64 (x 0), .int .u64 (x 1), .int .u64 (x 2), .int .u64 (x 3), .int .u64 (x 4), .int .u64 (x 5), .int .u64 (x 6), .int .u64 (x 7), .int .u64 (x 8), .int .u64 (x 9), .complex .f64 a b] 29)).heap.size = w.heap.size + 1 by simp] at this
  · have := heap_alloc_last ((w.alloc (.cells #[.int .u64 (x 0), .int .u64 (x 1), .int .u64 (x 2), .int .u64 (x 3), .int .u64 (x 4), .int .u64 (x 5), .int .u64 (x 6), .int .u64 (x 7), .int .u64 (x 8), .int .u64 (x 9), .complex .f64 a b] 29)).alloc (.cells #[.int .u64 (z 0), .int .u64 (z 1), .int .u64 (z 2), .int .u64 (z 3), .int .u64 (z 4), .int .u64 (z 5), .int .u64 (z 6), .int .u64 (z 7), .int .u64 (z 8), .int .u64 (z 9), .complex .f64 a' b'] 29)) (.cells #[.int .u64 0, .int .u64 0, .int .u64 0, .int .u64 0, .int .u64 0, .int .u64 0, .int .u64 0, .int .u64 0, .int .u64 0, .int .u64 0, .complex .f64 0 0] 29)
    rwa [show ((w.alloc (.cells #[.int .u64 (x 0), .int .u64 (x 1), .int .u64 (x 2), .int .u64 (x 3), .int .u64 (x 4), .int .u64 (x 5), .int .u64 (x 6), .int .u64 (x 7), .int .u64 (x 8), .int .u64 (x 9), .complex .f64 a b] 29)).alloc (.cells #[.int .u64 (z 0), .int .u64 (z 1), .int .u64 (z 2), .int .u64 (z 3), .int .u64 (z 4), .int .u64 (z 5), .int .u64 (z 6), .int .u64 (z 7), .int .u64 (z 8), .int .u64 (z 9), .complex .f64 a' b'] 29)).heap.size = w.heap.size + 2 by simp] at this
  · have h1 := heap_alloc_last w (.cells #[.int .u64 (x 0), .int .u64 (x 1), .int .u64 (x 2), .int .u64 (x 3), .int .u64 (x 4), .int .u64 (x 5), .int .u64 (x 6), .int .u64 (x 7), .int .u64 (x 8), .int .u64 (x 9), .complex .f64 a b] 29)
    have h2 : (((w.alloc (.cells #[.int .u64 (x 0), .int .u64 (x 1), .int .u64 (x 2), .int .u64 (x 3), .int .u64 (x 4), .int .u64 (x 5), .int .u64 (x 6), .int .u64 (x 7), .int .u64 (x 8), .int .u64 (x 9), .complex .f64 a b] 29)).alloc (.cells #[.int .u64 (z 0), .int .u64 (z 1), .int .u64 (z 2), .int .u64 (z 3), .int .u64 (z 4), .int .u64 (z 5), .int .u64 (z 6), .int .u64 (z 7), .int .u64 (z 8), .int .u64 (z 9), .complex .f64 a' b'] 29)).alloc (.cells #[.int .u64 0, .int .u64 0, .int .u64 0, .int .u64 0, .int .u64 0, .int .u64 0, .int .u64 0, .int .u64 0, .int .u64 0, .int .u64 0, .complex .f64 0 0] 29)).heap[w.heap.size]? = some (.cells #[.int .u64 (x 0), .int .u64 (x 1), .int .u64 (x 2), .int .u64 (x 3), .int .u64 (x 4), .int .u64 (x 5), .int .u64 (x 6), .int .u64 (x 7), .int .u64 (x 8), .int .u64 (x 9), .complex .f64 a b] 29 (0, 0)) :=
      (Below.block (((Later.refl (w.alloc (.cells #[.int .u64 (x 0), .int .u64 (x 1), .int .u64 (x 2), .int .u64 (x 3), .int .u64 (x 4), .int .u64 (x 5), .int .u64 (x 6), .int .u64 (x 7), .int .u64 (x 8), .int .u64 (x 9), .complex .f64 a b] 29))).alloc (.cells #[.int .u64 (z 0), .int .u64 (z 1), .int .u64 (z 2), .int .u64 (z 3), .int .u64 (z 4), .int .u64 (z 5), .int .u64 (z 6), .int .u64 (z 7), .int .u64 (z 8), .int .u64 (z 9), .complex .f64 a' b'] 29)).alloc (.cells #[.int .u64 0, .int .u64 0, .int .u64 0, .int .u64 0, .int .u64 0, .int .u64 0, .int .u64 0, .int .u64 0, .int .u64 0, .int .u64 0, .complex .f64 0 0] 29)) _ (by simp)).trans h1
    simp [World.frozen?, h2]
set_option maxRecDepth 100000 in
set_option maxHeartbeats 6400000 in
theorem Join_is (x z : Nat → Int) (hx : okX x) (hz : okX z) (a b a' b' : Nat) (ha : a ≤ W2) (hb : b ≤ W2) (ha' : a' ≤ W2) (hb' : b' ≤ W2) (w : World) :
    Calls Tryd.prog 17 #[(.agg #[.int .u64 (x 0), .int .u64 (x 1), .int .u64 (x 2), .int .u64 (x 3), .int .u64 (x 4), .int .u64 (x 5), .int .u64 (x 6), .int .u64 (x 7), .int .u64 (x 8), .int .u64 (x 9), .complex .f64 a b]), (.agg #[.int .u64 (z 0), .int .u64 (z 1), .int .u64 (z 2), .int .u64 (z 3), .int .u64 (z 4), .int .u64 (z 5), .int .u64 (z 6), .int .u64 (z 7), .int .u64 (z 8), .int .u64 (z 9), .complex .f64 a' b'])] w fun e w' => e = .returned (.tuple #[statV (jnX x z 10) (max a a') (max b b'), .bool true]) ∧ Later w w' := by
  obtain ⟨p, hp⟩ : ∃ p, max a a' = p := ⟨_, rfl⟩
  obtain ⟨q, hq⟩ : ∃ q, max b b' = q := ⟨_, rfl⟩
  have HM := Lib.hid (And.intro (fun ts t w => max_run ts t a a' ha ha' w) (fun ts t w => max_run ts t b b' hb hb' w))
  rw [hp, hq] at HM
  rw [hp, hq]
  have hst := run_store_complex Tryd.prog
  have HX := Lib.hid hx
  have HZ := Lib.hid hz
  clear hx hz hp hq
  have HJ := Lib.hid (join_start w x z a b a' b')
  go_enter Tryd.func17, Tryd.ntmps17
  go_wp2_with fail
  refine (statIs_is _ _ _ _ _ _ _ _ _ _ a b ha hb _).mono ?_
  rintro e w1 ⟨rfl, hb1⟩
  obtain ⟨W0, hW0, hl0, hs0, hS0, hO0, hR0, hF0⟩ := HJ.out
  rw [hW0] at hb1
  have hS1 := hS0.later hb1
  have hO1 := hO0.later hb1
  have hR1 := (Below.block hb1 _ (by omega)).trans hR0
  have hF1 := fun j => frz_at hb1 (hF0 j) (by show w.heap.size < _; omega)
  have hl1 := hl0.trans hb1
  have hs1 : w.heap.size + 3 ≤ w1.heap.size := by have := hb1.size; omega
  clear HJ hb1 hW0 hl0 hs0 hS0 hO0 hR0 hF0
  obtain ⟨S, hS⟩ : ∃ S, w.heap.size = S := ⟨_, rfl⟩
  rw [hS] at hS1 hO1 hR1 hF1 hs1 ⊢
  have hS' : w.heap.size ≤ S := by omega
  clear hS
  have k0 : w1.cell? ⟨S + 1, 0, none⟩ = some (.int .u64 (z 0)) := hO1.2.1 0 (by omega)
  have k1 : w1.cell? ⟨S + 1, 1, none⟩ = some (.int .u64 (z 1)) := hO1.2.1 1 (by omega)
  have k2 : w1.cell? ⟨S + 1, 2, none⟩ = some (.int .u64 (z 2)) := hO1.2.1 2 (by omega)
  have k3 : w1.cell? ⟨S + 1, 3, none⟩ = some (.int .u64 (z 3)) := hO1.2.1 3 (by omega)
  have k4 : w1.cell? ⟨S + 1, 4, none⟩ = some (.int .u64 (z 4)) := hO1.2.1 4 (by omega)
  have k5 : w1.cell? ⟨S + 1, 5, none⟩ = some (.int .u64 (z 5)) := hO1.2.1 5 (by omega)
  have k6 : w1.cell? ⟨S + 1, 6, none⟩ = some (.int .u64 (z 6)) := hO1.2.1 6 (by omega)
  have k7 : w1.cell? ⟨S + 1, 7, none⟩ = some (.int .u64 (z 7)) := hO1.2.1 7 (by omega)
  have k8 : w1.cell? ⟨S + 1, 8, none⟩ = some (.int .u64 (z 8)) := hO1.2.1 8 (by omega)
  have k9 : w1.cell? ⟨S + 1, 9, none⟩ = some (.int .u64 (z 9)) := hO1.2.1 9 (by omega)
  have k10 : w1.cell? ⟨S + 1, 10, none⟩ = some (.complex .f64 a' b') := hO1.2.2
  go_wp2_with fail
  refine (statIs_is _ _ _ _ _ _ _ _ _ _ a' b' ha' hb' _).mono ?_
  rintro e w2 ⟨rfl, hb2⟩
  clear k0 k1 k2 k3 k4 k5 k6 k7 k8 k9 k10
  go_wp2_with fail
  refine (fields_is (S + 1) _).mono ?_
  rintro e w3 ⟨Co, cap3, hCo1, hCo2, rfl, hb3, hco⟩
  go_wp2_with fail
  refine (fields_is S _).mono ?_
  rintro e w4 ⟨Cp, cap4, hCp1, hCp2, rfl, hb4, hcp⟩
  have h14 := hb2.trans (hb3.trans hb4)
  have hI0 : JI w w4 S Co Cp (jnX x z 0) z a b a' b' := by
    rw [jnX_zero]
    have s2 := hb2.size
    have s3 := hb3.size
    exact ⟨hl1.trans h14, ⟨hS', by omega, Nat.lt_of_lt_of_le hCo2 hb4.size, by omega, hCp2⟩, (hS1.later h14).2.1, (hS1.later h14).2.2, fun j _ => frz_at h14 (hF1 j) (by show S < _; omega), (hO1.later h14).2.1, (hO1.later h14).2.2, (Below.block h14 _ (by omega)).trans hR1, fun j hj => cell_at hb4 (hco j hj) hCo2, hcp⟩
  clear hS1 hO1 hR1 hF1 hl1 hs1 hb2 hb3 hb4 hco hcp hCo1 hCo2 hCp1 hCp2 h14
  go_wp2_with fail
  go_loopw [7, 8, 21] (fun _ _ s21 wr => ∃ j : Nat, j ≤ 10 ∧ s21 = .int .i64 j ∧ JI w wr S Co Cp (jnX x z j) z a b a' b') (fun _ _ s21 _ => 10 - (RowKit.intOf s21).toNat)
  case atStart => exact ⟨0, by omega, rfl, hI0⟩
  case round =>
    obtain ⟨j, hj, rfl, hI⟩ := hrel
    rename World => wk
    clear hI0
    by_cases hlt : j < 10
    · have hd' : decide ((j : Int) < 10) = true := by simp; omega
      have hd2 : decide (j < 10) = true := by simpa using hlt
      have hj0 : (0 : Int) ≤ (j : Int) := by omega
      have hj9 : (j : Int) < 10 := by omega
      have c1 : wk.cell? ⟨Cp, j, none⟩ = some (.pointer (some ⟨S, j, none⟩)) := hI.2.2.2.2.2.2.2.2.2 j hlt
      have c2 := cell_regrown (hI.2.2.2.2.2.2.2.2.1 j hlt)
      have e3 : jnX x z j j = x j := by simp [jnX]
      have c3 := cell_regrown (show wk.cell? ⟨S, j, none⟩ = some (.int .u64 (x j)) by rw [← e3]; exact hI.2.2.1 j hlt)
      have c4 := cell_regrown (hI.2.2.2.2.2.1 j hlt)
      have c25 := fun d os => quiet_later ((more_is (x j) (z j) (HX.out j).1 (HX.out j).2 (HZ.out j).1 (HZ.out j).2 (grow (redrawn wk d) os)).mono (fun e w' h => ⟨h.1, by rw [← h.2]; exact Later.refl _⟩))
      have HI := Lib.hid hI
      have HE3 := Lib.hid e3
      clear hI e3
      go_wp2_with fail
      refine wp_region_below_tail 12 mixed (by kernel_rfl) ?_
      simp only [List.take_succ_cons, List.take_zero, List.drop_succ_cons, List.drop_zero]
      repeat (quiet_step (first | with_reducible exact c25 _ _))
      with_reducible refine wpQuiet_nil ?_
      intro w3 hw3
      have hl3 : Later wk w3 := by obtain ⟨p, rfl⟩ := hw3; exact below_regrown wk p.d p.os
      have hI3 := HI.out.later hl3
      clear hw3 hl3 c1 c2 c3 c4 c25 HI
      have k1 := hI3.2.2.1 j hlt
      have k2 := hI3.2.2.2.2.1 j (by omega)
      have hI4 := hI3.set j hlt (mo (x j) (z j))
      rw [jnX_next] at hI4
      have HI4 := Lib.hid hI4
      clear hI3 hI4
      go_wp2_with fail
      go_roundw
      case rel => exact ⟨j + 1, by omega, by go_num, HI4.out⟩
      case measure => simp [RowKit.intOf]; omega
    · obtain rfl : j = 10 := by omega
      obtain ⟨y, hy⟩ : ∃ y, jnX x z 10 = y := ⟨_, rfl⟩
      rw [hy] at hI
      have k0 := hI.2.2.1 0 (by omega)
      have k1 := hI.2.2.1 1 (by omega)
      have k2 := hI.2.2.1 2 (by omega)
      have k3 := hI.2.2.1 3 (by omega)
      have k4 := hI.2.2.1 4 (by omega)
      have k5 := hI.2.2.1 5 (by omega)
      have k6 := hI.2.2.1 6 (by omega)
      have k7 := hI.2.2.1 7 (by omega)
      have k8 := hI.2.2.1 8 (by omega)
      have k9 := hI.2.2.1 9 (by omega)
      have k10 := hI.2.2.2.1
      have f10 := hI.2.2.2.2.1 10 (by omega)
      have o10 := hI.2.2.2.2.2.2.1
      have m1 := HM.out.1
      have m2 := HM.out.2
      have hU := hI.load p q
      have hR0 := hU.2.2.2.2.2.2.2.1
      have hR : (wk.setCell ⟨S, 10, none⟩ (.complex .f64 p q)).heap[S + 1 + 1]? = some (.cells #[.int .u64 0, .int .u64 0, .int .u64 0, .int .u64 0, .int .u64 0, .int .u64 0, .int .u64 0, .int .u64 0, .int .u64 0, .int .u64 0, .complex .f64 0 0] 29 (0, 0)) := hR0
      have hU1 := hU.1
      have HY := Lib.hid hy
      have HI := Lib.hid hI
      clear hI hU hR0 hy
      go_wp2_with (first | (refine wpList_store_rowTo rfl 29 (.tmp 4) (.tmp 55) rfl rfl (S + 1 + 1) #[.int .u64 (y 0), .int .u64 (y 1), .int .u64 (y 2), .int .u64 (y 3), .int .u64 (y 4), .int .u64 (y 5), .int .u64 (y 6), .int .u64 (y 7), .int .u64 (y 8), .int .u64 (y 9), .complex .f64 p q] rfl rfl 29 #[.int .u64 0, .int .u64 0, .int .u64 0, .int .u64 0, .int .u64 0, .int .u64 0, .int .u64 0, .int .u64 0, .int .u64 0, .int .u64 0, .complex .f64 0 0] hR (by kernel_rfl) rfl (by kernel_rfl) ?_))
      have hl3 : Later w ((wk.setCell ⟨S, 10, none⟩ (.complex .f64 p q)).setRow (S + 1 + 1) #[.int .u64 (y 0), .int .u64 (y 1), .int .u64 (y 2), .int .u64 (y 3), .int .u64 (y 4), .int .u64 (y 5), .int .u64 (y 6), .int .u64 (y 7), .int .u64 (y 8), .int .u64 (y 9), .complex .f64 p q]) := below_setRow hU1 (by omega) _
      have u := fun j => cell_setRow_same (wk.setCell ⟨S, 10, none⟩ (.complex .f64 p q)) (S + 1 + 1) j _ #[.int .u64 (y 0), .int .u64 (y 1), .int .u64 (y 2), .int .u64 (y 3), .int .u64 (y 4), .int .u64 (y 5), .int .u64 (y 6), .int .u64 (y 7), .int .u64 (y 8), .int .u64 (y 9), .complex .f64 p q] 29 (0, 0) hR
      have u0 := u 0
      have u1 := u 1
      have u2 := u 2
      have u3 := u 3
      have u4 := u 4
      have u5 := u 5
      have u6 := u 6
      have u7 := u 7
      have u8 := u 8
      have u9 := u 9
      have u10 := u 10
      clear u
      generalize (wk.setCell ⟨S, 10, none⟩ (.complex .f64 p q)).setRow (S + 1 + 1) #[.int .u64 (y 0), .int .u64 (y 1), .int .u64 (y 2), .int .u64 (y 3), .int .u64 (y 4), .int .u64 (y 5), .int .u64 (y 6), .int .u64 (y 7), .int .u64 (y 8), .int .u64 (y 9), .complex .f64 p q] = U at *
      exact bodyPost_ret (v := .tuple #[.agg #[.int .u64 (y 0), .int .u64 (y 1), .int .u64 (y 2), .int .u64 (y 3), .int .u64 (y 4), .int .u64 (y 5), .int .u64 (y 6), .int .u64 (y 7), .int .u64 (y 8), .int .u64 (y 9), .complex .f64 p q], .bool true]) (by simp [results, Tryd.results17, go_sem, u0, u1, u2, u3, u4, u5, u6, u7, u8, u9, u10]) rfl ⟨by rw [HY.out]; rfl, hl3⟩
end Go.Proofs.YthohoendjipleaaDoor
