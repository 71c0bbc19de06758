/-
  The law StatRate, walked. Conditions: the deeds read as said; the library's tables read as the program's text lays them.
-/
import Derived.Test.YthohoendjipleaaDoorAw
import Derived.Test.YthohoendjipleaaDoorE
import Derived.Deep.CutRange
namespace Go.Proofs.YthohoendjipleaaDoor
open Go.RowKit Go.Sort
set_option linter.unusedSimpArgs false

/-- a deed more that hits never lowers the rate; one that does not never raises it -/
theorem rate_hit (T H : Nat) : rateN T H ≤ rateN (T + 1) (H + 1) := by
  obtain ⟨a1, a2, a3⟩ := rateN_is T H
  obtain ⟨b1, b2, b3⟩ := rateN_is (T + 1) (H + 1)
  generalize rateN T H = k at *
  generalize rateN (T + 1) (H + 1) = r at *
  rcases b3 with b3 | b3
  · omega
  · rcases Nat.lt_or_ge r k with h | h
    · have h1 : (T + 1) * (r + 1) ≤ (T + 1) * k := Nat.mul_le_mul_left _ h
      have h2 : (T + 1) * k = T * k + k := Nat.succ_mul T k
      omega
    · exact h
theorem rate_miss (T H : Nat) : rateN (T + 1) H ≤ rateN T H := by
  obtain ⟨a1, a2, a3⟩ := rateN_is T H
  obtain ⟨b1, b2, b3⟩ := rateN_is (T + 1) H
  generalize rateN T H = k at *
  generalize rateN (T + 1) H = r at *
  rcases a3 with a3 | a3
  · omega
  · rcases Nat.lt_or_ge k r with h | h
    · have h1 : T * (k + 1) ≤ T * r := Nat.mul_le_mul_left _ h
      have h2 : (T + 1) * r = T * r + r := Nat.succ_mul T r
      omega
    · exact h
theorem rate_full (T H : Nat) : rateN T H = 1000 ↔ T ≤ H := by
  obtain ⟨a1, a2, a3⟩ := rateN_is T H
  generalize rateN T H = k at *
  constructor
  · intro h
    subst h
    rw [Nat.mul_comm] at a2
    omega
  · intro h
    rcases a3 with a3 | a3
    · exact a3
    · rcases Nat.lt_or_ge k 1000 with h1 | h1
      · have h2 : T * (k + 1) ≤ T * 1000 := Nat.mul_le_mul_left _ h1
        have h3 : 1000 * T ≤ 1000 * H := Nat.mul_le_mul_left _ h
        rw [Nat.mul_comm T 1000] at h2
        omega
      · omega
theorem sumX_5 (x : Nat → Int) (h : okX x) : ((sumX x 5 : Nat) : Int) = x 2 + x 3 + x 4 + x 5 + x 6 := by
  have h2 := h 2
  have h3 := h 3
  have h4 := h 4
  have h5 := h 5
  have h6 := h 6
  simp only [sumX, nX, Nat.reduceAdd]
  omega
theorem iteNeg {c : Prop} [Decidable c] {A B : Prop} (h : ¬ c) (hb : B) : if c then A else B := by
  rw [if_neg h]; exact hb
theorem total_T (n : Nat → Int) (h : okX n) (T : Nat) (hT : sumX n 5 = T) (hs : T ≤ 18446744073709551615) (A B : Nat) (w : World) :
    Calls Tryd.prog 13 #[.agg #[.int .u64 (n 0), .int .u64 (n 1), .int .u64 (n 2), .int .u64 (n 3), .int .u64 (n 4), .int .u64 (n 5), .int .u64 (n 6), .int .u64 (n 7), .int .u64 (n 8), .int .u64 (n 9), .complex .f64 A B]] w fun e w' => e = .returned (.int .u64 (T : Int)) ∧ Later w w' := by
  have e := sumX_5 n h
  rw [hT] at e
  rw [e]
  exact total_is _ _ _ _ _ _ _ _ _ _ A B (h 2).1 (h 3).1 (h 4).1 (h 5).1 (h 6).1 (by omega) w
theorem rateX_T (n : Nat → Int) (h : okX n) (T H : Nat) (hT : sumX n 5 = T) (hH : nX n 7 = H) (k : Nat) (hk : (if T = 0 then 0 else rateN T H) = k) (A B : Nat) (w : World) :
    Calls Tryd.prog 15 #[.agg #[.int .u64 (n 0), .int .u64 (n 1), .int .u64 (n 2), .int .u64 (n 3), .int .u64 (n 4), .int .u64 (n 5), .int .u64 (n 6), .int .u64 (n 7), .int .u64 (n 8), .int .u64 (n 9), .complex .f64 A B]] w fun e w' => e = .returned (.int .i64 (k : Int)) ∧ Later w w' := by
  have e : rateX n = k := by unfold rateX; rw [hT, hH]; exact hk
  rw [← e]
  exact Rate_is n h A B w
/-- small counters -/
def okN (n : Nat → Int) : Prop := ∀ j, 0 ≤ n j ∧ n j ≤ 4294967295
theorem okN.x {n : Nat → Int} (h : okN n) : okX n := fun j => ⟨(h j).1, by have := (h j).2; omega⟩
theorem mo_small (x k : Int) (h1 : x ≤ 4294967295) (h2 : k ≤ 4294967295) : mo x k = x + k := by unfold mo; rw [if_pos (by omega)]
theorem ev_hit (n : Nat → Int) (h : okN n) : sumX (evX n ⟨1, 0, none, 0, 0⟩) 5 = sumX n 5 + 1 ∧ nX (evX n ⟨1, 0, none, 0, 0⟩) 7 = nX n 7 + 1 := by
  have h2 := h 2
  have h7 := h 7
  have e2 : evX n ⟨1, 0, none, 0, 0⟩ 2 = n 2 + 1 := mo_small _ _ h2.2 (by omega)
  have e3 : evX n ⟨1, 0, none, 0, 0⟩ 3 = n 3 := rfl
  have e4 : evX n ⟨1, 0, none, 0, 0⟩ 4 = n 4 := rfl
  have e5 : evX n ⟨1, 0, none, 0, 0⟩ 5 = n 5 := rfl
  have e6 : evX n ⟨1, 0, none, 0, 0⟩ 6 = n 6 := rfl
  have e7 : evX n ⟨1, 0, none, 0, 0⟩ 7 = n 7 + 1 := mo_small _ _ h7.2 (by omega)
  simp only [sumX, nX, Nat.reduceAdd, e2, e3, e4, e5, e6, e7]
  omega
theorem ev_miss (n : Nat → Int) (h : okN n) : sumX (evX n ⟨1, 5, none, 0, 0⟩) 5 = sumX n 5 + 1 ∧ nX (evX n ⟨1, 5, none, 0, 0⟩) 7 = nX n 7 := by
  have h2 := h 2
  have e2 : evX n ⟨1, 5, none, 0, 0⟩ 2 = n 2 + 1 := mo_small _ _ h2.2 (by omega)
  have e3 : evX n ⟨1, 5, none, 0, 0⟩ 3 = n 3 := rfl
  have e4 : evX n ⟨1, 5, none, 0, 0⟩ 4 = n 4 := rfl
  have e5 : evX n ⟨1, 5, none, 0, 0⟩ 5 = n 5 := rfl
  have e6 : evX n ⟨1, 5, none, 0, 0⟩ 6 = n 6 := rfl
  have h3 := h 3
  have h4 := h 4
  have h5 := h 5
  have h6 := h 6
  refine ⟨?_, rfl⟩
  simp only [sumX, nX, Nat.reduceAdd, e2, e3, e4, e5, e6]
  omega
theorem sumX_small (n : Nat → Int) (h : okN n) : sumX n 5 ≤ 21474836475 ∧ nX n 7 ≤ 4294967295 := by
  have h2 := h 2
  have h3 := h 3
  have h4 := h 4
  have h5 := h 5
  have h6 := h 6
  have h7 := h 7
  simp only [sumX, nX, Nat.reduceAdd]
  omega

set_option maxRecDepth 100000 in
set_option maxHeartbeats 16000000 in
theorem StatRate_is (n : Nat → Int) (hn : okN n) (v : Value) (l : List Int) (w : World) (hd : Deeds w v l) (hE : Env w) :
    Calls Tryd.prog 4 #[.agg #[.int .u32 (n 0), .int .u32 (n 1), .int .u32 (n 2), .int .u32 (n 3), .int .u32 (n 4), .int .u32 (n 5), .int .u32 (n 6), .int .u32 (n 7), .int .u32 (n 8), .int .u32 (n 9)], v] w fun e w' => e = .returned (.bool true) ∧ Later w w' := by
  have HN := Lib.hid hn
  have HE := Lib.hid hE
  have HD := Lib.hid hd
  have hTb := sumX_small n hn
  obtain ⟨T, hT⟩ : ∃ T, sumX n 5 = T := ⟨_, rfl⟩
  obtain ⟨H, hH⟩ : ∃ H, nX n 7 = H := ⟨_, rfl⟩
  rw [hT, hH] at hTb
  obtain ⟨hT1, hH1⟩ := hTb
  obtain ⟨k, hk⟩ : ∃ k, (if T = 0 then 0 else rateN T H) = k := ⟨_, rfl⟩
  have h7 : n 7 = (H : Int) := by have := (hn 7).1; rw [← hH]; unfold nX; omega
  have HT := Lib.hid hT
  have HH := Lib.hid hH
  have HK := Lib.hid hk
  have H7 := Lib.hid h7
  have hA := ldR_le (l.take 100)
  have hB := ldI_le (l.take 100)
  obtain ⟨A, hA'⟩ : ∃ A, ldR (l.take 100) = A := ⟨_, rfl⟩
  obtain ⟨B, hB'⟩ : ∃ B, ldI (l.take 100) = B := ⟨_, rfl⟩
  have HAB := Lib.hid (And.intro hA' hB')
  rw [hA'] at hA
  rw [hB'] at hB
  have hst := run_store_complex Tryd.prog
  clear hn hE hd hT hH hk h7 hA' hB'
  go_enter Tryd.func4, Tryd.ntmps4
  go_wp2_with fail
  refine (Valid_is n HN.out v l _ (HD.out.later ((Later.refl w).alloc _))).mono ?_
  rintro e w1 ⟨rfl, hb1⟩
  rw [HAB.out.1, HAB.out.2]
  have hL1 : Later w w1 := ((Later.refl w).alloc _).trans hb1
  clear hb1
  go_wp2_with fail
  refine (rateX_T n HN.out.x T H HT.out HH.out k HK.out A B _).mono ?_
  rintro e w2 ⟨rfl, hb2⟩
  have hL2 : Later w1 w2 := ((Later.refl w1).alloc _).trans hb2
  obtain ⟨S, hS⟩ : ∃ S, w1.heap.size = S := ⟨_, rfl⟩
  have hSt : w2.heap[S]? = some (.cells #[.int .u64 (n 0), .int .u64 (n 1), .int .u64 (n 2), .int .u64 (n 3), .int .u64 (n 4), .int .u64 (n 5), .int .u64 (n 6), .int .u64 (n 7), .int .u64 (n 8), .int .u64 (n 9), .complex .f64 A B] 29 (0, 0)) := by
    rw [← hS]; exact (Below.block hb2 _ (by simp)).trans (MapKept.heap_alloc w1 _).1
  have hS2 : S < w2.heap.size := by rw [← hS]; exact Nat.lt_of_lt_of_le (by simp) hb2.size
  try rw [hS]
  clear hS hb2
  have HS := Lib.hid hSt
  have hLw := hL1.trans hL2
  clear hSt hL1 hL2
  go_wp2_with fail
  go_cut [73] from 18 to 127 (fun s73 V => s73 = .bool false ∧ Later w2 V)
  case first =>
    have k0 := cell_regrown (show w2.cell? ⟨S, 0, none⟩ = some (.int .u64 (n 0)) by rw [Lib.cell_of_heap HS.out]; rfl)
    have k1 := cell_regrown (show w2.cell? ⟨S, 1, none⟩ = some (.int .u64 (n 1)) by rw [Lib.cell_of_heap HS.out]; rfl)
    have k2 := cell_regrown (show w2.cell? ⟨S, 2, none⟩ = some (.int .u64 (n 2)) by rw [Lib.cell_of_heap HS.out]; rfl)
    have k3 := cell_regrown (show w2.cell? ⟨S, 3, none⟩ = some (.int .u64 (n 3)) by rw [Lib.cell_of_heap HS.out]; rfl)
    have k4 := cell_regrown (show w2.cell? ⟨S, 4, none⟩ = some (.int .u64 (n 4)) by rw [Lib.cell_of_heap HS.out]; rfl)
    have k5 := cell_regrown (show w2.cell? ⟨S, 5, none⟩ = some (.int .u64 (n 5)) by rw [Lib.cell_of_heap HS.out]; rfl)
    have k6 := cell_regrown (show w2.cell? ⟨S, 6, none⟩ = some (.int .u64 (n 6)) by rw [Lib.cell_of_heap HS.out]; rfl)
    have k7 := cell_regrown (show w2.cell? ⟨S, 7, none⟩ = some (.int .u64 (H : Int)) by rw [Lib.cell_of_heap HS.out]; exact congrArg (fun z => some (Value.int .u64 z)) H7.out)
    have k8 := cell_regrown (show w2.cell? ⟨S, 8, none⟩ = some (.int .u64 (n 8)) by rw [Lib.cell_of_heap HS.out]; rfl)
    have k9 := cell_regrown (show w2.cell? ⟨S, 9, none⟩ = some (.int .u64 (n 9)) by rw [Lib.cell_of_heap HS.out]; rfl)
    have k10 := cell_regrown (show w2.cell? ⟨S, 10, none⟩ = some (.complex .f64 A B) by rw [Lib.cell_of_heap HS.out]; rfl)
    have c13 := fun d os => quiet_later (show Calls Tryd.prog 13 #[.agg #[.int .u64 (n 0), .int .u64 (n 1), .int .u64 (n 2), .int .u64 (n 3), .int .u64 (n 4), .int .u64 (n 5), .int .u64 (n 6), .int .u64 (H : Int), .int .u64 (n 8), .int .u64 (n 9), .complex .f64 A B]] (grow (redrawn w2 d) os) _ from by rw [← H7.out]; exact total_T n HN.out.x T HT.out (by omega) A B (grow (redrawn w2 d) os))
    have hk0 : k ≤ 1000 := by
      rw [← HK.out]
      split
      · omega
      · exact (rateN_is T H).1
    have g1 : decide ((k : Int) < 0) = false := by simp
    have g2 : decide ((1000 : Int) < (k : Int)) = false := by simp; omega
    by_cases hT0 : T = 0
    · have hk0' : k = 0 := by rw [← HK.out, if_pos hT0]
      have g3 : ((k : Int) == 1000) = false := by simp; omega
      have g4 : decide ((0 : Int) < (T : Int)) = false := by simp; omega
      have f4 : decide (0 < T) = false := by simp; omega
      have HQ := Lib.hid (And.intro hT0 hk0')
      clear hT0 hk0'
      refine wp_region_quiet_below mixed (by kernel_rfl) ?_
      repeat ((with_reducible refine wpQuiet_step (fun K hK => ?_)); go_simp; first | ((with_reducible refine hK _ ?_); clear hK K) | ((with_reducible refine iteNeg ?_ ?_); (focus (intro h; cases h)); (with_reducible refine hK _ ?_); clear hK K) | (apply Exists.intro; refine ⟨fun _ => ?_, hK _ ?_⟩; (with_reducible exact c13 _ _); clear hK K))
      with_reducible refine wpQuiet_nil ?_
      intro w3 hw3
      have hl3 : Later w2 w3 := by obtain ⟨p, rfl⟩ := hw3; exact below_regrown w2 p.d p.os
      clear hw3
      go_wp2_with fail
      go_meet
      exact ⟨rfl, hl3⟩
    · by_cases hTH : T ≤ H
      · have hk3 : k = 1000 := by
          rw [← HK.out, if_neg hT0]
          exact (rate_full T H).2 hTH
        have g3 : ((k : Int) == 1000) = true := by simp; omega
        have g4 : decide ((0 : Int) < (T : Int)) = true := by simp; omega
        have g5 : decide ((T : Int) ≤ (H : Int)) = true := by simp; omega
        have g6 : decide ((H : Int) < (T : Int)) = false := by simp; omega
        have f4 : decide (0 < T) = true := by simp; omega
        have f5 : decide (T ≤ H) = true := by simp; omega
        have f6 : decide (H < T) = false := by simp; omega
        have HQ := Lib.hid (And.intro hT0 (And.intro hTH hk3))
        clear hT0 hTH hk3
        refine wp_region_quiet_below mixed (by kernel_rfl) ?_
        repeat ((with_reducible refine wpQuiet_step (fun K hK => ?_)); go_simp; first | ((with_reducible refine hK _ ?_); clear hK K) | ((with_reducible refine iteNeg ?_ ?_); (focus (intro h; cases h)); (with_reducible refine hK _ ?_); clear hK K) | (apply Exists.intro; refine ⟨fun _ => ?_, hK _ ?_⟩; (with_reducible exact c13 _ _); clear hK K))
        with_reducible refine wpQuiet_nil ?_
        intro w3 hw3
        have hl3 : Later w2 w3 := by obtain ⟨p, rfl⟩ := hw3; exact below_regrown w2 p.d p.os
        clear hw3
        go_wp2_with fail
        go_meet
        exact ⟨rfl, hl3⟩
      · have hk3 : k ≠ 1000 := fun e => by
          rw [← HK.out, if_neg hT0] at e
          exact hTH ((rate_full T H).1 e)
        have hkk : T * k ≤ 1000 * H ∧ 1000 * H < T * (k + 1) := by
          have := HK.out
          rw [if_neg hT0] at this
          obtain ⟨a1, a2, a3⟩ := rateN_is T H
          rw [this] at a1 a2 a3
          exact ⟨a2, a3.resolve_left hk3⟩
        have g3 : ((k : Int) == 1000) = false := by simp; omega
        have g4 : decide ((0 : Int) < (T : Int)) = true := by simp; omega
        have g5 : decide ((T : Int) ≤ (H : Int)) = false := by simp; omega
        have g6 : decide ((H : Int) < (T : Int)) = true := by simp; omega
        have f4 : decide (0 < T) = true := by simp; omega
        have f5 : decide (T ≤ H) = false := by simp; omega
        have f6 : decide (H < T) = true := by simp; omega
        obtain ⟨p1, hp1⟩ : ∃ p1, k * T = p1 := ⟨_, rfl⟩
        obtain ⟨p2, hp2⟩ : ∃ p2, (k + 1) * T = p2 := ⟨_, rfl⟩
        have b2 : p2 ≤ 1001 * 21474836475 := by rw [← hp2]; exact Nat.mul_le_mul (by omega) hT1
        have b1 : p1 ≤ p2 := by rw [← hp1, ← hp2]; exact Nat.mul_le_mul_right _ (by omega)
        have q1 : p1 ≤ 1000 * H := by rw [← hp1, Nat.mul_comm k T]; exact hkk.1
        have q2 : 1000 * H < p2 := by rw [← hp2, Nat.mul_comm (k + 1) T]; exact hkk.2
        have m1 : (k : Int) * (T : Int) = (p1 : Int) := by rw [← hp1]; simp
        have m2 : ((k : Int) + 1) * (T : Int) = (p2 : Int) := by rw [← hp2]; simp
        have m3 : IntKind.u64.wrap (p1 : Int) = (p1 : Int) := by rw [IntKind.wrap_u64]; omega
        have m4 : IntKind.u64.wrap (p2 : Int) = (p2 : Int) := by rw [IntKind.wrap_u64]; omega
        have m5 : IntKind.u64.wrap (1000 * (H : Int)) = 1000 * (H : Int) := by rw [IntKind.wrap_u64]; omega
        have m6 : IntKind.u64.wrap (k : Int) = (k : Int) := by rw [IntKind.wrap_u64]; omega
        have m7 : IntKind.u64.wrap ((k : Int) + 1) = (k : Int) + 1 := by rw [IntKind.wrap_u64]; omega
        have m8 : IntKind.i64.wrap ((k : Int) + 1) = (k : Int) + 1 := by rw [IntKind.wrap_i64]; omega
        have g7 : decide (1000 * (H : Int) < (p1 : Int)) = false := by simp; omega
        have g8 : decide ((p2 : Int) ≤ 1000 * (H : Int)) = false := by simp; omega
        have f7 : decide (1000 * H < p1) = false := by simp; omega
        have f8 : decide (p2 ≤ 1000 * H) = false := by simp; omega
        have HQ := Lib.hid (And.intro hT0 (And.intro hTH (And.intro hk3 hkk)))
        clear hp1 hp2 b2 b1 q1 q2 hT0 hTH hk3 hkk
        refine wp_region_quiet_below mixed (by kernel_rfl) ?_
        repeat ((with_reducible refine wpQuiet_step (fun K hK => ?_)); go_simp; first | ((with_reducible refine hK _ ?_); clear hK K) | ((with_reducible refine iteNeg ?_ ?_); (focus (intro h; cases h)); (with_reducible refine hK _ ?_); clear hK K) | (apply Exists.intro; refine ⟨fun _ => ?_, hK _ ?_⟩; (with_reducible exact c13 _ _); clear hK K))
        with_reducible refine wpQuiet_nil ?_
        intro w3 hw3
        have hl3 : Later w2 w3 := by obtain ⟨p, rfl⟩ := hw3; exact below_regrown w2 p.d p.os
        clear hw3
        go_wp2_with fail
        go_meet
        exact ⟨rfl, hl3⟩
  case rest =>
    obtain ⟨rfl, hL3⟩ := hcut
    rename World => w3
    have hs0 : w3.heap[S]? = some (.cells #[.int .u64 (n 0), .int .u64 (n 1), .int .u64 (n 2), .int .u64 (n 3), .int .u64 (n 4), .int .u64 (n 5), .int .u64 (n 6), .int .u64 (n 7), .int .u64 (n 8), .int .u64 (n 9), .complex .f64 A B] 29 (0, 0)) := (Below.block hL3 S hS2).trans HS.out
    have k0 : w3.cell? ⟨S, 0, none⟩ = some (.int .u64 (n 0)) := by rw [Lib.cell_of_heap hs0]; rfl
    have k1 : w3.cell? ⟨S, 1, none⟩ = some (.int .u64 (n 1)) := by rw [Lib.cell_of_heap hs0]; rfl
    have k2 : w3.cell? ⟨S, 2, none⟩ = some (.int .u64 (n 2)) := by rw [Lib.cell_of_heap hs0]; rfl
    have k3 : w3.cell? ⟨S, 3, none⟩ = some (.int .u64 (n 3)) := by rw [Lib.cell_of_heap hs0]; rfl
    have k4 : w3.cell? ⟨S, 4, none⟩ = some (.int .u64 (n 4)) := by rw [Lib.cell_of_heap hs0]; rfl
    have k5 : w3.cell? ⟨S, 5, none⟩ = some (.int .u64 (n 5)) := by rw [Lib.cell_of_heap hs0]; rfl
    have k6 : w3.cell? ⟨S, 6, none⟩ = some (.int .u64 (n 6)) := by rw [Lib.cell_of_heap hs0]; rfl
    have k7 : w3.cell? ⟨S, 7, none⟩ = some (.int .u64 (n 7)) := by rw [Lib.cell_of_heap hs0]; rfl
    have k8 : w3.cell? ⟨S, 8, none⟩ = some (.int .u64 (n 8)) := by rw [Lib.cell_of_heap hs0]; rfl
    have k9 : w3.cell? ⟨S, 9, none⟩ = some (.int .u64 (n 9)) := by rw [Lib.cell_of_heap hs0]; rfl
    have k10 : w3.cell? ⟨S, 10, none⟩ = some (.complex .f64 A B) := by rw [Lib.cell_of_heap hs0]; rfl
    go_wp2_with fail
    refine (total_T n HN.out.x T HT.out (by omega) A B _).mono ?_
    rintro e w4 ⟨rfl, hb4⟩
    clear k0 k1 k2 k3 k4 k5 k6 k7 k8 k9 k10
    have hLs1 : Later w2 w4 := hL3.trans (by first | exact hb4 | exact (((Later.refl _).alloc _).trans hb4))
    clear hs0 hb4 hL3
    by_cases hT0 : T = 0
    · have hk0' : k = 0 := by rw [← HK.out, if_pos hT0]
      subst hk0'
      subst hT0
      clear HK HT
      go_wp2_with fail
      refine (awake_is w4 (HE.out.later (hLw.trans hLs1))).mono ?_
      rintro e w5 ⟨rfl, hb5⟩
      go_wp2_with fail
      go_ret
      exact ⟨rfl, (hLw.trans hLs1).trans hb5⟩
    · have hev1 := ev_hit n HN.out
      have hev2 := ev_miss n HN.out
      rw [HT.out, HH.out] at hev1 hev2
      have hkR : rateN T H = k := by have := HK.out; rwa [if_neg hT0] at this
      have hk1 := rate_hit T H
      have hk2 := rate_miss T H
      rw [hkR] at hk1 hk2
      have HEV1 := Lib.hid hev1
      have HEV2 := Lib.hid hev2
      have HKK := Lib.hid (And.intro hk1 hk2)
      have fT : ((T : Int) == 0) = false := by simp; omega
      have HT0 := Lib.hid hT0
      clear hev1 hev2 hkR hk1 hk2 hT0
      have hs1 : w4.heap[S]? = some (.cells #[.int .u64 (n 0), .int .u64 (n 1), .int .u64 (n 2), .int .u64 (n 3), .int .u64 (n 4), .int .u64 (n 5), .int .u64 (n 6), .int .u64 (n 7), .int .u64 (n 8), .int .u64 (n 9), .complex .f64 A B] 29 (0, 0)) := (Below.block hLs1 S hS2).trans HS.out
      have k0 : w4.cell? ⟨S, 0, none⟩ = some (.int .u64 (n 0)) := by rw [Lib.cell_of_heap hs1]; rfl
      have k1 : w4.cell? ⟨S, 1, none⟩ = some (.int .u64 (n 1)) := by rw [Lib.cell_of_heap hs1]; rfl
      have k2 : w4.cell? ⟨S, 2, none⟩ = some (.int .u64 (n 2)) := by rw [Lib.cell_of_heap hs1]; rfl
      have k3 : w4.cell? ⟨S, 3, none⟩ = some (.int .u64 (n 3)) := by rw [Lib.cell_of_heap hs1]; rfl
      have k4 : w4.cell? ⟨S, 4, none⟩ = some (.int .u64 (n 4)) := by rw [Lib.cell_of_heap hs1]; rfl
      have k5 : w4.cell? ⟨S, 5, none⟩ = some (.int .u64 (n 5)) := by rw [Lib.cell_of_heap hs1]; rfl
      have k6 : w4.cell? ⟨S, 6, none⟩ = some (.int .u64 (n 6)) := by rw [Lib.cell_of_heap hs1]; rfl
      have k7 : w4.cell? ⟨S, 7, none⟩ = some (.int .u64 (n 7)) := by rw [Lib.cell_of_heap hs1]; rfl
      have k8 : w4.cell? ⟨S, 8, none⟩ = some (.int .u64 (n 8)) := by rw [Lib.cell_of_heap hs1]; rfl
      have k9 : w4.cell? ⟨S, 9, none⟩ = some (.int .u64 (n 9)) := by rw [Lib.cell_of_heap hs1]; rfl
      have k10 : w4.cell? ⟨S, 10, none⟩ = some (.complex .f64 A B) := by rw [Lib.cell_of_heap hs1]; rfl
      go_wp2_with fail
      refine (show Calls Tryd.prog 16 #[.agg #[.int .u64 (n 0), .int .u64 (n 1), .int .u64 (n 2), .int .u64 (n 3), .int .u64 (n 4), .int .u64 (n 5), .int .u64 (n 6), .int .u64 (n 7), .int .u64 (n 8), .int .u64 (n 9), .complex .f64 A B], .int .i64 1, .agg (ansC 0)] _ _ from statNext_is n A B HN.out.x hA hB 1 0 (by omega) _).mono ?_
      rintro e v1 ⟨rfl, hbn1⟩
      clear k0 k1 k2 k3 k4 k5 k6 k7 k8 k9 k10
      obtain ⟨y1, hy1⟩ : ∃ y, evX n ⟨1, 0, none, 0, 0⟩ = y := ⟨_, rfl⟩
      obtain ⟨p1, hp1⟩ : ∃ p, nextR A 1 = p := ⟨_, rfl⟩
      obtain ⟨q1, hq1⟩ : ∃ q, nextI B 1 = q := ⟨_, rfl⟩
      have HY1 := Lib.hid hy1
      rw [hy1, hp1, hq1]
      clear hy1 hp1 hq1 hs1
      unfold statV
      go_upto_region 8 with fail
      obtain ⟨V1, hV1⟩ : ∃ V, v1.alloc (.cells #[.int .u64 (y1 0), .int .u64 (y1 1), .int .u64 (y1 2), .int .u64 (y1 3), .int .u64 (y1 4), .int .u64 (y1 5), .int .u64 (y1 6), .int .u64 (y1 7), .int .u64 (y1 8), .int .u64 (y1 9), .complex .f64 p1 q1] 29) = V := ⟨_, rfl⟩
      obtain ⟨B1, hB1⟩ : ∃ b, v1.heap.size = b := ⟨_, rfl⟩
      have ht1 : V1.heap[B1]? = some (.cells #[.int .u64 (y1 0), .int .u64 (y1 1), .int .u64 (y1 2), .int .u64 (y1 3), .int .u64 (y1 4), .int .u64 (y1 5), .int .u64 (y1 6), .int .u64 (y1 7), .int .u64 (y1 8), .int .u64 (y1 9), .complex .f64 p1 q1] 29 (0, 0)) := by rw [← hV1, ← hB1]; exact heap_alloc_last _ _
      have hlt1 : B1 < V1.heap.size := by rw [← hV1, ← hB1]; simp
      have hLs2 : Later w2 V1 := by rw [← hV1]; exact (hLs1.trans (by first | exact hbn1 | exact (((Later.refl _).alloc _).trans hbn1))).alloc _
      have hLv1 : Later w4 V1 := by rw [← hV1]; exact (by first | exact hbn1 | exact (((Later.refl _).alloc _).trans hbn1) : Later w4 v1).alloc _
      try rw [hV1]
      try rw [hB1]
      clear hV1 hB1 hbn1
      have hs2 : V1.heap[S]? = some (.cells #[.int .u64 (n 0), .int .u64 (n 1), .int .u64 (n 2), .int .u64 (n 3), .int .u64 (n 4), .int .u64 (n 5), .int .u64 (n 6), .int .u64 (n 7), .int .u64 (n 8), .int .u64 (n 9), .complex .f64 A B] 29 (0, 0)) := (Below.block hLs2 S hS2).trans HS.out
      have k0 : V1.cell? ⟨S, 0, none⟩ = some (.int .u64 (n 0)) := by rw [Lib.cell_of_heap hs2]; rfl
      have k1 : V1.cell? ⟨S, 1, none⟩ = some (.int .u64 (n 1)) := by rw [Lib.cell_of_heap hs2]; rfl
      have k2 : V1.cell? ⟨S, 2, none⟩ = some (.int .u64 (n 2)) := by rw [Lib.cell_of_heap hs2]; rfl
      have k3 : V1.cell? ⟨S, 3, none⟩ = some (.int .u64 (n 3)) := by rw [Lib.cell_of_heap hs2]; rfl
      have k4 : V1.cell? ⟨S, 4, none⟩ = some (.int .u64 (n 4)) := by rw [Lib.cell_of_heap hs2]; rfl
      have k5 : V1.cell? ⟨S, 5, none⟩ = some (.int .u64 (n 5)) := by rw [Lib.cell_of_heap hs2]; rfl
      have k6 : V1.cell? ⟨S, 6, none⟩ = some (.int .u64 (n 6)) := by rw [Lib.cell_of_heap hs2]; rfl
      have k7 : V1.cell? ⟨S, 7, none⟩ = some (.int .u64 (n 7)) := by rw [Lib.cell_of_heap hs2]; rfl
      have k8 : V1.cell? ⟨S, 8, none⟩ = some (.int .u64 (n 8)) := by rw [Lib.cell_of_heap hs2]; rfl
      have k9 : V1.cell? ⟨S, 9, none⟩ = some (.int .u64 (n 9)) := by rw [Lib.cell_of_heap hs2]; rfl
      have k10 : V1.cell? ⟨S, 10, none⟩ = some (.complex .f64 A B) := by rw [Lib.cell_of_heap hs2]; rfl
      go_wp2_with fail
      refine (show Calls Tryd.prog 16 #[.agg #[.int .u64 (n 0), .int .u64 (n 1), .int .u64 (n 2), .int .u64 (n 3), .int .u64 (n 4), .int .u64 (n 5), .int .u64 (n 6), .int .u64 (n 7), .int .u64 (n 8), .int .u64 (n 9), .complex .f64 A B], .int .i64 1, .agg (ansC 5)] _ _ from statNext_is n A B HN.out.x hA hB 1 5 (by omega) _).mono ?_
      rintro e v2 ⟨rfl, hbn2⟩
      clear k0 k1 k2 k3 k4 k5 k6 k7 k8 k9 k10
      obtain ⟨y2, hy2⟩ : ∃ y, evX n ⟨1, 5, none, 0, 0⟩ = y := ⟨_, rfl⟩
      obtain ⟨p2, hp2⟩ : ∃ p, nextR A 1 = p := ⟨_, rfl⟩
      obtain ⟨q2, hq2⟩ : ∃ q, nextI B 1 = q := ⟨_, rfl⟩
      have HY2 := Lib.hid hy2
      rw [hy2, hp2, hq2]
      clear hy2 hp2 hq2 hs2
      unfold statV
      go_upto_region 9 with fail
      obtain ⟨V2, hV2⟩ : ∃ V, v2.alloc (.cells #[.int .u64 (y2 0), .int .u64 (y2 1), .int .u64 (y2 2), .int .u64 (y2 3), .int .u64 (y2 4), .int .u64 (y2 5), .int .u64 (y2 6), .int .u64 (y2 7), .int .u64 (y2 8), .int .u64 (y2 9), .complex .f64 p2 q2] 29) = V := ⟨_, rfl⟩
      obtain ⟨B2, hB2⟩ : ∃ b, v2.heap.size = b := ⟨_, rfl⟩
      have ht2 : V2.heap[B2]? = some (.cells #[.int .u64 (y2 0), .int .u64 (y2 1), .int .u64 (y2 2), .int .u64 (y2 3), .int .u64 (y2 4), .int .u64 (y2 5), .int .u64 (y2 6), .int .u64 (y2 7), .int .u64 (y2 8), .int .u64 (y2 9), .complex .f64 p2 q2] 29 (0, 0)) := by rw [← hV2, ← hB2]; exact heap_alloc_last _ _
      have hlt2 : B2 < V2.heap.size := by rw [← hV2, ← hB2]; simp
      have hLs3 : Later w2 V2 := by rw [← hV2]; exact (hLs2.trans (by first | exact hbn2 | exact (((Later.refl _).alloc _).trans hbn2))).alloc _
      have hLv2 : Later V1 V2 := by rw [← hV2]; exact (by first | exact hbn2 | exact (((Later.refl _).alloc _).trans hbn2) : Later V1 v2).alloc _
      try rw [hV2]
      try rw [hB2]
      clear hV2 hB2 hbn2
      have hs3 : V2.heap[S]? = some (.cells #[.int .u64 (n 0), .int .u64 (n 1), .int .u64 (n 2), .int .u64 (n 3), .int .u64 (n 4), .int .u64 (n 5), .int .u64 (n 6), .int .u64 (n 7), .int .u64 (n 8), .int .u64 (n 9), .complex .f64 A B] 29 (0, 0)) := (Below.block hLs3 S hS2).trans HS.out
      have k0 : V2.cell? ⟨S, 0, none⟩ = some (.int .u64 (n 0)) := by rw [Lib.cell_of_heap hs3]; rfl
      have k1 : V2.cell? ⟨S, 1, none⟩ = some (.int .u64 (n 1)) := by rw [Lib.cell_of_heap hs3]; rfl
      have k2 : V2.cell? ⟨S, 2, none⟩ = some (.int .u64 (n 2)) := by rw [Lib.cell_of_heap hs3]; rfl
      have k3 : V2.cell? ⟨S, 3, none⟩ = some (.int .u64 (n 3)) := by rw [Lib.cell_of_heap hs3]; rfl
      have k4 : V2.cell? ⟨S, 4, none⟩ = some (.int .u64 (n 4)) := by rw [Lib.cell_of_heap hs3]; rfl
      have k5 : V2.cell? ⟨S, 5, none⟩ = some (.int .u64 (n 5)) := by rw [Lib.cell_of_heap hs3]; rfl
      have k6 : V2.cell? ⟨S, 6, none⟩ = some (.int .u64 (n 6)) := by rw [Lib.cell_of_heap hs3]; rfl
      have k7 : V2.cell? ⟨S, 7, none⟩ = some (.int .u64 (n 7)) := by rw [Lib.cell_of_heap hs3]; rfl
      have k8 : V2.cell? ⟨S, 8, none⟩ = some (.int .u64 (n 8)) := by rw [Lib.cell_of_heap hs3]; rfl
      have k9 : V2.cell? ⟨S, 9, none⟩ = some (.int .u64 (n 9)) := by rw [Lib.cell_of_heap hs3]; rfl
      have k10 : V2.cell? ⟨S, 10, none⟩ = some (.complex .f64 A B) := by rw [Lib.cell_of_heap hs3]; rfl
      go_wp2_with fail
      refine (show Calls Tryd.prog 16 #[.agg #[.int .u64 (n 0), .int .u64 (n 1), .int .u64 (n 2), .int .u64 (n 3), .int .u64 (n 4), .int .u64 (n 5), .int .u64 (n 6), .int .u64 (n 7), .int .u64 (n 8), .int .u64 (n 9), .complex .f64 A B], .int .i64 6, .agg (ansC 0)] _ _ from statNext_is n A B HN.out.x hA hB 6 0 (by omega) _).mono ?_
      rintro e v3 ⟨rfl, hbn3⟩
      clear k0 k1 k2 k3 k4 k5 k6 k7 k8 k9 k10
      obtain ⟨y3, hy3⟩ : ∃ y, evX n ⟨6, 0, none, 0, 0⟩ = y := ⟨_, rfl⟩
      obtain ⟨p3, hp3⟩ : ∃ p, nextR A 6 = p := ⟨_, rfl⟩
      obtain ⟨q3, hq3⟩ : ∃ q, nextI B 6 = q := ⟨_, rfl⟩
      have HY3 := Lib.hid hy3
      rw [hy3, hp3, hq3]
      clear hy3 hp3 hq3 hs3
      unfold statV
      go_upto_region 10 with fail
      obtain ⟨V3, hV3⟩ : ∃ V, v3.alloc (.cells #[.int .u64 (y3 0), .int .u64 (y3 1), .int .u64 (y3 2), .int .u64 (y3 3), .int .u64 (y3 4), .int .u64 (y3 5), .int .u64 (y3 6), .int .u64 (y3 7), .int .u64 (y3 8), .int .u64 (y3 9), .complex .f64 p3 q3] 29) = V := ⟨_, rfl⟩
      obtain ⟨B3, hB3⟩ : ∃ b, v3.heap.size = b := ⟨_, rfl⟩
      have ht3 : V3.heap[B3]? = some (.cells #[.int .u64 (y3 0), .int .u64 (y3 1), .int .u64 (y3 2), .int .u64 (y3 3), .int .u64 (y3 4), .int .u64 (y3 5), .int .u64 (y3 6), .int .u64 (y3 7), .int .u64 (y3 8), .int .u64 (y3 9), .complex .f64 p3 q3] 29 (0, 0)) := by rw [← hV3, ← hB3]; exact heap_alloc_last _ _
      have hlt3 : B3 < V3.heap.size := by rw [← hV3, ← hB3]; simp
      have hLs4 : Later w2 V3 := by rw [← hV3]; exact (hLs3.trans (by first | exact hbn3 | exact (((Later.refl _).alloc _).trans hbn3))).alloc _
      have hLv3 : Later V2 V3 := by rw [← hV3]; exact (by first | exact hbn3 | exact (((Later.refl _).alloc _).trans hbn3) : Later V2 v3).alloc _
      try rw [hV3]
      try rw [hB3]
      clear hV3 hB3 hbn3
      have hY1 : okX y1 := by rw [← HY1.out]; exact evX_ok HN.out.x _
      have hY2 : okX y2 := by rw [← HY2.out]; exact evX_ok HN.out.x _
      have hY3 : y3 = n := by rw [← HY3.out]; rfl
      have r1 := fun w => rateX_T y1 hY1 (T + 1) (H + 1) (by rw [← HY1.out]; exact HEV1.out.1) (by rw [← HY1.out]; exact HEV1.out.2) (rateN (T + 1) (H + 1)) (by rw [if_neg (by omega)]) p1 q1 w
      have r2 := fun w => rateX_T y2 hY2 (T + 1) H (by rw [← HY2.out]; exact HEV2.out.1) (by rw [← HY2.out]; exact HEV2.out.2) (rateN (T + 1) H) (by rw [if_neg (by omega)]) p2 q2 w
      have r3 := fun w => rateX_T y3 (by rw [hY3]; exact HN.out.x) T H (by rw [hY3]; exact HT.out) (by rw [hY3]; exact HH.out) k HK.out p3 q3 w
      obtain ⟨z1, hz1⟩ : ∃ z, rateN (T + 1) (H + 1) = z := ⟨_, rfl⟩
      obtain ⟨z2, hz2⟩ : ∃ z, rateN (T + 1) H = z := ⟨_, rfl⟩
      rw [hz1] at r1
      rw [hz2] at r2
      have hkk := HKK.out
      rw [hz1, hz2] at hkk
      have d1 : decide (k ≤ z1) = true := by simp; exact hkk.1
      have d2 : decide (z2 ≤ k) = true := by simp; exact hkk.2
      have d1' : decide ((k : Int) ≤ (z1 : Int)) = true := by simp; exact hkk.1
      have d2' : decide ((z2 : Int) ≤ (k : Int)) = true := by simp; exact hkk.2
      have R1 := Lib.hid r1
      have R2 := Lib.hid r2
      have R3 := Lib.hid r3
      have HKZ := Lib.hid hkk
      clear r1 r2 r3 hz1 hz2 hkk hY1 hY2 hY3
      have ha1 : V3.heap[B1]? = some (.cells #[.int .u64 (y1 0), .int .u64 (y1 1), .int .u64 (y1 2), .int .u64 (y1 3), .int .u64 (y1 4), .int .u64 (y1 5), .int .u64 (y1 6), .int .u64 (y1 7), .int .u64 (y1 8), .int .u64 (y1 9), .complex .f64 p1 q1] 29 (0, 0)) := (Below.block hLv3 B1 (Nat.lt_of_lt_of_le hlt1 hLv2.size)).trans ((Below.block hLv2 B1 hlt1).trans ht1)
      have k0 : V3.cell? ⟨B1, 0, none⟩ = some (.int .u64 (y1 0)) := by rw [Lib.cell_of_heap ha1]; rfl
      have k1 : V3.cell? ⟨B1, 1, none⟩ = some (.int .u64 (y1 1)) := by rw [Lib.cell_of_heap ha1]; rfl
      have k2 : V3.cell? ⟨B1, 2, none⟩ = some (.int .u64 (y1 2)) := by rw [Lib.cell_of_heap ha1]; rfl
      have k3 : V3.cell? ⟨B1, 3, none⟩ = some (.int .u64 (y1 3)) := by rw [Lib.cell_of_heap ha1]; rfl
      have k4 : V3.cell? ⟨B1, 4, none⟩ = some (.int .u64 (y1 4)) := by rw [Lib.cell_of_heap ha1]; rfl
      have k5 : V3.cell? ⟨B1, 5, none⟩ = some (.int .u64 (y1 5)) := by rw [Lib.cell_of_heap ha1]; rfl
      have k6 : V3.cell? ⟨B1, 6, none⟩ = some (.int .u64 (y1 6)) := by rw [Lib.cell_of_heap ha1]; rfl
      have k7 : V3.cell? ⟨B1, 7, none⟩ = some (.int .u64 (y1 7)) := by rw [Lib.cell_of_heap ha1]; rfl
      have k8 : V3.cell? ⟨B1, 8, none⟩ = some (.int .u64 (y1 8)) := by rw [Lib.cell_of_heap ha1]; rfl
      have k9 : V3.cell? ⟨B1, 9, none⟩ = some (.int .u64 (y1 9)) := by rw [Lib.cell_of_heap ha1]; rfl
      have k10 : V3.cell? ⟨B1, 10, none⟩ = some (.complex .f64 p1 q1) := by rw [Lib.cell_of_heap ha1]; rfl
      go_wp2_with fail
      refine (R1.out _).mono ?_
      rintro e u1 ⟨rfl, hu1⟩
      clear k0 k1 k2 k3 k4 k5 k6 k7 k8 k9 k10
      have hu1' : Later V3 u1 := by first | exact hu1 | exact (((Later.refl _).alloc _).trans hu1)
      have ha2 : u1.heap[B2]? = some (.cells #[.int .u64 (y2 0), .int .u64 (y2 1), .int .u64 (y2 2), .int .u64 (y2 3), .int .u64 (y2 4), .int .u64 (y2 5), .int .u64 (y2 6), .int .u64 (y2 7), .int .u64 (y2 8), .int .u64 (y2 9), .complex .f64 p2 q2] 29 (0, 0)) := (Below.block hu1' B2 (Nat.lt_of_lt_of_le hlt2 hLv3.size)).trans ((Below.block hLv3 B2 hlt2).trans ht2)
      have k0 : u1.cell? ⟨B2, 0, none⟩ = some (.int .u64 (y2 0)) := by rw [Lib.cell_of_heap ha2]; rfl
      have k1 : u1.cell? ⟨B2, 1, none⟩ = some (.int .u64 (y2 1)) := by rw [Lib.cell_of_heap ha2]; rfl
      have k2 : u1.cell? ⟨B2, 2, none⟩ = some (.int .u64 (y2 2)) := by rw [Lib.cell_of_heap ha2]; rfl
      have k3 : u1.cell? ⟨B2, 3, none⟩ = some (.int .u64 (y2 3)) := by rw [Lib.cell_of_heap ha2]; rfl
      have k4 : u1.cell? ⟨B2, 4, none⟩ = some (.int .u64 (y2 4)) := by rw [Lib.cell_of_heap ha2]; rfl
      have k5 : u1.cell? ⟨B2, 5, none⟩ = some (.int .u64 (y2 5)) := by rw [Lib.cell_of_heap ha2]; rfl
      have k6 : u1.cell? ⟨B2, 6, none⟩ = some (.int .u64 (y2 6)) := by rw [Lib.cell_of_heap ha2]; rfl
      have k7 : u1.cell? ⟨B2, 7, none⟩ = some (.int .u64 (y2 7)) := by rw [Lib.cell_of_heap ha2]; rfl
      have k8 : u1.cell? ⟨B2, 8, none⟩ = some (.int .u64 (y2 8)) := by rw [Lib.cell_of_heap ha2]; rfl
      have k9 : u1.cell? ⟨B2, 9, none⟩ = some (.int .u64 (y2 9)) := by rw [Lib.cell_of_heap ha2]; rfl
      have k10 : u1.cell? ⟨B2, 10, none⟩ = some (.complex .f64 p2 q2) := by rw [Lib.cell_of_heap ha2]; rfl
      go_wp2_with fail
      refine (R2.out _).mono ?_
      rintro e u2 ⟨rfl, hu2⟩
      clear k0 k1 k2 k3 k4 k5 k6 k7 k8 k9 k10
      have hu2' : Later u1 u2 := by first | exact hu2 | exact (((Later.refl _).alloc _).trans hu2)
      have ha3 : u2.heap[B3]? = some (.cells #[.int .u64 (y3 0), .int .u64 (y3 1), .int .u64 (y3 2), .int .u64 (y3 3), .int .u64 (y3 4), .int .u64 (y3 5), .int .u64 (y3 6), .int .u64 (y3 7), .int .u64 (y3 8), .int .u64 (y3 9), .complex .f64 p3 q3] 29 (0, 0)) := (Below.block (hu1'.trans hu2') B3 hlt3).trans ht3
      have k0 : u2.cell? ⟨B3, 0, none⟩ = some (.int .u64 (y3 0)) := by rw [Lib.cell_of_heap ha3]; rfl
      have k1 : u2.cell? ⟨B3, 1, none⟩ = some (.int .u64 (y3 1)) := by rw [Lib.cell_of_heap ha3]; rfl
      have k2 : u2.cell? ⟨B3, 2, none⟩ = some (.int .u64 (y3 2)) := by rw [Lib.cell_of_heap ha3]; rfl
      have k3 : u2.cell? ⟨B3, 3, none⟩ = some (.int .u64 (y3 3)) := by rw [Lib.cell_of_heap ha3]; rfl
      have k4 : u2.cell? ⟨B3, 4, none⟩ = some (.int .u64 (y3 4)) := by rw [Lib.cell_of_heap ha3]; rfl
      have k5 : u2.cell? ⟨B3, 5, none⟩ = some (.int .u64 (y3 5)) := by rw [Lib.cell_of_heap ha3]; rfl
      have k6 : u2.cell? ⟨B3, 6, none⟩ = some (.int .u64 (y3 6)) := by rw [Lib.cell_of_heap ha3]; rfl
      have k7 : u2.cell? ⟨B3, 7, none⟩ = some (.int .u64 (y3 7)) := by rw [Lib.cell_of_heap ha3]; rfl
      have k8 : u2.cell? ⟨B3, 8, none⟩ = some (.int .u64 (y3 8)) := by rw [Lib.cell_of_heap ha3]; rfl
      have k9 : u2.cell? ⟨B3, 9, none⟩ = some (.int .u64 (y3 9)) := by rw [Lib.cell_of_heap ha3]; rfl
      have k10 : u2.cell? ⟨B3, 10, none⟩ = some (.complex .f64 p3 q3) := by rw [Lib.cell_of_heap ha3]; rfl
      go_wp2_with fail
      refine (R3.out _).mono ?_
      rintro e u3 ⟨rfl, hu3⟩
      clear k0 k1 k2 k3 k4 k5 k6 k7 k8 k9 k10
      have hu3' : Later u2 u3 := by first | exact hu3 | exact (((Later.refl _).alloc _).trans hu3)
      have hLu : Later w u3 := hLw.trans (hLs4.trans (hu1'.trans (hu2'.trans hu3')))
      clear ha1 ha2 ha3
      go_wp2_with fail
      refine (awake_is u3 (HE.out.later hLu)).mono ?_
      rintro e u4 ⟨rfl, hu4⟩
      go_wp2_with fail
      go_ret
      exact ⟨rfl, hLu.trans hu4⟩
end Go.Proofs.YthohoendjipleaaDoor
