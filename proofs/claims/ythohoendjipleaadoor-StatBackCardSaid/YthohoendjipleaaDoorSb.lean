/-
  The law StatBack, walked. Conditions: the deeds and the codes read as said; the library's tables read as the program's text lays them.
-/
import Derived.Test.YthohoendjipleaaDoorEq
import Derived.Test.YthohoendjipleaaDoorSi
import Derived.Test.YthohoendjipleaaDoorJm
import Derived.Test.YthohoendjipleaaDoorAw
namespace Go.Proofs.YthohoendjipleaaDoor
open Go.RowKit Go.Sort
set_option linter.unusedSimpArgs false
set_option linter.unusedVariables false

theorem cl_val (n : Nat → Int) (A B : Nat) : statV (clX n) A B = .agg #[.int .u64 (n 0), .int .u64 (n 1), .int .u64 0, .int .u64 0, .int .u64 0, .int .u64 0, .int .u64 0, .int .u64 0, .int .u64 0, .int .u64 0, .complex .f64 A B] := by simp [statV, clX]
theorem clX_ok {n : Nat → Int} (h : okN n) : okX (clX n) := fun j => by
  unfold clX
  have := h j
  split <;> omega
theorem si_self (n : Nat → Int) (A B : Nat) : statV (siX n n 8) A B = .agg #[.int .u64 (n 0), .int .u64 (n 1), .int .u64 0, .int .u64 0, .int .u64 0, .int .u64 0, .int .u64 0, .int .u64 0, .int .u64 0, .int .u64 0, .complex .f64 A B] := by simp [statV, siX]
theorem sum_cl (n : Nat → Int) : sumX (clX n) 5 = 0 := by simp [sumX, nX, clX]
theorem leX_self (n : Nat → Int) : leX n n := fun _ _ _ => Int.le_refl _
theorem total_zero (a b A B : Nat) (n : Nat → Int) (hn : okN n) (w : World) : Calls Tryd.prog 13 #[.agg #[.int .u64 (n 0), .int .u64 (n 1), .int .u64 0, .int .u64 0, .int .u64 0, .int .u64 0, .int .u64 0, .int .u64 0, .int .u64 0, .int .u64 0, .complex .f64 A B]] w fun e w' => e = .returned (.int .u64 0) ∧ Later w w' := by
  have h := total_T (clX n) (clX_ok hn) 0 (sum_cl n) (by omega) A B w
  have e := cl_val n A B
  unfold statV at e
  rw [e] at h
  exact h

set_option maxRecDepth 100000 in
set_option maxHeartbeats 16000000 in
theorem StatBack_is (n : Nat → Int) (hn : okN n) (v : Value) (l : List Int) (vc : Value) (lc : List (Nat × Nat)) (w : World) (hd : Deeds w v l) (hc : Codes w vc lc) (hE : Env w) :
    Calls Tryd.prog 6 #[.agg #[.int .u32 (n 0), .int .u32 (n 1), .int .u32 (n 2), .int .u32 (n 3), .int .u32 (n 4), .int .u32 (n 5), .int .u32 (n 6), .int .u32 (n 7), .int .u32 (n 8), .int .u32 (n 9)], v, vc] w fun e w' => e = .returned (.bool true) ∧ Later w w' := by
  have HN := Lib.hid hn
  have HE := Lib.hid hE
  have HD := Lib.hid hd
  have HC := Lib.hid hc
  have hA := ldR_le (l.take 100)
  have hB := ldI_le (l.take 100)
  obtain ⟨A, hA'⟩ : ∃ A, ldR (l.take 100) = A := ⟨_, rfl⟩
  obtain ⟨B, hB'⟩ : ∃ B, ldI (l.take 100) = B := ⟨_, rfl⟩
  have HAB := Lib.hid (And.intro hA' hB')
  rw [hA'] at hA
  rw [hB'] at hB
  have hst := run_store_complex Tryd.prog
  clear hn hE hd hc hA' hB'
  go_enter Tryd.func6, Tryd.ntmps6
  go_wp2_with fail
  refine (Valid_is n HN.out v l _ (HD.out.later ((Later.refl w).alloc _))).mono ?_
  rintro e w1 ⟨rfl, hb1⟩
  rw [HAB.out.1, HAB.out.2]
  have hL1 : Later w w1 := ((Later.refl w).alloc _).trans hb1
  clear hb1
  go_wp2_with fail
  refine (Made_of vc lc w1 (HC.out.later hL1)).mono ?_
  rintro e w2 ⟨va, L, rfl, hMI⟩
  obtain ⟨p, cap, rfl, hEv⟩ := hMI.evs
  have hM := Makes.ok (HC.out.later hL1) hMI.2.1
  have hlen : L.length ≤ 60 := by have := hMI.1; omega
  have hL2 : Later w w2 := hL1.trans hMI.2.2.2
  have HM := Lib.hid hM
  have HBL := Lib.hid (back_law n HN.out L hM hlen)
  clear hM hMI hL1
  obtain ⟨N, hN⟩ : ∃ N, L.length = N := ⟨_, rfl⟩
  rw [hN] at hlen ⊢
  have HLN := Lib.hid hN
  have HEV := Lib.hid hEv
  clear hN hEv
  go_wp2_with fail
  have hEV2 := HEV.out
  have hNEW : StAt (w2.alloc (.cells #[.int .u64 (n 0), .int .u64 (n 1), .int .u64 (n 2), .int .u64 (n 3), .int .u64 (n 4), .int .u64 (n 5), .int .u64 (n 6), .int .u64 (n 7), .int .u64 (n 8), .int .u64 (n 9), .complex .f64 A B] 29)) w2.heap.size n A B := StAt.of_block (heap_alloc_last _ _)
  have hAL := (Later.refl w2).alloc (.cells #[.int .u64 (n 0), .int .u64 (n 1), .int .u64 (n 2), .int .u64 (n 3), .int .u64 (n 4), .int .u64 (n 5), .int .u64 (n 6), .int .u64 (n 7), .int .u64 (n 8), .int .u64 (n 9), .complex .f64 A B] 29)
  have hEV3 := hEV2.later hAL
  have hL3 := hL2.trans hAL
  obtain ⟨w3, hVV⟩ : ∃ V, w2.alloc (.cells #[.int .u64 (n 0), .int .u64 (n 1), .int .u64 (n 2), .int .u64 (n 3), .int .u64 (n 4), .int .u64 (n 5), .int .u64 (n 6), .int .u64 (n 7), .int .u64 (n 8), .int .u64 (n 9), .complex .f64 A B] 29) = V := ⟨_, rfl⟩
  obtain ⟨S, hGG⟩ : ∃ g, w2.heap.size = g := ⟨_, rfl⟩
  rw [hVV, hGG] at hNEW
  rw [hVV] at hEV3 hL3
  try rw [hVV]
  try rw [hGG]
  have hS3 := hNEW
  clear hVV hGG hAL hNEW hEV2 hL2
  have HLC := Lib.hid (show ∀ (x : Nat → Int) (a b : Nat), okX x → a ≤ W2 → b ≤ W2 → ∀ w', Later w3 w' → Calls Tryd.prog 10 #[statV x a b, .slice p N cap] w' fun e w'' => e = .returned (.tuple #[statV (runX x L) (runR a L) (runI b L), .bool true]) ∧ Later w' w'' from
    fun x a b h1 h2 h3 w' hl => by have := After_all (hEV3.later hl) HM.out (by rw [HLN.out]; omega) x a b h1 h2 h3; rwa [HLN.out] at this)
  clear hEV3 HEV
  have hT3 := Later.refl w3
  refine (HLC.out n A B HN.out.x hA hB _ (Later.refl _)).mono ?_
  rintro e w4 ⟨rfl, hb4⟩
  simp only [statV]
  have hS4 := hS3.later hb4
  have hL4 := hL3.trans hb4
  have hT4 := hT3.trans hb4
  clear hS3 hL3 hT3 hb4
  obtain ⟨y, hy⟩ : ∃ y, runX n L = y := ⟨_, rfl⟩
  obtain ⟨bx, hbx⟩ : ∃ y, runX (clX n) L = y := ⟨_, rfl⟩
  obtain ⟨a1, ha1⟩ : ∃ y, runR A L = y := ⟨_, rfl⟩
  obtain ⟨b1, hb1⟩ : ∃ y, runI B L = y := ⟨_, rfl⟩
  have hyok : okX y := by rw [← hy]; exact runX_ok _ _ HN.out.x
  have hbok : okX bx := by rw [← hbx]; exact runX_ok _ _ (clX_ok HN.out)
  have ha1w : a1 ≤ W2 := by rw [← ha1]; exact runR_le _ _ hA
  have hb1w : b1 ≤ W2 := by rw [← hb1]; exact runI_le _ _ hB
  have HB2 := HBL.out
  rw [hy, hbx] at HB2
  have HBK := Lib.hid HB2
  rw [hy, ha1, hb1]
  have HY := Lib.hid (And.intro hy (And.intro hbx (And.intro ha1 hb1)))
  have HOK := Lib.hid (And.intro hyok hbok)
  clear hy hbx ha1 hb1 HB2 HBL hyok hbok
  have kB : S < w4.heap.size := hS4.1
  have k0 : w4.cell? ⟨S, 0, none⟩ = some (.int .u64 (n 0)) := hS4.2.1 0 (by omega)
  have k1 : w4.cell? ⟨S, 1, none⟩ = some (.int .u64 (n 1)) := hS4.2.1 1 (by omega)
  have k2 : w4.cell? ⟨S, 2, none⟩ = some (.int .u64 (n 2)) := hS4.2.1 2 (by omega)
  have k3 : w4.cell? ⟨S, 3, none⟩ = some (.int .u64 (n 3)) := hS4.2.1 3 (by omega)
  have k4 : w4.cell? ⟨S, 4, none⟩ = some (.int .u64 (n 4)) := hS4.2.1 4 (by omega)
  have k5 : w4.cell? ⟨S, 5, none⟩ = some (.int .u64 (n 5)) := hS4.2.1 5 (by omega)
  have k6 : w4.cell? ⟨S, 6, none⟩ = some (.int .u64 (n 6)) := hS4.2.1 6 (by omega)
  have k7 : w4.cell? ⟨S, 7, none⟩ = some (.int .u64 (n 7)) := hS4.2.1 7 (by omega)
  have k8 : w4.cell? ⟨S, 8, none⟩ = some (.int .u64 (n 8)) := hS4.2.1 8 (by omega)
  have k9 : w4.cell? ⟨S, 9, none⟩ = some (.int .u64 (n 9)) := hS4.2.1 9 (by omega)
  have k10 : w4.cell? ⟨S, 10, none⟩ = some (.complex .f64 A B) := hS4.2.2
  go_wp2_with fail
  clear kB k0 k1 k2 k3 k4 k5 k6 k7 k8 k9 k10
  have hNEW : StAt (w4.alloc (.cells #[.int .u64 (y 0), .int .u64 (y 1), .int .u64 (y 2), .int .u64 (y 3), .int .u64 (y 4), .int .u64 (y 5), .int .u64 (y 6), .int .u64 (y 7), .int .u64 (y 8), .int .u64 (y 9), .complex .f64 a1 b1] 29)) w4.heap.size y a1 b1 := StAt.of_block (heap_alloc_last _ _)
  have hAL := (Later.refl w4).alloc (.cells #[.int .u64 (y 0), .int .u64 (y 1), .int .u64 (y 2), .int .u64 (y 3), .int .u64 (y 4), .int .u64 (y 5), .int .u64 (y 6), .int .u64 (y 7), .int .u64 (y 8), .int .u64 (y 9), .complex .f64 a1 b1] 29)
  have hS5 := hS4.later hAL
  have hL5 := hL4.trans hAL
  have hT5 := hT4.trans hAL
  obtain ⟨w5, hVV⟩ : ∃ V, w4.alloc (.cells #[.int .u64 (y 0), .int .u64 (y 1), .int .u64 (y 2), .int .u64 (y 3), .int .u64 (y 4), .int .u64 (y 5), .int .u64 (y 6), .int .u64 (y 7), .int .u64 (y 8), .int .u64 (y 9), .complex .f64 a1 b1] 29) = V := ⟨_, rfl⟩
  obtain ⟨O, hGG⟩ : ∃ g, w4.heap.size = g := ⟨_, rfl⟩
  rw [hVV, hGG] at hNEW
  rw [hVV] at hS5 hL5 hT5
  try rw [hVV]
  try rw [hGG]
  have hO5 := hNEW
  clear hVV hGG hAL hNEW hS4 hL4 hT4
  refine (Since_is n y HN.out.x HOK.out.1 A B a1 b1 hA hB ha1w hb1w _).mono ?_
  rintro e w6 ⟨hcase, hb6⟩
  rcases hcase with ⟨_, rfl⟩ | ⟨hno, _⟩
  case inr => exact absurd HBK.out.1 hno
  rw [show statV (siX n y 8) a1 b1 = statV bx a1 b1 from statV_cg HBK.out.2.1 rfl rfl]
  simp only [statV]
  have hS6 := hS5.later hb6
  have hO6 := hO5.later hb6
  have hL6 := hL5.trans hb6
  have hT6 := hT5.trans hb6
  clear hS5 hO5 hL5 hT5 hb6
  have kB : S < w6.heap.size := hS6.1
  have k0 : w6.cell? ⟨S, 0, none⟩ = some (.int .u64 (n 0)) := hS6.2.1 0 (by omega)
  have k1 : w6.cell? ⟨S, 1, none⟩ = some (.int .u64 (n 1)) := hS6.2.1 1 (by omega)
  have k2 : w6.cell? ⟨S, 2, none⟩ = some (.int .u64 (n 2)) := hS6.2.1 2 (by omega)
  have k3 : w6.cell? ⟨S, 3, none⟩ = some (.int .u64 (n 3)) := hS6.2.1 3 (by omega)
  have k4 : w6.cell? ⟨S, 4, none⟩ = some (.int .u64 (n 4)) := hS6.2.1 4 (by omega)
  have k5 : w6.cell? ⟨S, 5, none⟩ = some (.int .u64 (n 5)) := hS6.2.1 5 (by omega)
  have k6 : w6.cell? ⟨S, 6, none⟩ = some (.int .u64 (n 6)) := hS6.2.1 6 (by omega)
  have k7 : w6.cell? ⟨S, 7, none⟩ = some (.int .u64 (n 7)) := hS6.2.1 7 (by omega)
  have k8 : w6.cell? ⟨S, 8, none⟩ = some (.int .u64 (n 8)) := hS6.2.1 8 (by omega)
  have k9 : w6.cell? ⟨S, 9, none⟩ = some (.int .u64 (n 9)) := hS6.2.1 9 (by omega)
  have k10 : w6.cell? ⟨S, 10, none⟩ = some (.complex .f64 A B) := hS6.2.2
  go_wp2_with fail
  clear kB k0 k1 k2 k3 k4 k5 k6 k7 k8 k9 k10
  have hNEW : StAt (w6.alloc (.cells #[.int .u64 (bx 0), .int .u64 (bx 1), .int .u64 (bx 2), .int .u64 (bx 3), .int .u64 (bx 4), .int .u64 (bx 5), .int .u64 (bx 6), .int .u64 (bx 7), .int .u64 (bx 8), .int .u64 (bx 9), .complex .f64 a1 b1] 29)) w6.heap.size bx a1 b1 := StAt.of_block (heap_alloc_last _ _)
  have hAL := (Later.refl w6).alloc (.cells #[.int .u64 (bx 0), .int .u64 (bx 1), .int .u64 (bx 2), .int .u64 (bx 3), .int .u64 (bx 4), .int .u64 (bx 5), .int .u64 (bx 6), .int .u64 (bx 7), .int .u64 (bx 8), .int .u64 (bx 9), .complex .f64 a1 b1] 29)
  have hS7 := hS6.later hAL
  have hO7 := hO6.later hAL
  have hL7 := hL6.trans hAL
  have hT7 := hT6.trans hAL
  obtain ⟨w7, hVV⟩ : ∃ V, w6.alloc (.cells #[.int .u64 (bx 0), .int .u64 (bx 1), .int .u64 (bx 2), .int .u64 (bx 3), .int .u64 (bx 4), .int .u64 (bx 5), .int .u64 (bx 6), .int .u64 (bx 7), .int .u64 (bx 8), .int .u64 (bx 9), .complex .f64 a1 b1] 29) = V := ⟨_, rfl⟩
  obtain ⟨D, hGG⟩ : ∃ g, w6.heap.size = g := ⟨_, rfl⟩
  rw [hVV, hGG] at hNEW
  rw [hVV] at hS7 hO7 hL7 hT7
  try rw [hVV]
  try rw [hGG]
  have hD7 := hNEW
  clear hVV hGG hAL hNEW hS6 hO6 hL6 hT6
  have hcl := HLC.out (clX n) A B (clX_ok HN.out) hA hB w7 hT7
  rw [cl_val, HY.out.2.1, HY.out.2.2.1, HY.out.2.2.2] at hcl
  refine hcl.mono ?_
  clear hcl
  rintro e w8 ⟨rfl, hb8⟩
  simp only [statV]
  have hS8 := hS7.later hb8
  have hO8 := hO7.later hb8
  have hD8 := hD7.later hb8
  have hL8 := hL7.trans hb8
  have hT8 := hT7.trans hb8
  clear hS7 hO7 hD7 hL7 hT7 hb8
  have kB : S < w8.heap.size := hS8.1
  have k0 : w8.cell? ⟨S, 0, none⟩ = some (.int .u64 (n 0)) := hS8.2.1 0 (by omega)
  have k1 : w8.cell? ⟨S, 1, none⟩ = some (.int .u64 (n 1)) := hS8.2.1 1 (by omega)
  have k2 : w8.cell? ⟨S, 2, none⟩ = some (.int .u64 (n 2)) := hS8.2.1 2 (by omega)
  have k3 : w8.cell? ⟨S, 3, none⟩ = some (.int .u64 (n 3)) := hS8.2.1 3 (by omega)
  have k4 : w8.cell? ⟨S, 4, none⟩ = some (.int .u64 (n 4)) := hS8.2.1 4 (by omega)
  have k5 : w8.cell? ⟨S, 5, none⟩ = some (.int .u64 (n 5)) := hS8.2.1 5 (by omega)
  have k6 : w8.cell? ⟨S, 6, none⟩ = some (.int .u64 (n 6)) := hS8.2.1 6 (by omega)
  have k7 : w8.cell? ⟨S, 7, none⟩ = some (.int .u64 (n 7)) := hS8.2.1 7 (by omega)
  have k8 : w8.cell? ⟨S, 8, none⟩ = some (.int .u64 (n 8)) := hS8.2.1 8 (by omega)
  have k9 : w8.cell? ⟨S, 9, none⟩ = some (.int .u64 (n 9)) := hS8.2.1 9 (by omega)
  have k10 : w8.cell? ⟨S, 10, none⟩ = some (.complex .f64 A B) := hS8.2.2
  go_wp2_with fail
  clear kB k0 k1 k2 k3 k4 k5 k6 k7 k8 k9 k10
  have hNEW : StAt (w8.alloc (.cells #[.int .u64 (bx 0), .int .u64 (bx 1), .int .u64 (bx 2), .int .u64 (bx 3), .int .u64 (bx 4), .int .u64 (bx 5), .int .u64 (bx 6), .int .u64 (bx 7), .int .u64 (bx 8), .int .u64 (bx 9), .complex .f64 a1 b1] 29)) w8.heap.size bx a1 b1 := StAt.of_block (heap_alloc_last _ _)
  have hAL := (Later.refl w8).alloc (.cells #[.int .u64 (bx 0), .int .u64 (bx 1), .int .u64 (bx 2), .int .u64 (bx 3), .int .u64 (bx 4), .int .u64 (bx 5), .int .u64 (bx 6), .int .u64 (bx 7), .int .u64 (bx 8), .int .u64 (bx 9), .complex .f64 a1 b1] 29)
  have hS9 := hS8.later hAL
  have hO9 := hO8.later hAL
  have hD9 := hD8.later hAL
  have hL9 := hL8.trans hAL
  have hT9 := hT8.trans hAL
  obtain ⟨w9, hVV⟩ : ∃ V, w8.alloc (.cells #[.int .u64 (bx 0), .int .u64 (bx 1), .int .u64 (bx 2), .int .u64 (bx 3), .int .u64 (bx 4), .int .u64 (bx 5), .int .u64 (bx 6), .int .u64 (bx 7), .int .u64 (bx 8), .int .u64 (bx 9), .complex .f64 a1 b1] 29) = V := ⟨_, rfl⟩
  obtain ⟨K, hGG⟩ : ∃ g, w8.heap.size = g := ⟨_, rfl⟩
  rw [hVV, hGG] at hNEW
  rw [hVV] at hS9 hO9 hD9 hL9 hT9
  try rw [hVV]
  try rw [hGG]
  have hK9 := hNEW
  clear hVV hGG hAL hNEW hS8 hO8 hD8 hL8 hT8
  refine (Since_is n n HN.out.x HN.out.x A B A B hA hB hA hB _).mono ?_
  rintro e w10 ⟨hcase, hb10⟩
  rcases hcase with ⟨_, rfl⟩ | ⟨hno, _⟩
  case inr => exact absurd (leX_self n) hno
  rw [show statV (siX n n 8) A B = statV (clX n) A B from statV_cg (fun j hj => by unfold siX clX; split <;> split <;> omega) rfl rfl]
  obtain ⟨c0, hc0⟩ : ∃ f, clX n = f := ⟨_, rfl⟩
  rw [hc0]
  simp only [statV]
  have HC0 := Lib.hid (show okX c0 ∧ sumX c0 5 = 0 ∧ c0 7 = 0 ∧ c0 8 = 0 ∧ c0 9 = 0 from by rw [← hc0]; exact ⟨clX_ok HN.out, sum_cl n, rfl, rfl, rfl⟩)
  clear hc0
  have hS10 := hS9.later hb10
  have hO10 := hO9.later hb10
  have hD10 := hD9.later hb10
  have hK10 := hK9.later hb10
  have hL10 := hL9.trans hb10
  have hT10 := hT9.trans hb10
  clear hS9 hO9 hD9 hK9 hL9 hT9 hb10
  have kB : D < w10.heap.size := hD10.1
  have k0 : w10.cell? ⟨D, 0, none⟩ = some (.int .u64 (bx 0)) := hD10.2.1 0 (by omega)
  have k1 : w10.cell? ⟨D, 1, none⟩ = some (.int .u64 (bx 1)) := hD10.2.1 1 (by omega)
  have k2 : w10.cell? ⟨D, 2, none⟩ = some (.int .u64 (bx 2)) := hD10.2.1 2 (by omega)
  have k3 : w10.cell? ⟨D, 3, none⟩ = some (.int .u64 (bx 3)) := hD10.2.1 3 (by omega)
  have k4 : w10.cell? ⟨D, 4, none⟩ = some (.int .u64 (bx 4)) := hD10.2.1 4 (by omega)
  have k5 : w10.cell? ⟨D, 5, none⟩ = some (.int .u64 (bx 5)) := hD10.2.1 5 (by omega)
  have k6 : w10.cell? ⟨D, 6, none⟩ = some (.int .u64 (bx 6)) := hD10.2.1 6 (by omega)
  have k7 : w10.cell? ⟨D, 7, none⟩ = some (.int .u64 (bx 7)) := hD10.2.1 7 (by omega)
  have k8 : w10.cell? ⟨D, 8, none⟩ = some (.int .u64 (bx 8)) := hD10.2.1 8 (by omega)
  have k9 : w10.cell? ⟨D, 9, none⟩ = some (.int .u64 (bx 9)) := hD10.2.1 9 (by omega)
  have k10 : w10.cell? ⟨D, 10, none⟩ = some (.complex .f64 a1 b1) := hD10.2.2
  have jB : K < w10.heap.size := hK10.1
  have j0 : w10.cell? ⟨K, 0, none⟩ = some (.int .u64 (bx 0)) := hK10.2.1 0 (by omega)
  have j1 : w10.cell? ⟨K, 1, none⟩ = some (.int .u64 (bx 1)) := hK10.2.1 1 (by omega)
  have j2 : w10.cell? ⟨K, 2, none⟩ = some (.int .u64 (bx 2)) := hK10.2.1 2 (by omega)
  have j3 : w10.cell? ⟨K, 3, none⟩ = some (.int .u64 (bx 3)) := hK10.2.1 3 (by omega)
  have j4 : w10.cell? ⟨K, 4, none⟩ = some (.int .u64 (bx 4)) := hK10.2.1 4 (by omega)
  have j5 : w10.cell? ⟨K, 5, none⟩ = some (.int .u64 (bx 5)) := hK10.2.1 5 (by omega)
  have j6 : w10.cell? ⟨K, 6, none⟩ = some (.int .u64 (bx 6)) := hK10.2.1 6 (by omega)
  have j7 : w10.cell? ⟨K, 7, none⟩ = some (.int .u64 (bx 7)) := hK10.2.1 7 (by omega)
  have j8 : w10.cell? ⟨K, 8, none⟩ = some (.int .u64 (bx 8)) := hK10.2.1 8 (by omega)
  have j9 : w10.cell? ⟨K, 9, none⟩ = some (.int .u64 (bx 9)) := hK10.2.1 9 (by omega)
  have j10 : w10.cell? ⟨K, 10, none⟩ = some (.complex .f64 a1 b1) := hK10.2.2
  have hne := neq_stat bx a1 b1 ha1w hb1w
  have ho1 := order_self a1 ha1w
  have ho2 := order_self b1 hb1w
  go_wp2_with fail
  clear hne kB k0 k1 k2 k3 k4 k5 k6 k7 k8 k9 k10 jB j0 j1 j2 j3 j4 j5 j6 j7 j8 j9 j10
  have hNEW : StAt (w10.alloc (.cells #[.int .u64 (c0 0), .int .u64 (c0 1), .int .u64 (c0 2), .int .u64 (c0 3), .int .u64 (c0 4), .int .u64 (c0 5), .int .u64 (c0 6), .int .u64 (c0 7), .int .u64 (c0 8), .int .u64 (c0 9), .complex .f64 A B] 29)) w10.heap.size c0 A B := StAt.of_block (heap_alloc_last _ _)
  have hAL := (Later.refl w10).alloc (.cells #[.int .u64 (c0 0), .int .u64 (c0 1), .int .u64 (c0 2), .int .u64 (c0 3), .int .u64 (c0 4), .int .u64 (c0 5), .int .u64 (c0 6), .int .u64 (c0 7), .int .u64 (c0 8), .int .u64 (c0 9), .complex .f64 A B] 29)
  have hS11 := hS10.later hAL
  have hO11 := hO10.later hAL
  have hK11 := hK10.later hAL
  have hL11 := hL10.trans hAL
  obtain ⟨w11, hVV⟩ : ∃ V, w10.alloc (.cells #[.int .u64 (c0 0), .int .u64 (c0 1), .int .u64 (c0 2), .int .u64 (c0 3), .int .u64 (c0 4), .int .u64 (c0 5), .int .u64 (c0 6), .int .u64 (c0 7), .int .u64 (c0 8), .int .u64 (c0 9), .complex .f64 A B] 29) = V := ⟨_, rfl⟩
  obtain ⟨E, hGG⟩ : ∃ g, w10.heap.size = g := ⟨_, rfl⟩
  rw [hVV, hGG] at hNEW
  rw [hVV] at hS11 hO11 hK11 hL11
  try rw [hVV]
  try rw [hGG]
  have hE11 := hNEW
  clear hVV hGG hAL hNEW hS10 hO10 hK10 hL10
  clear hT10 hD10
  refine (total_T c0 HC0.out.1 0 HC0.out.2.1 (by omega) A B _).mono ?_
  rintro e w12 ⟨rfl, hb12⟩
  have hS12 := hS11.later hb12
  have hO12 := hO11.later hb12
  have hK12 := hK11.later hb12
  have hE12 := hE11.later hb12
  have hL12 := hL11.trans hb12
  clear hS11 hO11 hK11 hE11 hL11 hb12
  have q7 : w12.cell? ⟨E, 7, none⟩ = some (.int .u64 0) := by rw [hE12.2.1 7 (by omega), HC0.out.2.2.1]
  have q8 : w12.cell? ⟨E, 8, none⟩ = some (.int .u64 0) := by rw [hE12.2.1 8 (by omega), HC0.out.2.2.2.1]
  have q9 : w12.cell? ⟨E, 9, none⟩ = some (.int .u64 0) := by rw [hE12.2.1 9 (by omega), HC0.out.2.2.2.2]
  clear hE12
  have kB : O < w12.heap.size := hO12.1
  have k0 : w12.cell? ⟨O, 0, none⟩ = some (.int .u64 (y 0)) := hO12.2.1 0 (by omega)
  have k1 : w12.cell? ⟨O, 1, none⟩ = some (.int .u64 (y 1)) := hO12.2.1 1 (by omega)
  have k2 : w12.cell? ⟨O, 2, none⟩ = some (.int .u64 (y 2)) := hO12.2.1 2 (by omega)
  have k3 : w12.cell? ⟨O, 3, none⟩ = some (.int .u64 (y 3)) := hO12.2.1 3 (by omega)
  have k4 : w12.cell? ⟨O, 4, none⟩ = some (.int .u64 (y 4)) := hO12.2.1 4 (by omega)
  have k5 : w12.cell? ⟨O, 5, none⟩ = some (.int .u64 (y 5)) := hO12.2.1 5 (by omega)
  have k6 : w12.cell? ⟨O, 6, none⟩ = some (.int .u64 (y 6)) := hO12.2.1 6 (by omega)
  have k7 : w12.cell? ⟨O, 7, none⟩ = some (.int .u64 (y 7)) := hO12.2.1 7 (by omega)
  have k8 : w12.cell? ⟨O, 8, none⟩ = some (.int .u64 (y 8)) := hO12.2.1 8 (by omega)
  have k9 : w12.cell? ⟨O, 9, none⟩ = some (.int .u64 (y 9)) := hO12.2.1 9 (by omega)
  have k10 : w12.cell? ⟨O, 10, none⟩ = some (.complex .f64 a1 b1) := hO12.2.2
  have jB : S < w12.heap.size := hS12.1
  have j0 : w12.cell? ⟨S, 0, none⟩ = some (.int .u64 (n 0)) := hS12.2.1 0 (by omega)
  have j1 : w12.cell? ⟨S, 1, none⟩ = some (.int .u64 (n 1)) := hS12.2.1 1 (by omega)
  have j2 : w12.cell? ⟨S, 2, none⟩ = some (.int .u64 (n 2)) := hS12.2.1 2 (by omega)
  have j3 : w12.cell? ⟨S, 3, none⟩ = some (.int .u64 (n 3)) := hS12.2.1 3 (by omega)
  have j4 : w12.cell? ⟨S, 4, none⟩ = some (.int .u64 (n 4)) := hS12.2.1 4 (by omega)
  have j5 : w12.cell? ⟨S, 5, none⟩ = some (.int .u64 (n 5)) := hS12.2.1 5 (by omega)
  have j6 : w12.cell? ⟨S, 6, none⟩ = some (.int .u64 (n 6)) := hS12.2.1 6 (by omega)
  have j7 : w12.cell? ⟨S, 7, none⟩ = some (.int .u64 (n 7)) := hS12.2.1 7 (by omega)
  have j8 : w12.cell? ⟨S, 8, none⟩ = some (.int .u64 (n 8)) := hS12.2.1 8 (by omega)
  have j9 : w12.cell? ⟨S, 9, none⟩ = some (.int .u64 (n 9)) := hS12.2.1 9 (by omega)
  have j10 : w12.cell? ⟨S, 10, none⟩ = some (.complex .f64 A B) := hS12.2.2
  go_wp2_with fail
  clear q7 q8 q9 kB k0 k1 k2 k3 k4 k5 k6 k7 k8 k9 k10 jB j0 j1 j2 j3 j4 j5 j6 j7 j8 j9 j10
  refine (Since_is y n HOK.out.1 HN.out.x a1 b1 A B ha1w hb1w hA hB _).mono ?_
  rintro e w13 ⟨hcase, hb13⟩
  have hK13 := hK12.later hb13
  have hL13 := hL12.trans hb13
  clear hK12 hL12 hb13
  clear hS12 hO12
  have hs5 := sumX_5 bx HOK.out.2
  have hiff := HBK.out.2.2.1
  have hbd := HBK.out.2.2.2
  have bd2 := hbd 2 (by omega)
  have bd3 := hbd 3 (by omega)
  have bd4 := hbd 4 (by omega)
  have bd5 := hbd 5 (by omega)
  have bd6 := hbd 6 (by omega)
  clear hbd
  rcases hcase with ⟨hle, rfl⟩ | ⟨hnle, rfl⟩
  · have hz := hiff.1 hle
    have hT2 : sumX bx 5 = 0 := by omega
    clear hs5 hiff bd2 bd3 bd4 bd5 bd6 hz hle
    obtain ⟨f, hf⟩ : ∃ f, siX y n 8 = f := ⟨_, rfl⟩
    rw [hf]
    simp only [statV]
    clear hf
    have kB : K < w13.heap.size := hK13.1
    have k0 : w13.cell? ⟨K, 0, none⟩ = some (.int .u64 (bx 0)) := hK13.2.1 0 (by omega)
    have k1 : w13.cell? ⟨K, 1, none⟩ = some (.int .u64 (bx 1)) := hK13.2.1 1 (by omega)
    have k2 : w13.cell? ⟨K, 2, none⟩ = some (.int .u64 (bx 2)) := hK13.2.1 2 (by omega)
    have k3 : w13.cell? ⟨K, 3, none⟩ = some (.int .u64 (bx 3)) := hK13.2.1 3 (by omega)
    have k4 : w13.cell? ⟨K, 4, none⟩ = some (.int .u64 (bx 4)) := hK13.2.1 4 (by omega)
    have k5 : w13.cell? ⟨K, 5, none⟩ = some (.int .u64 (bx 5)) := hK13.2.1 5 (by omega)
    have k6 : w13.cell? ⟨K, 6, none⟩ = some (.int .u64 (bx 6)) := hK13.2.1 6 (by omega)
    have k7 : w13.cell? ⟨K, 7, none⟩ = some (.int .u64 (bx 7)) := hK13.2.1 7 (by omega)
    have k8 : w13.cell? ⟨K, 8, none⟩ = some (.int .u64 (bx 8)) := hK13.2.1 8 (by omega)
    have k9 : w13.cell? ⟨K, 9, none⟩ = some (.int .u64 (bx 9)) := hK13.2.1 9 (by omega)
    have k10 : w13.cell? ⟨K, 10, none⟩ = some (.complex .f64 a1 b1) := hK13.2.2
    go_wp2_with fail
    clear kB k0 k1 k2 k3 k4 k5 k6 k7 k8 k9 k10
    have hNEW : StAt (w13.alloc (.cells #[.int .u64 (f 0), .int .u64 (f 1), .int .u64 (f 2), .int .u64 (f 3), .int .u64 (f 4), .int .u64 (f 5), .int .u64 (f 6), .int .u64 (f 7), .int .u64 (f 8), .int .u64 (f 9), .complex .f64 A B] 29)) w13.heap.size f A B := StAt.of_block (heap_alloc_last _ _)
    have hAL := (Later.refl w13).alloc (.cells #[.int .u64 (f 0), .int .u64 (f 1), .int .u64 (f 2), .int .u64 (f 3), .int .u64 (f 4), .int .u64 (f 5), .int .u64 (f 6), .int .u64 (f 7), .int .u64 (f 8), .int .u64 (f 9), .complex .f64 A B] 29)
    have hL14 := hL13.trans hAL
    obtain ⟨w14, hVV⟩ : ∃ V, w13.alloc (.cells #[.int .u64 (f 0), .int .u64 (f 1), .int .u64 (f 2), .int .u64 (f 3), .int .u64 (f 4), .int .u64 (f 5), .int .u64 (f 6), .int .u64 (f 7), .int .u64 (f 8), .int .u64 (f 9), .complex .f64 A B] 29) = V := ⟨_, rfl⟩
    obtain ⟨F, hGG⟩ : ∃ g, w13.heap.size = g := ⟨_, rfl⟩
    rw [hVV, hGG] at hNEW
    rw [hVV] at hL14
    try rw [hVV]
    try rw [hGG]
    have hF14 := hNEW
    clear hVV hGG hAL hNEW hL13
    clear hF14 hK13
    refine (total_T bx HOK.out.2 0 hT2 (by omega) a1 b1 _).mono ?_
    rintro e w15 ⟨rfl, hb15⟩
    have hL15 := hL14.trans hb15
    clear hL14 hb15
    go_wp2_with fail
    refine (awake_is _ (HE.out.later hL15)).mono ?_
    rintro e w16 ⟨rfl, hb16⟩
    have hL16 := hL15.trans hb16
    clear hL15 hb16
    go_wp2_with fail
    go_ret
    exact ⟨rfl, hL16⟩
  · have hnz : ¬ sumX bx 5 = 0 := fun h => hnle (hiff.2 (by omega))
    obtain ⟨T2, hT2⟩ : ∃ T, sumX bx 5 = T := ⟨_, rfl⟩
    rw [hT2] at hnz hs5
    have hT2b : T2 ≤ 4500 := by omega
    have hd1 : ((T2 : Int) == 0) = false := by simp; omega
    have hd2 : decide ((T2 : Int) = 0) = false := by simp; omega
    have hd3 : decide (T2 = 0) = false := by simp; omega
    clear hs5 hiff bd2 bd3 bd4 bd5 bd6 hnle
    have kB : K < w13.heap.size := hK13.1
    have k0 : w13.cell? ⟨K, 0, none⟩ = some (.int .u64 (bx 0)) := hK13.2.1 0 (by omega)
    have k1 : w13.cell? ⟨K, 1, none⟩ = some (.int .u64 (bx 1)) := hK13.2.1 1 (by omega)
    have k2 : w13.cell? ⟨K, 2, none⟩ = some (.int .u64 (bx 2)) := hK13.2.1 2 (by omega)
    have k3 : w13.cell? ⟨K, 3, none⟩ = some (.int .u64 (bx 3)) := hK13.2.1 3 (by omega)
    have k4 : w13.cell? ⟨K, 4, none⟩ = some (.int .u64 (bx 4)) := hK13.2.1 4 (by omega)
    have k5 : w13.cell? ⟨K, 5, none⟩ = some (.int .u64 (bx 5)) := hK13.2.1 5 (by omega)
    have k6 : w13.cell? ⟨K, 6, none⟩ = some (.int .u64 (bx 6)) := hK13.2.1 6 (by omega)
    have k7 : w13.cell? ⟨K, 7, none⟩ = some (.int .u64 (bx 7)) := hK13.2.1 7 (by omega)
    have k8 : w13.cell? ⟨K, 8, none⟩ = some (.int .u64 (bx 8)) := hK13.2.1 8 (by omega)
    have k9 : w13.cell? ⟨K, 9, none⟩ = some (.int .u64 (bx 9)) := hK13.2.1 9 (by omega)
    have k10 : w13.cell? ⟨K, 10, none⟩ = some (.complex .f64 a1 b1) := hK13.2.2
    go_wp2_with fail
    clear kB k0 k1 k2 k3 k4 k5 k6 k7 k8 k9 k10
    have hAL := (Later.refl w13).alloc (.cells #[.int .u64 0, .int .u64 0, .int .u64 0, .int .u64 0, .int .u64 0, .int .u64 0, .int .u64 0, .int .u64 0, .int .u64 0, .int .u64 0, .complex .f64 0 0] 29)
    have hL14 := hL13.trans hAL
    clear hAL
    refine (total_T bx HOK.out.2 T2 hT2 (by omega) a1 b1 _).mono ?_
    rintro e w15 ⟨rfl, hb15⟩
    have hL15 := hL14.trans hb15
    clear hL14 hb15
    go_wp2_with fail
    refine (awake_is _ (HE.out.later hL15)).mono ?_
    rintro e w16 ⟨rfl, hb16⟩
    have hL16 := hL15.trans hb16
    clear hL15 hb16
    go_wp2_with fail
    go_ret
    exact ⟨rfl, hL16⟩
end Go.Proofs.YthohoendjipleaaDoor
