/-
  The law StatCounts, walked. Conditions: the deeds and the codes read as said; the library's tables read as the program's text lays them.
-/
import Derived.Test.YthohoendjipleaaDoorEq
import Derived.Deep.MidRow
import Derived.Deep.WholeRow
import Derived.Great.BuildSlice
import Derived.Deep.CutRange
namespace Go.Proofs.YthohoendjipleaaDoor
open Go.RowKit Go.Sort
set_option linter.unusedSimpArgs false

set_option maxRecDepth 100000 in
set_option maxHeartbeats 16000000 in
theorem StatCounts_is (n : Nat → Int) (hn : okN n) (v : Value) (l : List Int) (vc : Value) (lc : List (Nat × Nat)) (at' : Int) (hat : 0 ≤ at' ∧ at' ≤ 255) (w : World) (hd : Deeds w v l) (hc : Codes w vc lc) (hE : Env w) :
    Calls Tryd.prog 3 #[.agg #[.int .u32 (n 0), .int .u32 (n 1), .int .u32 (n 2), .int .u32 (n 3), .int .u32 (n 4), .int .u32 (n 5), .int .u32 (n 6), .int .u32 (n 7), .int .u32 (n 8), .int .u32 (n 9)], v, vc, .int .u8 at'] w fun e w' => e = .returned (.bool true) ∧ Later w w' := by
  have HN := Lib.hid hn
  have HE := Lib.hid hE
  have HD := Lib.hid hd
  have HC := Lib.hid hc
  have hTb := sumX_small n hn
  obtain ⟨T, hT⟩ : ∃ T, sumX n 5 = T := ⟨_, rfl⟩
  rw [hT] at hTb
  have hT1 := hTb.1
  clear hTb
  have HT := Lib.hid hT
  have hA := ldR_le (l.take 100)
  have hB := ldI_le (l.take 100)
  obtain ⟨A, hA'⟩ : ∃ A, ldR (l.take 100) = A := ⟨_, rfl⟩
  obtain ⟨B, hB'⟩ : ∃ B, ldI (l.take 100) = B := ⟨_, rfl⟩
  have HAB := Lib.hid (And.intro hA' hB')
  rw [hA'] at hA
  rw [hB'] at hB
  obtain ⟨m, rfl⟩ : ∃ m : Nat, at' = m := ⟨at'.toNat, by omega⟩
  have hst := run_store_complex Tryd.prog
  clear hn hE hd hc hT hA' hB'
  go_enter Tryd.func3, Tryd.ntmps3
  go_wp2_with fail
  refine (Valid_is n HN.out v l _ (HD.out.later ((Later.refl w).alloc _))).mono ?_
  rintro e w1 ⟨rfl, hb1⟩
  rw [HAB.out.1, HAB.out.2]
  have hL1 : Later w w1 := ((Later.refl w).alloc _).trans hb1
  clear hb1
  go_wp2_with fail
  refine (Made_of vc lc w1 (HC.out.later hL1)).mono ?_
  rintro e w2 ⟨va, L, rfl, hMI⟩
  obtain ⟨p, cap, rfl, hEv⟩ := hMI.evs
  have hM := Makes.ok (HC.out.later hL1) hMI.2.1
  have hlen : L.length ≤ 60 := by have := hMI.1; omega
  have hL2 : Later w w2 := hL1.trans hMI.2.2.2
  have HM := Lib.hid hM
  clear hM hMI hL1
  obtain ⟨N, hN⟩ : ∃ N, L.length = N := ⟨_, rfl⟩
  rw [hN] at hlen ⊢
  have HLN := Lib.hid hN
  have HEV := Lib.hid hEv
  clear hN hEv
  obtain ⟨k, hk⟩ : ∃ k : Nat, m % (N + 1) = k := ⟨_, rfl⟩
  have hkN : k ≤ N := by have := Nat.mod_lt m (show 0 < N + 1 by omega); omega
  have w0 : IntKind.i64.wrap (m : Int) = m := by rw [IntKind.wrap_i64]; omega
  have w1' : IntKind.i64.wrap ((N : Int) + 1) = (N : Int) + 1 := by rw [IntKind.wrap_i64]; omega
  have hmod : (m : Int).tmod ((N : Int) + 1) = (k : Int) := by
    rw [Int.tmod_eq_emod_of_nonneg (by omega), ← hk]
    have := Int.natCast_emod m (N + 1)
    rw [show ((N + 1 : Nat) : Int) = (N : Int) + 1 by omega] at this
    exact this.symm
  clear hk hat
  go_wp2_with fail
  have hWS : StAt (w2.alloc (.cells #[.int .u64 (n 0), .int .u64 (n 1), .int .u64 (n 2), .int .u64 (n 3), .int .u64 (n 4), .int .u64 (n 5), .int .u64 (n 6), .int .u64 (n 7), .int .u64 (n 8), .int .u64 (n 9), .complex .f64 A B] 29)) w2.heap.size n A B := StAt.of_block (heap_alloc_last _ _)
  have hL3 : Later w (w2.alloc (.cells #[.int .u64 (n 0), .int .u64 (n 1), .int .u64 (n 2), .int .u64 (n 3), .int .u64 (n 4), .int .u64 (n 5), .int .u64 (n 6), .int .u64 (n 7), .int .u64 (n 8), .int .u64 (n 9), .complex .f64 A B] 29)) := hL2.alloc _
  have HEV3 := HEV.out.later ((Later.refl w2).alloc (.cells #[.int .u64 (n 0), .int .u64 (n 1), .int .u64 (n 2), .int .u64 (n 3), .int .u64 (n 4), .int .u64 (n 5), .int .u64 (n 6), .int .u64 (n 7), .int .u64 (n 8), .int .u64 (n 9), .complex .f64 A B] 29))
  obtain ⟨w3, hw3⟩ : ∃ w3, w2.alloc (.cells #[.int .u64 (n 0), .int .u64 (n 1), .int .u64 (n 2), .int .u64 (n 3), .int .u64 (n 4), .int .u64 (n 5), .int .u64 (n 6), .int .u64 (n 7), .int .u64 (n 8), .int .u64 (n 9), .complex .f64 A B] 29) = w3 := ⟨_, rfl⟩
  obtain ⟨S, hS⟩ : ∃ S, w2.heap.size = S := ⟨_, rfl⟩
  rw [hw3, hS] at hWS
  rw [hw3] at hL3 HEV3
  try rw [hw3]
  try rw [hS]
  clear hw3 hS hL2
  have HLC := Lib.hid (show ∀ (x : Nat → Int) (a b : Nat), okX x → a ≤ W2 → b ≤ W2 → ∀ w', Later w3 w' → Calls Tryd.prog 10 #[statV x a b, .slice p N cap] w' fun e w'' => e = .returned (.tuple #[statV (runX x L) (runR a L) (runI b L), .bool true]) ∧ Later w' w'' from
    fun x a b h1 h2 h3 w' hl => by have := After_all (HEV3.later hl) HM.out (by rw [HLN.out]; omega) x a b h1 h2 h3; rwa [HLN.out] at this)
  have HLK := Lib.hid (show ∀ (x : Nat → Int) (a b : Nat), okX x → a ≤ W2 → b ≤ W2 → ∀ w', Later w3 w' → Calls Tryd.prog 10 #[statV x a b, sliced p 0 k cap 18] w' fun e w'' => e = .returned (.tuple #[statV (runX x (L.take k)) (runR a (L.take k)) (runI b (L.take k)), .bool true]) ∧ Later w' w'' from
    fun x a b h1 h2 h3 w' hl => After_to (HEV3.later hl) HM.out (by rw [HLN.out]; omega) k (by rw [HLN.out]; omega) x a b h1 h2 h3)
  have HLD := Lib.hid (show ∀ (x : Nat → Int) (a b : Nat), okX x → a ≤ W2 → b ≤ W2 → ∀ w', Later w3 w' → Calls Tryd.prog 10 #[statV x a b, sliced p k N cap 18] w' fun e w'' => e = .returned (.tuple #[statV (runX x (L.drop k)) (runR a (L.drop k)) (runI b (L.drop k)), .bool true]) ∧ Later w' w'' from
    fun x a b h1 h2 h3 w' hl => by have := After_from (HEV3.later hl) HM.out (by rw [HLN.out]; omega) k (by rw [HLN.out]; omega) x a b h1 h2 h3; rwa [HLN.out] at this)
  have hcap : N ≤ cap := by have := HEV3.le.1; rw [HLN.out] at this; exact this
  have HE3 := Lib.hid HEV3
  clear HEV3
  refine (HLC.out n A B HN.out.x hA hB _ (Later.refl _)).mono ?_
  rintro e w4 ⟨rfl, hb4⟩
  simp only [statV]
  have hWS4 := hWS.later hb4
  have hL4 := hL3.trans hb4
  obtain ⟨y, hy⟩ : ∃ y, runX n L = y := ⟨_, rfl⟩
  obtain ⟨a1, ha1⟩ : ∃ y, runR A L = y := ⟨_, rfl⟩
  obtain ⟨b1, hb1⟩ : ∃ y, runI B L = y := ⟨_, rfl⟩
  rw [hy, ha1, hb1]
  have HY := Lib.hid (And.intro hy (And.intro ha1 hb1))
  clear hy ha1 hb1 hWS
  go_wp2_with fail
  have hWO : StAt (w4.alloc (.cells #[.int .u64 (y 0), .int .u64 (y 1), .int .u64 (y 2), .int .u64 (y 3), .int .u64 (y 4), .int .u64 (y 5), .int .u64 (y 6), .int .u64 (y 7), .int .u64 (y 8), .int .u64 (y 9), .complex .f64 a1 b1] 29)) w4.heap.size y a1 b1 := StAt.of_block (heap_alloc_last _ _)
  have hl45 := (Later.refl w4).alloc (.cells #[.int .u64 (y 0), .int .u64 (y 1), .int .u64 (y 2), .int .u64 (y 3), .int .u64 (y 4), .int .u64 (y 5), .int .u64 (y 6), .int .u64 (y 7), .int .u64 (y 8), .int .u64 (y 9), .complex .f64 a1 b1] 29)
  have hWS5 := hWS4.later hl45
  have hL5 := hL4.trans hl45
  have hl35 := hb4.trans hl45
  obtain ⟨w5, hw5⟩ : ∃ w5, w4.alloc (.cells #[.int .u64 (y 0), .int .u64 (y 1), .int .u64 (y 2), .int .u64 (y 3), .int .u64 (y 4), .int .u64 (y 5), .int .u64 (y 6), .int .u64 (y 7), .int .u64 (y 8), .int .u64 (y 9), .complex .f64 a1 b1] 29) = w5 := ⟨_, rfl⟩
  obtain ⟨O, hO⟩ : ∃ O, w4.heap.size = O := ⟨_, rfl⟩
  rw [hw5, hO] at hWO
  rw [hw5] at hl45 hWS5 hL5 hl35
  try rw [hw5]
  try rw [hO]
  clear hw5 hO hl45 hWS4 hL4 hb4 hL3
  obtain ⟨y2, hy2⟩ : ∃ y, runX n (L.take k) = y := ⟨_, rfl⟩
  obtain ⟨a2, ha2⟩ : ∃ y, runR A (L.take k) = y := ⟨_, rfl⟩
  obtain ⟨b2, hb2⟩ : ∃ y, runI B (L.take k) = y := ⟨_, rfl⟩
  have c1 := fun w' hl => HLK.out n A B HN.out.x hA hB w' hl
  rw [hy2, ha2, hb2] at c1
  obtain ⟨qa, hqa⟩ : ∃ q, sliced p 0 k cap 18 = q := ⟨_, rfl⟩
  rw [hqa] at c1
  have HQA := Lib.hid hqa
  have HC1 := Lib.hid c1
  have HY2 := Lib.hid (And.intro hy2 (And.intro ha2 hb2))
  clear hqa c1 hy2 ha2 hb2
  have hk0 : (0 : Int) ≤ (k : Int) := by omega
  have hkc : k ≤ cap := by omega
  have hkc' : (k : Int) ≤ (cap : Int) := by omega
  have hkN' : (k : Int) ≤ (N : Int) := by omega
  go_cut [14, 15] from 14 to 50 (fun s14 s15 V => ∃ g, s14 = .pointer (some ⟨g, 0, none⟩) ∧ s15 = .bool true ∧ StAt V g y2 a2 b2 ∧ Later w5 V)
  case first =>
    have hSb := hWS5.1
    have k0 : w5.cell? ⟨S, 0, none⟩ = some (.int .u64 (n 0)) := hWS5.2.1 0 (by omega)
    have k1 : w5.cell? ⟨S, 1, none⟩ = some (.int .u64 (n 1)) := hWS5.2.1 1 (by omega)
    have k2 : w5.cell? ⟨S, 2, none⟩ = some (.int .u64 (n 2)) := hWS5.2.1 2 (by omega)
    have k3 : w5.cell? ⟨S, 3, none⟩ = some (.int .u64 (n 3)) := hWS5.2.1 3 (by omega)
    have k4 : w5.cell? ⟨S, 4, none⟩ = some (.int .u64 (n 4)) := hWS5.2.1 4 (by omega)
    have k5 : w5.cell? ⟨S, 5, none⟩ = some (.int .u64 (n 5)) := hWS5.2.1 5 (by omega)
    have k6 : w5.cell? ⟨S, 6, none⟩ = some (.int .u64 (n 6)) := hWS5.2.1 6 (by omega)
    have k7 : w5.cell? ⟨S, 7, none⟩ = some (.int .u64 (n 7)) := hWS5.2.1 7 (by omega)
    have k8 : w5.cell? ⟨S, 8, none⟩ = some (.int .u64 (n 8)) := hWS5.2.1 8 (by omega)
    have k9 : w5.cell? ⟨S, 9, none⟩ = some (.int .u64 (n 9)) := hWS5.2.1 9 (by omega)
    have k10 : w5.cell? ⟨S, 10, none⟩ = some (.complex .f64 A B) := hWS5.2.2
    refine wp_region_noPanic ?_
    refine wp_region_held_drew (S := fun w' => Later w5 w') (by kernel_rfl) (Later.refl w5).drew (fun hHeld => ?_)
    refine wpAnyH_take (i := 0) (v := ?_) rfl (by kernel_rfl) (by kernel_rfl) (by kernel_rfl) (fun _ _ _ h => h) (Or.inl ⟨by rfl, ?_⟩) (by assumption) ?_
    rotate_left
    · (intro w' hSw; (try dsimp only at hSw); have c0 := cell_at hSw k0 hSb; have c1 := cell_at hSw k1 hSb; have c2 := cell_at hSw k2 hSb; have c3 := cell_at hSw k3 hSb; have c4 := cell_at hSw k4 hSb; have c5 := cell_at hSw k5 hSb; have c6 := cell_at hSw k6 hSb; have c7 := cell_at hSw k7 hSb; have c8 := cell_at hSw k8 hSb; have c9 := cell_at hSw k9 hSb; have c10 := cell_at hSw k10 hSb; go_simp)
      all_goals with_reducible rfl
    try simp only [Act.put, List.setIfInBounds_toArray, List.set_cons_zero, List.set_cons_succ, List.getElem_toArray, List.getElem_cons_zero, List.getElem_cons_succ]
    refine wpAnyH_take (i := 1) (v := ?_) rfl (by kernel_rfl) (by kernel_rfl) (by kernel_rfl) (fun _ _ _ h => h) (Or.inl ⟨by rfl, ?_⟩) (by assumption) ?_
    rotate_left
    · (intro w' hSw; (try dsimp only at hSw); go_simp)
      all_goals with_reducible rfl
    try simp only [Act.put, List.setIfInBounds_toArray, List.set_cons_zero, List.set_cons_succ, List.getElem_toArray, List.getElem_cons_zero, List.getElem_cons_succ]
    refine wpAnyH_take (i := 2) (v := ?_) rfl (by kernel_rfl) (by kernel_rfl) (by kernel_rfl) (fun _ _ _ h => h) (Or.inl ⟨by rfl, ?_⟩) (by assumption) ?_
    rotate_left
    · (intro w' hSw; (try dsimp only at hSw); go_simp)
      all_goals with_reducible rfl
    try simp only [Act.put, List.setIfInBounds_toArray, List.set_cons_zero, List.set_cons_succ, List.getElem_toArray, List.getElem_cons_zero, List.getElem_cons_succ]
    refine wpAnyH_take (i := 3) (v := qa) rfl (by kernel_rfl) (by kernel_rfl) (by kernel_rfl) (fun _ _ _ h => h) (Or.inl ⟨by rfl, ?_⟩) (by assumption) ?_
    · (intro w' hSw; (try dsimp only at hSw); go_simp)
      all_goals (rw [← HQA.out]; go_simp)
    try simp only [Act.put, List.setIfInBounds_toArray, List.set_cons_zero, List.set_cons_succ, List.getElem_toArray, List.getElem_cons_zero, List.getElem_cons_succ]
    refine wpAnyH_ready (rs := [4, 8]) (by kernel_rfl) (by simp) ?_
    refine AllReadyH.cons (i := 4) rfl (fun K hK => ?_) ?_
    · try simp only [List.getElem_toArray, List.getElem_cons_zero, List.getElem_cons_succ]
      rw [if_pos (by rfl)]
      go_simp
      refine (HC1.out _ (hl35.trans (Later.refl _).drew)).mono ?_
      rintro e u1 ⟨rfl, hb1⟩
      have HL1 : Later w5 u1 := Later.trans (Later.refl _).drew hb1
      try simp only []
      refine hK.out _ _ HL1 (fun hHeld => ?_)
      clear hK K
      try simp only [Act.put, List.setIfInBounds_toArray, List.set_cons_zero, List.set_cons_succ, List.getElem_toArray, List.getElem_cons_zero, List.getElem_cons_succ]
      refine wpAnyH_take (i := 5) (v := ?_) rfl (by kernel_rfl) (by kernel_rfl) (by kernel_rfl) (fun _ _ _ h => h) (Or.inl ⟨by rfl, ?_⟩) (by assumption) ?_
      rotate_left
      · (intro w' hSw; (try dsimp only at hSw); go_simp)
        all_goals with_reducible rfl
      try simp only [Act.put, List.setIfInBounds_toArray, List.set_cons_zero, List.set_cons_succ, List.getElem_toArray, List.getElem_cons_zero, List.getElem_cons_succ]
      refine wpAnyH_take (i := 6) (v := ?_) rfl (by kernel_rfl) (by kernel_rfl) (by kernel_rfl) (fun _ _ _ h => h) (Or.inl ⟨by rfl, ?_⟩) (by assumption) ?_
      rotate_left
      · (intro w' hSw; (try dsimp only at hSw); go_simp)
        all_goals with_reducible rfl
      try simp only [Act.put, List.setIfInBounds_toArray, List.set_cons_zero, List.set_cons_succ, List.getElem_toArray, List.getElem_cons_zero, List.getElem_cons_succ]
      refine wpAnyH_take (i := 7) (v := ?_) rfl (by kernel_rfl) (by kernel_rfl) (by kernel_rfl) (fun _ _ _ h => h) (Or.inl ⟨by rfl, ?_⟩) (by assumption) ?_
      rotate_left
      · (intro w' hSw; (try dsimp only at hSw); go_simp)
        all_goals with_reducible rfl
      try simp only [Act.put, List.setIfInBounds_toArray, List.set_cons_zero, List.set_cons_succ, List.getElem_toArray, List.getElem_cons_zero, List.getElem_cons_succ]
      refine wpAnyH_ready (rs := [8]) (by kernel_rfl) (by simp) ?_
      refine AllReadyH.cons (i := 8) rfl (fun K hK => ?_) ?_
      · try simp only [List.getElem_toArray, List.getElem_cons_zero, List.getElem_cons_succ]
        go_simp
        refine hK.out _ _ (HL1.alloc _) (fun hHeld => ?_)
        have HB9 : (u1.alloc (.cells #[.int .u64 0, .int .u64 0, .int .u64 0, .int .u64 0, .int .u64 0, .int .u64 0, .int .u64 0, .int .u64 0, .int .u64 0, .int .u64 0, .complex .f64 0 0] 29)).heap[u1.heap.size]? = some (.cells #[.int .u64 0, .int .u64 0, .int .u64 0, .int .u64 0, .int .u64 0, .int .u64 0, .int .u64 0, .int .u64 0, .int .u64 0, .int .u64 0, .complex .f64 0 0] 29 (0, 0)) := heap_alloc_last _ _
        have hB9 : u1.heap.size < (u1.alloc (.cells #[.int .u64 0, .int .u64 0, .int .u64 0, .int .u64 0, .int .u64 0, .int .u64 0, .int .u64 0, .int .u64 0, .int .u64 0, .int .u64 0, .complex .f64 0 0] 29)).heap.size := by simp
        have hl8 := HL1.alloc (.cells #[.int .u64 0, .int .u64 0, .int .u64 0, .int .u64 0, .int .u64 0, .int .u64 0, .int .u64 0, .int .u64 0, .int .u64 0, .int .u64 0, .complex .f64 0 0] 29)
        have hge : w5.heap.size ≤ u1.heap.size := HL1.size
        clear hK K
        try simp only [Act.put, List.setIfInBounds_toArray, List.set_cons_zero, List.set_cons_succ, List.getElem_toArray, List.getElem_cons_zero, List.getElem_cons_succ]
        refine wpAnyH_ready (rs := [9]) (by kernel_rfl) (by simp) ?_
        refine AllReadyH.cons (i := 9) rfl (fun K hK => ?_) ?_
        · try simp only [List.getElem_toArray, List.getElem_cons_zero, List.getElem_cons_succ]
          have hl9 := below_setRow hl8 hge #[.int .u64 (y2 0), .int .u64 (y2 1), .int .u64 (y2 2), .int .u64 (y2 3), .int .u64 (y2 4), .int .u64 (y2 5), .int .u64 (y2 6), .int .u64 (y2 7), .int .u64 (y2 8), .int .u64 (y2 9), .complex .f64 a2 b2]
          have hX := StAt.of_row (x := y2) (a := a2) (b := b2) hB9 HB9
          refine wp_store_row 29 (.tmp 14) (.tmp 48) rfl _ #[.int .u64 (y2 0), .int .u64 (y2 1), .int .u64 (y2 2), .int .u64 (y2 3), .int .u64 (y2 4), .int .u64 (y2 5), .int .u64 (y2 6), .int .u64 (y2 7), .int .u64 (y2 8), .int .u64 (y2 9), .complex .f64 a2 b2] rfl rfl 29 #[.int .u64 0, .int .u64 0, .int .u64 0, .int .u64 0, .int .u64 0, .int .u64 0, .int .u64 0, .int .u64 0, .int .u64 0, .int .u64 0, .complex .f64 0 0] HB9 (by kernel_rfl) rfl (by kernel_rfl) ?_
          refine hK.out _ _ hl9 (fun hHeld => ?_)
          clear hK K
          try simp only [Act.put, List.setIfInBounds_toArray, List.set_cons_zero, List.set_cons_succ, List.getElem_toArray, List.getElem_cons_zero, List.getElem_cons_succ]
          refine wpAnyH_take (i := 10) (v := ?_) rfl (by kernel_rfl) (by kernel_rfl) (by kernel_rfl) (fun _ _ _ h => h) (Or.inl ⟨by rfl, ?_⟩) (by assumption) ?_
          rotate_left
          · (intro w' hSw; (try dsimp only at hSw); go_simp)
            all_goals with_reducible rfl
          try simp only [Act.put, List.setIfInBounds_toArray, List.set_cons_zero, List.set_cons_succ, List.getElem_toArray, List.getElem_cons_zero, List.getElem_cons_succ]
          refine wpAnyH_done (by kernel_rfl) ?_ _
          refine NoPanic.normal ?_
          go_wp2_with fail
          go_meet
          exact ⟨_, rfl, rfl, hX, hl9⟩
        exact AllReadyH.nil
      exact AllReadyH.nil
    refine AllReadyH.cons (i := 8) rfl (fun K hK => ?_) ?_
    · try simp only [List.getElem_toArray, List.getElem_cons_zero, List.getElem_cons_succ]
      go_simp
      refine hK.out _ _ ((Later.refl w5).drew.alloc _) (fun hHeld => ?_)
      clear hK K
      try simp only [Act.put, List.setIfInBounds_toArray, List.set_cons_zero, List.set_cons_succ, List.getElem_toArray, List.getElem_cons_zero, List.getElem_cons_succ]
      refine wpAnyH_ready (rs := [4]) (by kernel_rfl) (by simp) ?_
      refine AllReadyH.cons (i := 4) rfl (fun K hK => ?_) ?_
      · try simp only [List.getElem_toArray, List.getElem_cons_zero, List.getElem_cons_succ]
        rw [if_pos (by rfl)]
        go_simp
        refine (HC1.out _ (hl35.trans ((Later.refl _).drew.alloc _))).mono ?_
        rintro e u1 ⟨rfl, hb1⟩
        have HL1 : Later w5 u1 := Later.trans ((Later.refl _).drew.alloc _) hb1
        try simp only []
        refine hK.out _ _ HL1 (fun hHeld => ?_)
        clear hK K
        try simp only [Act.put, List.setIfInBounds_toArray, List.set_cons_zero, List.set_cons_succ, List.getElem_toArray, List.getElem_cons_zero, List.getElem_cons_succ]
        have HB9 : u1.heap[w5.heap.size]? = some (.cells #[.int .u64 0, .int .u64 0, .int .u64 0, .int .u64 0, .int .u64 0, .int .u64 0, .int .u64 0, .int .u64 0, .int .u64 0, .int .u64 0, .complex .f64 0 0] 29 (0, 0)) := (Below.block hb1 _ (by simp)).trans (heap_alloc_last w5.drew _)
        have hB9 : w5.heap.size < u1.heap.size := Nat.lt_of_lt_of_le (by simp) hb1.size
        have hl8 := HL1
        have hge : w5.heap.size ≤ w5.heap.size := Nat.le_refl _
        refine wpAnyH_take (i := 5) (v := ?_) rfl (by kernel_rfl) (by kernel_rfl) (by kernel_rfl) (fun _ _ _ h => h) (Or.inl ⟨by rfl, ?_⟩) (by assumption) ?_
        rotate_left
        · (intro w' hSw; (try dsimp only at hSw); go_simp)
          all_goals with_reducible rfl
        try simp only [Act.put, List.setIfInBounds_toArray, List.set_cons_zero, List.set_cons_succ, List.getElem_toArray, List.getElem_cons_zero, List.getElem_cons_succ]
        refine wpAnyH_take (i := 6) (v := ?_) rfl (by kernel_rfl) (by kernel_rfl) (by kernel_rfl) (fun _ _ _ h => h) (Or.inl ⟨by rfl, ?_⟩) (by assumption) ?_
        rotate_left
        · (intro w' hSw; (try dsimp only at hSw); go_simp)
          all_goals with_reducible rfl
        try simp only [Act.put, List.setIfInBounds_toArray, List.set_cons_zero, List.set_cons_succ, List.getElem_toArray, List.getElem_cons_zero, List.getElem_cons_succ]
        refine wpAnyH_take (i := 7) (v := ?_) rfl (by kernel_rfl) (by kernel_rfl) (by kernel_rfl) (fun _ _ _ h => h) (Or.inl ⟨by rfl, ?_⟩) (by assumption) ?_
        rotate_left
        · (intro w' hSw; (try dsimp only at hSw); go_simp)
          all_goals with_reducible rfl
        try simp only [Act.put, List.setIfInBounds_toArray, List.set_cons_zero, List.set_cons_succ, List.getElem_toArray, List.getElem_cons_zero, List.getElem_cons_succ]
        refine wpAnyH_ready (rs := [9]) (by kernel_rfl) (by simp) ?_
        refine AllReadyH.cons (i := 9) rfl (fun K hK => ?_) ?_
        · try simp only [List.getElem_toArray, List.getElem_cons_zero, List.getElem_cons_succ]
          have hl9 := below_setRow hl8 hge #[.int .u64 (y2 0), .int .u64 (y2 1), .int .u64 (y2 2), .int .u64 (y2 3), .int .u64 (y2 4), .int .u64 (y2 5), .int .u64 (y2 6), .int .u64 (y2 7), .int .u64 (y2 8), .int .u64 (y2 9), .complex .f64 a2 b2]
          have hX := StAt.of_row (x := y2) (a := a2) (b := b2) hB9 HB9
          refine wp_store_row 29 (.tmp 14) (.tmp 48) rfl _ #[.int .u64 (y2 0), .int .u64 (y2 1), .int .u64 (y2 2), .int .u64 (y2 3), .int .u64 (y2 4), .int .u64 (y2 5), .int .u64 (y2 6), .int .u64 (y2 7), .int .u64 (y2 8), .int .u64 (y2 9), .complex .f64 a2 b2] rfl rfl 29 #[.int .u64 0, .int .u64 0, .int .u64 0, .int .u64 0, .int .u64 0, .int .u64 0, .int .u64 0, .int .u64 0, .int .u64 0, .int .u64 0, .complex .f64 0 0] HB9 (by kernel_rfl) rfl (by kernel_rfl) ?_
          refine hK.out _ _ hl9 (fun hHeld => ?_)
          clear hK K
          try simp only [Act.put, List.setIfInBounds_toArray, List.set_cons_zero, List.set_cons_succ, List.getElem_toArray, List.getElem_cons_zero, List.getElem_cons_succ]
          refine wpAnyH_take (i := 10) (v := ?_) rfl (by kernel_rfl) (by kernel_rfl) (by kernel_rfl) (fun _ _ _ h => h) (Or.inl ⟨by rfl, ?_⟩) (by assumption) ?_
          rotate_left
          · (intro w' hSw; (try dsimp only at hSw); go_simp)
            all_goals with_reducible rfl
          try simp only [Act.put, List.setIfInBounds_toArray, List.set_cons_zero, List.set_cons_succ, List.getElem_toArray, List.getElem_cons_zero, List.getElem_cons_succ]
          refine wpAnyH_done (by kernel_rfl) ?_ _
          refine NoPanic.normal ?_
          go_wp2_with fail
          go_meet
          exact ⟨_, rfl, rfl, hX, hl9⟩
        exact AllReadyH.nil
      exact AllReadyH.nil
    exact AllReadyH.nil
  case rest =>
    obtain ⟨G, rfl, rfl, hG, hl6⟩ := hcut
    rename World => w6
    have hsp := run_split n A B L k
    rw [HY2.out.1, HY2.out.2.1, HY2.out.2.2, HY.out.1, HY.out.2.1, HY.out.2.2] at hsp
    have hy2ok : okX y2 := by rw [← HY2.out.1]; exact runX_ok _ _ HN.out.x
    have ha2 : a2 ≤ W2 := by rw [← HY2.out.2.1]; exact runR_le _ _ hA
    have hb2 : b2 ≤ W2 := by rw [← HY2.out.2.2]; exact runI_le _ _ hB
    have ha1 : a1 ≤ W2 := by rw [← HY.out.2.1]; exact runR_le _ _ hA
    have hb1 : b1 ≤ W2 := by rw [← HY.out.2.2]; exact runI_le _ _ hB
    have c2 := fun w' hl => HLD.out y2 a2 b2 hy2ok ha2 hb2 w' hl
    rw [hsp.1, hsp.2.1, hsp.2.2] at c2
    obtain ⟨qb, hqb⟩ : ∃ q, sliced p k N cap 18 = q := ⟨_, rfl⟩
    rw [hqb] at c2
    have HQB := Lib.hid hqb
    have HC2 := Lib.hid c2
    have hWS6 := hWS5.later hl6
    have hWO6 := hWO.later hl6
    have hL6 := hL5.trans hl6
    have hl36 := hl35.trans hl6
    clear c2 hqb hsp hWS5 hWO hL5 hl35 hl6 hy2ok ha2 hb2
    go_wp2_with fail
    go_cut [16, 17] from 16 to 58 (fun s16 s17 V => ∃ g, s16 = .pointer (some ⟨g, 0, none⟩) ∧ s17 = .bool true ∧ StAt V g y a1 b1 ∧ Later w6 V)
    case first =>
      have hSb := hG.1
      have k0 : w6.cell? ⟨G, 0, none⟩ = some (.int .u64 (y2 0)) := hG.2.1 0 (by omega)
      have k1 : w6.cell? ⟨G, 1, none⟩ = some (.int .u64 (y2 1)) := hG.2.1 1 (by omega)
      have k2 : w6.cell? ⟨G, 2, none⟩ = some (.int .u64 (y2 2)) := hG.2.1 2 (by omega)
      have k3 : w6.cell? ⟨G, 3, none⟩ = some (.int .u64 (y2 3)) := hG.2.1 3 (by omega)
      have k4 : w6.cell? ⟨G, 4, none⟩ = some (.int .u64 (y2 4)) := hG.2.1 4 (by omega)
      have k5 : w6.cell? ⟨G, 5, none⟩ = some (.int .u64 (y2 5)) := hG.2.1 5 (by omega)
      have k6 : w6.cell? ⟨G, 6, none⟩ = some (.int .u64 (y2 6)) := hG.2.1 6 (by omega)
      have k7 : w6.cell? ⟨G, 7, none⟩ = some (.int .u64 (y2 7)) := hG.2.1 7 (by omega)
      have k8 : w6.cell? ⟨G, 8, none⟩ = some (.int .u64 (y2 8)) := hG.2.1 8 (by omega)
      have k9 : w6.cell? ⟨G, 9, none⟩ = some (.int .u64 (y2 9)) := hG.2.1 9 (by omega)
      have k10 : w6.cell? ⟨G, 10, none⟩ = some (.complex .f64 a2 b2) := hG.2.2
      refine wp_region_noPanic ?_
      refine wp_region_held_drew (S := fun w' => Later w6 w') (by kernel_rfl) (Later.refl w6).drew (fun hHeld => ?_)
      refine wpAnyH_take (i := 0) (v := ?_) rfl (by kernel_rfl) (by kernel_rfl) (by kernel_rfl) (fun _ _ _ h => h) (Or.inl ⟨by rfl, ?_⟩) (by assumption) ?_
      rotate_left
      · (intro w' hSw; (try dsimp only at hSw); have c0 := cell_at hSw k0 hSb; have c1 := cell_at hSw k1 hSb; have c2 := cell_at hSw k2 hSb; have c3 := cell_at hSw k3 hSb; have c4 := cell_at hSw k4 hSb; have c5 := cell_at hSw k5 hSb; have c6 := cell_at hSw k6 hSb; have c7 := cell_at hSw k7 hSb; have c8 := cell_at hSw k8 hSb; have c9 := cell_at hSw k9 hSb; have c10 := cell_at hSw k10 hSb; go_simp)
        all_goals with_reducible rfl
      try simp only [Act.put, List.setIfInBounds_toArray, List.set_cons_zero, List.set_cons_succ, List.getElem_toArray, List.getElem_cons_zero, List.getElem_cons_succ]
      refine wpAnyH_take (i := 1) (v := ?_) rfl (by kernel_rfl) (by kernel_rfl) (by kernel_rfl) (fun _ _ _ h => h) (Or.inl ⟨by rfl, ?_⟩) (by assumption) ?_
      rotate_left
      · (intro w' hSw; (try dsimp only at hSw); go_simp)
        all_goals with_reducible rfl
      try simp only [Act.put, List.setIfInBounds_toArray, List.set_cons_zero, List.set_cons_succ, List.getElem_toArray, List.getElem_cons_zero, List.getElem_cons_succ]
      refine wpAnyH_take (i := 2) (v := ?_) rfl (by kernel_rfl) (by kernel_rfl) (by kernel_rfl) (fun _ _ _ h => h) (Or.inl ⟨by rfl, ?_⟩) (by assumption) ?_
      rotate_left
      · (intro w' hSw; (try dsimp only at hSw); go_simp)
        all_goals with_reducible rfl
      try simp only [Act.put, List.setIfInBounds_toArray, List.set_cons_zero, List.set_cons_succ, List.getElem_toArray, List.getElem_cons_zero, List.getElem_cons_succ]
      refine wpAnyH_take (i := 3) (v := qb) rfl (by kernel_rfl) (by kernel_rfl) (by kernel_rfl) (fun _ _ _ h => h) (Or.inl ⟨by rfl, ?_⟩) (by assumption) ?_
      · (intro w' hSw; (try dsimp only at hSw); go_simp)
        all_goals (rw [← HQB.out]; go_simp)
      try simp only [Act.put, List.setIfInBounds_toArray, List.set_cons_zero, List.set_cons_succ, List.getElem_toArray, List.getElem_cons_zero, List.getElem_cons_succ]
      refine wpAnyH_ready (rs := [4, 8]) (by kernel_rfl) (by simp) ?_
      refine AllReadyH.cons (i := 4) rfl (fun K hK => ?_) ?_
      · try simp only [List.getElem_toArray, List.getElem_cons_zero, List.getElem_cons_succ]
        rw [if_pos (by rfl)]
        go_simp
        refine (HC2.out _ (hl36.trans (Later.refl _).drew)).mono ?_
        rintro e u1 ⟨rfl, hb1⟩
        have HL1 : Later w6 u1 := Later.trans (Later.refl _).drew hb1
        try simp only []
        refine hK.out _ _ HL1 (fun hHeld => ?_)
        clear hK K
        try simp only [Act.put, List.setIfInBounds_toArray, List.set_cons_zero, List.set_cons_succ, List.getElem_toArray, List.getElem_cons_zero, List.getElem_cons_succ]
        refine wpAnyH_take (i := 5) (v := ?_) rfl (by kernel_rfl) (by kernel_rfl) (by kernel_rfl) (fun _ _ _ h => h) (Or.inl ⟨by rfl, ?_⟩) (by assumption) ?_
        rotate_left
        · (intro w' hSw; (try dsimp only at hSw); go_simp)
          all_goals with_reducible rfl
        try simp only [Act.put, List.setIfInBounds_toArray, List.set_cons_zero, List.set_cons_succ, List.getElem_toArray, List.getElem_cons_zero, List.getElem_cons_succ]
        refine wpAnyH_take (i := 6) (v := ?_) rfl (by kernel_rfl) (by kernel_rfl) (by kernel_rfl) (fun _ _ _ h => h) (Or.inl ⟨by rfl, ?_⟩) (by assumption) ?_
        rotate_left
        · (intro w' hSw; (try dsimp only at hSw); go_simp)
          all_goals with_reducible rfl
        try simp only [Act.put, List.setIfInBounds_toArray, List.set_cons_zero, List.set_cons_succ, List.getElem_toArray, List.getElem_cons_zero, List.getElem_cons_succ]
        refine wpAnyH_take (i := 7) (v := ?_) rfl (by kernel_rfl) (by kernel_rfl) (by kernel_rfl) (fun _ _ _ h => h) (Or.inl ⟨by rfl, ?_⟩) (by assumption) ?_
        rotate_left
        · (intro w' hSw; (try dsimp only at hSw); go_simp)
          all_goals with_reducible rfl
        try simp only [Act.put, List.setIfInBounds_toArray, List.set_cons_zero, List.set_cons_succ, List.getElem_toArray, List.getElem_cons_zero, List.getElem_cons_succ]
        refine wpAnyH_ready (rs := [8]) (by kernel_rfl) (by simp) ?_
        refine AllReadyH.cons (i := 8) rfl (fun K hK => ?_) ?_
        · try simp only [List.getElem_toArray, List.getElem_cons_zero, List.getElem_cons_succ]
          go_simp
          refine hK.out _ _ (HL1.alloc _) (fun hHeld => ?_)
          have HB9 : (u1.alloc (.cells #[.int .u64 0, .int .u64 0, .int .u64 0, .int .u64 0, .int .u64 0, .int .u64 0, .int .u64 0, .int .u64 0, .int .u64 0, .int .u64 0, .complex .f64 0 0] 29)).heap[u1.heap.size]? = some (.cells #[.int .u64 0, .int .u64 0, .int .u64 0, .int .u64 0, .int .u64 0, .int .u64 0, .int .u64 0, .int .u64 0, .int .u64 0, .int .u64 0, .complex .f64 0 0] 29 (0, 0)) := heap_alloc_last _ _
          have hB9 : u1.heap.size < (u1.alloc (.cells #[.int .u64 0, .int .u64 0, .int .u64 0, .int .u64 0, .int .u64 0, .int .u64 0, .int .u64 0, .int .u64 0, .int .u64 0, .int .u64 0, .complex .f64 0 0] 29)).heap.size := by simp
          have hl8 := HL1.alloc (.cells #[.int .u64 0, .int .u64 0, .int .u64 0, .int .u64 0, .int .u64 0, .int .u64 0, .int .u64 0, .int .u64 0, .int .u64 0, .int .u64 0, .complex .f64 0 0] 29)
          have hge : w6.heap.size ≤ u1.heap.size := HL1.size
          clear hK K
          try simp only [Act.put, List.setIfInBounds_toArray, List.set_cons_zero, List.set_cons_succ, List.getElem_toArray, List.getElem_cons_zero, List.getElem_cons_succ]
          refine wpAnyH_ready (rs := [9]) (by kernel_rfl) (by simp) ?_
          refine AllReadyH.cons (i := 9) rfl (fun K hK => ?_) ?_
          · try simp only [List.getElem_toArray, List.getElem_cons_zero, List.getElem_cons_succ]
            have hl9 := below_setRow hl8 hge #[.int .u64 (y 0), .int .u64 (y 1), .int .u64 (y 2), .int .u64 (y 3), .int .u64 (y 4), .int .u64 (y 5), .int .u64 (y 6), .int .u64 (y 7), .int .u64 (y 8), .int .u64 (y 9), .complex .f64 a1 b1]
            have hX := StAt.of_row (x := y) (a := a1) (b := b1) hB9 HB9
            refine wp_store_row 29 (.tmp 16) (.tmp 56) rfl _ #[.int .u64 (y 0), .int .u64 (y 1), .int .u64 (y 2), .int .u64 (y 3), .int .u64 (y 4), .int .u64 (y 5), .int .u64 (y 6), .int .u64 (y 7), .int .u64 (y 8), .int .u64 (y 9), .complex .f64 a1 b1] rfl rfl 29 #[.int .u64 0, .int .u64 0, .int .u64 0, .int .u64 0, .int .u64 0, .int .u64 0, .int .u64 0, .int .u64 0, .int .u64 0, .int .u64 0, .complex .f64 0 0] HB9 (by kernel_rfl) rfl (by kernel_rfl) ?_
            refine hK.out _ _ hl9 (fun hHeld => ?_)
            clear hK K
            try simp only [Act.put, List.setIfInBounds_toArray, List.set_cons_zero, List.set_cons_succ, List.getElem_toArray, List.getElem_cons_zero, List.getElem_cons_succ]
            refine wpAnyH_take (i := 10) (v := ?_) rfl (by kernel_rfl) (by kernel_rfl) (by kernel_rfl) (fun _ _ _ h => h) (Or.inl ⟨by rfl, ?_⟩) (by assumption) ?_
            rotate_left
            · (intro w' hSw; (try dsimp only at hSw); go_simp)
              all_goals with_reducible rfl
            try simp only [Act.put, List.setIfInBounds_toArray, List.set_cons_zero, List.set_cons_succ, List.getElem_toArray, List.getElem_cons_zero, List.getElem_cons_succ]
            refine wpAnyH_done (by kernel_rfl) ?_ _
            refine NoPanic.normal ?_
            go_wp2_with fail
            go_meet
            exact ⟨_, rfl, rfl, hX, hl9⟩
          exact AllReadyH.nil
        exact AllReadyH.nil
      refine AllReadyH.cons (i := 8) rfl (fun K hK => ?_) ?_
      · try simp only [List.getElem_toArray, List.getElem_cons_zero, List.getElem_cons_succ]
        go_simp
        refine hK.out _ _ ((Later.refl w6).drew.alloc _) (fun hHeld => ?_)
        clear hK K
        try simp only [Act.put, List.setIfInBounds_toArray, List.set_cons_zero, List.set_cons_succ, List.getElem_toArray, List.getElem_cons_zero, List.getElem_cons_succ]
        refine wpAnyH_ready (rs := [4]) (by kernel_rfl) (by simp) ?_
        refine AllReadyH.cons (i := 4) rfl (fun K hK => ?_) ?_
        · try simp only [List.getElem_toArray, List.getElem_cons_zero, List.getElem_cons_succ]
          rw [if_pos (by rfl)]
          go_simp
          refine (HC2.out _ (hl36.trans ((Later.refl _).drew.alloc _))).mono ?_
          rintro e u1 ⟨rfl, hb1⟩
          have HL1 : Later w6 u1 := Later.trans ((Later.refl _).drew.alloc _) hb1
          try simp only []
          refine hK.out _ _ HL1 (fun hHeld => ?_)
          clear hK K
          try simp only [Act.put, List.setIfInBounds_toArray, List.set_cons_zero, List.set_cons_succ, List.getElem_toArray, List.getElem_cons_zero, List.getElem_cons_succ]
          have HB9 : u1.heap[w6.heap.size]? = some (.cells #[.int .u64 0, .int .u64 0, .int .u64 0, .int .u64 0, .int .u64 0, .int .u64 0, .int .u64 0, .int .u64 0, .int .u64 0, .int .u64 0, .complex .f64 0 0] 29 (0, 0)) := (Below.block hb1 _ (by simp)).trans (heap_alloc_last w6.drew _)
          have hB9 : w6.heap.size < u1.heap.size := Nat.lt_of_lt_of_le (by simp) hb1.size
          have hl8 := HL1
          have hge : w6.heap.size ≤ w6.heap.size := Nat.le_refl _
          refine wpAnyH_take (i := 5) (v := ?_) rfl (by kernel_rfl) (by kernel_rfl) (by kernel_rfl) (fun _ _ _ h => h) (Or.inl ⟨by rfl, ?_⟩) (by assumption) ?_
          rotate_left
          · (intro w' hSw; (try dsimp only at hSw); go_simp)
            all_goals with_reducible rfl
          try simp only [Act.put, List.setIfInBounds_toArray, List.set_cons_zero, List.set_cons_succ, List.getElem_toArray, List.getElem_cons_zero, List.getElem_cons_succ]
          refine wpAnyH_take (i := 6) (v := ?_) rfl (by kernel_rfl) (by kernel_rfl) (by kernel_rfl) (fun _ _ _ h => h) (Or.inl ⟨by rfl, ?_⟩) (by assumption) ?_
          rotate_left
          · (intro w' hSw; (try dsimp only at hSw); go_simp)
            all_goals with_reducible rfl
          try simp only [Act.put, List.setIfInBounds_toArray, List.set_cons_zero, List.set_cons_succ, List.getElem_toArray, List.getElem_cons_zero, List.getElem_cons_succ]
          refine wpAnyH_take (i := 7) (v := ?_) rfl (by kernel_rfl) (by kernel_rfl) (by kernel_rfl) (fun _ _ _ h => h) (Or.inl ⟨by rfl, ?_⟩) (by assumption) ?_
          rotate_left
          · (intro w' hSw; (try dsimp only at hSw); go_simp)
            all_goals with_reducible rfl
          try simp only [Act.put, List.setIfInBounds_toArray, List.set_cons_zero, List.set_cons_succ, List.getElem_toArray, List.getElem_cons_zero, List.getElem_cons_succ]
          refine wpAnyH_ready (rs := [9]) (by kernel_rfl) (by simp) ?_
          refine AllReadyH.cons (i := 9) rfl (fun K hK => ?_) ?_
          · try simp only [List.getElem_toArray, List.getElem_cons_zero, List.getElem_cons_succ]
            have hl9 := below_setRow hl8 hge #[.int .u64 (y 0), .int .u64 (y 1), .int .u64 (y 2), .int .u64 (y 3), .int .u64 (y 4), .int .u64 (y 5), .int .u64 (y 6), .int .u64 (y 7), .int .u64 (y 8), .int .u64 (y 9), .complex .f64 a1 b1]
            have hX := StAt.of_row (x := y) (a := a1) (b := b1) hB9 HB9
            refine wp_store_row 29 (.tmp 16) (.tmp 56) rfl _ #[.int .u64 (y 0), .int .u64 (y 1), .int .u64 (y 2), .int .u64 (y 3), .int .u64 (y 4), .int .u64 (y 5), .int .u64 (y 6), .int .u64 (y 7), .int .u64 (y 8), .int .u64 (y 9), .complex .f64 a1 b1] rfl rfl 29 #[.int .u64 0, .int .u64 0, .int .u64 0, .int .u64 0, .int .u64 0, .int .u64 0, .int .u64 0, .int .u64 0, .int .u64 0, .int .u64 0, .complex .f64 0 0] HB9 (by kernel_rfl) rfl (by kernel_rfl) ?_
            refine hK.out _ _ hl9 (fun hHeld => ?_)
            clear hK K
            try simp only [Act.put, List.setIfInBounds_toArray, List.set_cons_zero, List.set_cons_succ, List.getElem_toArray, List.getElem_cons_zero, List.getElem_cons_succ]
            refine wpAnyH_take (i := 10) (v := ?_) rfl (by kernel_rfl) (by kernel_rfl) (by kernel_rfl) (fun _ _ _ h => h) (Or.inl ⟨by rfl, ?_⟩) (by assumption) ?_
            rotate_left
            · (intro w' hSw; (try dsimp only at hSw); go_simp)
              all_goals with_reducible rfl
            try simp only [Act.put, List.setIfInBounds_toArray, List.set_cons_zero, List.set_cons_succ, List.getElem_toArray, List.getElem_cons_zero, List.getElem_cons_succ]
            refine wpAnyH_done (by kernel_rfl) ?_ _
            refine NoPanic.normal ?_
            go_wp2_with fail
            go_meet
            exact ⟨_, rfl, rfl, hX, hl9⟩
          exact AllReadyH.nil
        exact AllReadyH.nil
      exact AllReadyH.nil
    case rest =>
      obtain ⟨H, rfl, rfl, hH, hl7⟩ := hcut
      rename World => w7
      have hWS7 := hWS6.later hl7
      have hWO7 := hWO6.later hl7
      have hL7 := hL6.trans hl7
      have hl37 := hl36.trans hl7
      clear hWS6 hWO6 hL6 hl36 hl7 hG
      have k0 : w7.cell? ⟨O, 0, none⟩ = some (.int .u64 (y 0)) := hWO7.2.1 0 (by omega)
      have k1 : w7.cell? ⟨O, 1, none⟩ = some (.int .u64 (y 1)) := hWO7.2.1 1 (by omega)
      have k2 : w7.cell? ⟨O, 2, none⟩ = some (.int .u64 (y 2)) := hWO7.2.1 2 (by omega)
      have k3 : w7.cell? ⟨O, 3, none⟩ = some (.int .u64 (y 3)) := hWO7.2.1 3 (by omega)
      have k4 : w7.cell? ⟨O, 4, none⟩ = some (.int .u64 (y 4)) := hWO7.2.1 4 (by omega)
      have k5 : w7.cell? ⟨O, 5, none⟩ = some (.int .u64 (y 5)) := hWO7.2.1 5 (by omega)
      have k6 : w7.cell? ⟨O, 6, none⟩ = some (.int .u64 (y 6)) := hWO7.2.1 6 (by omega)
      have k7 : w7.cell? ⟨O, 7, none⟩ = some (.int .u64 (y 7)) := hWO7.2.1 7 (by omega)
      have k8 : w7.cell? ⟨O, 8, none⟩ = some (.int .u64 (y 8)) := hWO7.2.1 8 (by omega)
      have k9 : w7.cell? ⟨O, 9, none⟩ = some (.int .u64 (y 9)) := hWO7.2.1 9 (by omega)
      have k10 : w7.cell? ⟨O, 10, none⟩ = some (.complex .f64 a1 b1) := hWO7.2.2
      have j0 : w7.cell? ⟨H, 0, none⟩ = some (.int .u64 (y 0)) := hH.2.1 0 (by omega)
      have j1 : w7.cell? ⟨H, 1, none⟩ = some (.int .u64 (y 1)) := hH.2.1 1 (by omega)
      have j2 : w7.cell? ⟨H, 2, none⟩ = some (.int .u64 (y 2)) := hH.2.1 2 (by omega)
      have j3 : w7.cell? ⟨H, 3, none⟩ = some (.int .u64 (y 3)) := hH.2.1 3 (by omega)
      have j4 : w7.cell? ⟨H, 4, none⟩ = some (.int .u64 (y 4)) := hH.2.1 4 (by omega)
      have j5 : w7.cell? ⟨H, 5, none⟩ = some (.int .u64 (y 5)) := hH.2.1 5 (by omega)
      have j6 : w7.cell? ⟨H, 6, none⟩ = some (.int .u64 (y 6)) := hH.2.1 6 (by omega)
      have j7 : w7.cell? ⟨H, 7, none⟩ = some (.int .u64 (y 7)) := hH.2.1 7 (by omega)
      have j8 : w7.cell? ⟨H, 8, none⟩ = some (.int .u64 (y 8)) := hH.2.1 8 (by omega)
      have j9 : w7.cell? ⟨H, 9, none⟩ = some (.int .u64 (y 9)) := hH.2.1 9 (by omega)
      have j10 : w7.cell? ⟨H, 10, none⟩ = some (.complex .f64 a1 b1) := hH.2.2
      have hne := neq_stat y a1 b1 ha1 hb1
      have ho1 := order_self a1 ha1
      have ho2 := order_self b1 hb1
      go_wp2_with fail
      refine (statIs_is _ _ _ _ _ _ _ _ _ _ a1 b1 ha1 hb1 _).mono ?_
      rintro e w8 ⟨rfl, hb8⟩
      have hWS8 := hWS7.later hb8
      have hWO8 := hWO7.later hb8
      have hL8 := hL7.trans hb8
      have hl38 := hl37.trans hb8
      clear hWS7 hWO7 hL7 hl37 hb8 hH hne k0 j0 k1 j1 k2 j2 k3 j3 k4 j4 k5 j5 k6 j6 k7 j7 k8 j8 k9 j9 k10 j10
      have k10 : w8.cell? ⟨S, 10, none⟩ = some (.complex .f64 A B) := hWS8.2.2
      go_wp2_with fail
      clear k10
      go_loopw [18, 19, 20, 21, 22, 82] (fun v18 v19 v20 v21 v22 v82 wr => ∃ j, j ≤ N ∧ v18 = .int .u64 ((tot fC (L.take j) : Nat) : Int) ∧ v19 = .int .u64 ((tot fH (L.take j) : Nat) : Int) ∧ v20 = .int .u64 ((tot fR (L.take j) : Nat) : Int) ∧ v21 = .int .u64 ((tot fP (L.take j) : Nat) : Int) ∧ v22 = .complex .f64 (runR A (L.take j)) (runI B (L.take j)) ∧ v82 = .int .i64 j ∧ Later w8 wr) (fun _ _ _ _ _ v82 _ => N - (RowKit.intOf v82).toNat)
      case atStart => exact ⟨0, by omega, rfl, rfl, rfl, rfl, rfl, rfl, Later.refl _⟩
      case round =>
        obtain ⟨j, hj, rfl, rfl, rfl, rfl, rfl, rfl, hlr⟩ := hrel
        rename World => wk
        have b1' : tot fC (L.take j) ≤ 60 * 15 := by
          have := tot_le fC 1 (L.take j) (fun e _ => by unfold fC; split <;> omega)
          rw [List.length_take] at this; omega
        have b2' : tot fH (L.take j) ≤ 60 * 15 := by
          have := tot_le fH 1 (L.take j) (fun e _ => by unfold fH; split <;> (try split) <;> omega)
          rw [List.length_take] at this; omega
        have b3' : tot fR (L.take j) ≤ 60 * 15 := by
          have := tot_le fR 1 (L.take j) (fun e _ => by unfold fR; split <;> (try split) <;> omega)
          rw [List.length_take] at this; omega
        have b4' : tot fP (L.take j) ≤ 60 * 15 := by
          have := tot_le fP 15 (L.take j) (fun e he => by have := (HM.out e (List.mem_of_mem_take he)).2.2.1; unfold fP; split <;> omega)
          rw [List.length_take] at this
          have : min j L.length ≤ 60 := by omega
          omega
        obtain ⟨q1, hq1⟩ : ∃ q, tot fC (L.take j) = q := ⟨_, rfl⟩
        obtain ⟨q2, hq2⟩ : ∃ q, tot fH (L.take j) = q := ⟨_, rfl⟩
        obtain ⟨q3, hq3⟩ : ∃ q, tot fR (L.take j) = q := ⟨_, rfl⟩
        obtain ⟨q4, hq4⟩ : ∃ q, tot fP (L.take j) = q := ⟨_, rfl⟩
        obtain ⟨za, hza⟩ : ∃ q, runR A (L.take j) = q := ⟨_, rfl⟩
        obtain ⟨zb, hzb⟩ : ∃ q, runI B (L.take j) = q := ⟨_, rfl⟩
        have hzaw : za ≤ W2 := by rw [← hza]; exact runR_le _ _ hA
        have hzbw : zb ≤ W2 := by rw [← hzb]; exact runI_le _ _ hB
        rw [hq1, hq2, hq3, hq4, hza, hzb]
        rw [hq1] at b1'
        rw [hq2] at b2'
        rw [hq3] at b3'
        rw [hq4] at b4'
        have HQ := Lib.hid (And.intro hq1 (And.intro hq2 (And.intro hq3 (And.intro hq4 (And.intro hza hzb)))))
        clear hq1 hq2 hq3 hq4 hza hzb
        by_cases hlt : j < N
        · have hd' : decide (j < N) = true := by simpa using hlt
          obtain ⟨e, he⟩ : ∃ e, L[j]? = some e := ⟨_, List.getElem?_eq_getElem (by rw [HLN.out]; exact hlt)⟩
          obtain ⟨e1, e2, e3, e4⟩ := HM.out e (List.mem_of_getElem? he)
          rcases HE3.out with ⟨_, _, h0⟩ | ⟨g, rfl, hg, _, _, hev⟩
          · rw [h0] at he; cases he
          have hv := (hev j e he).later (hl38.trans hlr) hg
          have HEJ := Lib.hid he
          clear he hev
          obtain ⟨c0, c1, c2, c3, c4, c5, c6, c7, c17⟩ := hv
          obtain ⟨d, er, pp, nn, cc⟩ := e
          simp only at e1 e2 e3 e4 c0 c1 c3
          have hrange : World.rangeAt wk g (j * 18) [.int .i64 d, .int .i64 er, .string ⟨#[]⟩, .slice pp nn cc, .int .i64 0, .int .u32 0, .int .u8 0, .int .u64 0, .int .u64 0, .int .u64 0, .int .u64 0, .int .u64 0, .int .u64 0, .int .u64 0, .int .u64 0, .int .u64 0, .int .u64 0, .complex .f64 0 0] := fun jj v hv => by
            match jj, hv with
            | 0, hv => cases hv; exact c0
            | 1, hv => cases hv; exact c1
            | 2, hv => cases hv; exact c2
            | 3, hv => cases hv; exact c3
            | 4, hv => cases hv; exact c4
            | 5, hv => cases hv; exact c5
            | 6, hv => cases hv; exact c6
            | 7, hv => cases hv; exact c7 0 (by omega)
            | 8, hv => cases hv; exact c7 1 (by omega)
            | 9, hv => cases hv; exact c7 2 (by omega)
            | 10, hv => cases hv; exact c7 3 (by omega)
            | 11, hv => cases hv; exact c7 4 (by omega)
            | 12, hv => cases hv; exact c7 5 (by omega)
            | 13, hv => cases hv; exact c7 6 (by omega)
            | 14, hv => cases hv; exact c7 7 (by omega)
            | 15, hv => cases hv; exact c7 8 (by omega)
            | 16, hv => cases hv; exact c7 9 (by omega)
            | 17, hv => cases hv; exact c17
          have HRG := Lib.hid hrange
          clear hrange c0 c1 c2 c3 c4 c5 c6 c7 c17
          go_wp2_with (first | (refine wpList_load_mid rfl 45 (.tmp 84) rfl g (j * 18) rfl [.int .i64 d, .int .i64 er, .string ⟨#[]⟩, .slice pp nn cc, .int .i64 0, .int .u32 0, .int .u8 0, .int .u64 0, .int .u64 0, .int .u64 0, .int .u64 0, .int .u64 0, .int .u64 0, .int .u64 0, .int .u64 0, .int .u64 0, .int .u64 0, .complex .f64 0 0] _ HRG.out Tryd.underlying45 rfl (by kernel_rfl) ?_) | (refine wpList_store_rowTo rfl 45 (.tmp 24) (.tmp 85) rfl rfl wk.heap.size #[.int .i64 d, .int .i64 er, .string ⟨#[]⟩, .slice pp nn cc, .int .i64 0, .int .u32 0, .int .u8 0, .int .u64 0, .int .u64 0, .int .u64 0, .int .u64 0, .int .u64 0, .int .u64 0, .int .u64 0, .int .u64 0, .int .u64 0, .int .u64 0, .complex .f64 0 0] rfl rfl 45 #[.int .i64 0, .int .i64 0, .string ⟨#[]⟩, .slice none 0 0, .int .i64 0, .int .u32 0, .int .u8 0, .int .u64 0, .int .u64 0, .int .u64 0, .int .u64 0, .int .u64 0, .int .u64 0, .int .u64 0, .int .u64 0, .int .u64 0, .int .u64 0, .complex .f64 0 0] (heap_alloc_last wk _) (by kernel_rfl) rfl (by kernel_rfl) ?_; rw [World.setRow_alloc_new]))
          refine (Next_is za zb d hzaw hzbw _).mono ?_
          rintro ee w9 ⟨rfl, hb9⟩
          have hX : wk.heap.size < (wk.alloc (Obj.cells #[.int .i64 d, .int .i64 er, .string ⟨#[]⟩, .slice pp nn cc, .int .i64 0, .int .u32 0, .int .u8 0, .int .u64 0, .int .u64 0, .int .u64 0, .int .u64 0, .int .u64 0, .int .u64 0, .int .u64 0, .int .u64 0, .int .u64 0, .int .u64 0, .complex .f64 0 0] 45)).heap.size := by simp
          have x0 := cell_at hb9 (show (wk.alloc (Obj.cells #[.int .i64 d, .int .i64 er, .string ⟨#[]⟩, .slice pp nn cc, .int .i64 0, .int .u32 0, .int .u8 0, .int .u64 0, .int .u64 0, .int .u64 0, .int .u64 0, .int .u64 0, .int .u64 0, .int .u64 0, .int .u64 0, .int .u64 0, .int .u64 0, .complex .f64 0 0] 45)).cell? ⟨wk.heap.size, 0, none⟩ = some (.int .i64 d) by rw [World.cell?_alloc_new]; rfl) hX
          have x1 := cell_at hb9 (show (wk.alloc (Obj.cells #[.int .i64 d, .int .i64 er, .string ⟨#[]⟩, .slice pp nn cc, .int .i64 0, .int .u32 0, .int .u8 0, .int .u64 0, .int .u64 0, .int .u64 0, .int .u64 0, .int .u64 0, .int .u64 0, .int .u64 0, .int .u64 0, .int .u64 0, .int .u64 0, .complex .f64 0 0] 45)).cell? ⟨wk.heap.size, 1, none⟩ = some (.int .i64 er) by rw [World.cell?_alloc_new]; rfl) hX
          have x3 := cell_at hb9 (show (wk.alloc (Obj.cells #[.int .i64 d, .int .i64 er, .string ⟨#[]⟩, .slice pp nn cc, .int .i64 0, .int .u32 0, .int .u8 0, .int .u64 0, .int .u64 0, .int .u64 0, .int .u64 0, .int .u64 0, .int .u64 0, .int .u64 0, .int .u64 0, .int .u64 0, .int .u64 0, .complex .f64 0 0] 45)).cell? ⟨wk.heap.size, 3, none⟩ = some (.slice pp nn cc) by rw [World.cell?_alloc_new]; rfl) hX
          have hl9 := hlr.trans (((Later.refl wk).alloc (Obj.cells #[.int .i64 d, .int .i64 er, .string ⟨#[]⟩, .slice pp nn cc, .int .i64 0, .int .u32 0, .int .u8 0, .int .u64 0, .int .u64 0, .int .u64 0, .int .u64 0, .int .u64 0, .int .u64 0, .int .u64 0, .int .u64 0, .int .u64 0, .int .u64 0, .complex .f64 0 0] 45)).trans hb9)
          have z1 : IntKind.u64.wrap ((q1 : Int) + 1) = (q1 : Int) + 1 := by rw [IntKind.wrap_u64]; omega
          have z2 : IntKind.u64.wrap ((q2 : Int) + 1) = (q2 : Int) + 1 := by rw [IntKind.wrap_u64]; omega
          have z3 : IntKind.u64.wrap ((q3 : Int) + 1) = (q3 : Int) + 1 := by rw [IntKind.wrap_u64]; omega
          have z5 : IntKind.u64.wrap (nn : Int) = (nn : Int) := by rw [IntKind.wrap_u64]; omega
          have z4 : IntKind.u64.wrap ((q4 : Int) + (nn : Int)) = (q4 : Int) + (nn : Int) := by rw [IntKind.wrap_u64]; omega
          have nR : runR A (L.take (j + 1)) = nextR za d := by
            have hj' : j < L.length := by rw [HLN.out]; exact hlt
            have h1 := HEJ.out
            rw [List.getElem?_eq_getElem hj'] at h1
            rw [List.take_succ_eq_append_getElem hj', Option.some.inj h1, runR, List.foldl_append]
            show nextR (runR A (L.take j)) d = _
            rw [HQ.out.2.2.2.2.1]
          have nI : runI B (L.take (j + 1)) = nextI zb d := by
            have hj' : j < L.length := by rw [HLN.out]; exact hlt
            have h1 := HEJ.out
            rw [List.getElem?_eq_getElem hj'] at h1
            rw [List.take_succ_eq_append_getElem hj', Option.some.inj h1, runI, List.foldl_append]
            show nextI (runI B (L.take j)) d = _
            rw [HQ.out.2.2.2.2.2]
          have n1 := tot_next fC HEJ.out
          have n2 := tot_next fH HEJ.out
          have n3 := tot_next fR HEJ.out
          have n4 := tot_next fP HEJ.out
          rw [HQ.out.1] at n1
          rw [HQ.out.2.1] at n2
          rw [HQ.out.2.2.1] at n3
          rw [HQ.out.2.2.2.1] at n4
          have HN1 := Lib.hid n1
          have HN2 := Lib.hid n2
          have HN3 := Lib.hid n3
          have HN4 := Lib.hid n4
          have HNR := Lib.hid nR
          have HNI := Lib.hid nI
          clear n1 n2 n3 n4 nR nI e4 hb9 HRG
          by_cases h6 : d = 6
          · have t6 : (d == 6) = true := by simp [h6]
            go_wp2_with fail
            go_roundw
            case rel => exact ⟨j + 1, by omega, by rw [HN1.out]; simp [fC, h6], by rw [HN2.out]; simp [fH, h6], by rw [HN3.out]; simp [fR, h6], by rw [HN4.out]; simp [fP, h6], by rw [HNR.out, HNI.out, h6], by go_num, hl9⟩
            case measure => simp [RowKit.intOf]; omega
          have t6 : (d == 6) = false := by simp [h6]
          by_cases h0 : er = 0
          · have t0 : (er == 0) = true := by simp [h0]
            go_wp2_with fail
            go_roundw
            case rel => exact ⟨j + 1, by omega, by rw [HN1.out]; simp [fC, *], by rw [HN2.out]; simp [fH, *], by rw [HN3.out]; simp [fR, *], by rw [HN4.out]; simp [fP, *], by rw [HNR.out, HNI.out], by go_num, hl9⟩
            case measure => simp [RowKit.intOf]; omega
          have t0 : (er == 0) = false := by simp [h0]
          by_cases h10 : er = 10
          · have t10 : (er == 10) = true := by simp [h10]
            go_wp2_with fail
            go_roundw
            case rel => exact ⟨j + 1, by omega, by rw [HN1.out]; simp [fC, *], by rw [HN2.out]; simp [fH, *], by rw [HN3.out]; simp [fR, *], by rw [HN4.out]; simp [fP, *], by rw [HNR.out, HNI.out], by go_num, hl9⟩
            case measure => simp [RowKit.intOf]; omega
          have t10 : (er == 10) = false := by simp [h10]
          by_cases h11 : er = 11
          · have t11 : (er == 11) = true := by simp [h11]
            go_wp2_with fail
            go_roundw
            case rel => exact ⟨j + 1, by omega, by rw [HN1.out]; simp [fC, *], by rw [HN2.out]; simp [fH, *], by rw [HN3.out]; simp [fR, *], by rw [HN4.out]; simp [fP, *], by rw [HNR.out, HNI.out], by go_num, hl9⟩
            case measure => simp [RowKit.intOf]; omega
          have t11 : (er == 11) = false := by simp [h11]
          by_cases h12 : er = 12
          · have t12 : (er == 12) = true := by simp [h12]
            go_wp2_with fail
            go_roundw
            case rel => exact ⟨j + 1, by omega, by rw [HN1.out]; simp [fC, *], by rw [HN2.out]; simp [fH, *], by rw [HN3.out]; simp [fR, *], by rw [HN4.out]; simp [fP, *], by rw [HNR.out, HNI.out], by go_num, hl9⟩
            case measure => simp [RowKit.intOf]; omega
          have t12 : (er == 12) = false := by simp [h12]
          · go_wp2_with fail
            go_roundw
            case rel => exact ⟨j + 1, by omega, by rw [HN1.out]; simp [fC, *], by rw [HN2.out]; simp [fH, *], by rw [HN3.out]; simp [fR, *], by rw [HN4.out]; simp [fP, *], by rw [HNR.out, HNI.out], by go_num, hl9⟩
            case measure => simp [RowKit.intOf]; omega
        · obtain rfl : j = N := by omega
          have eT : L.take j = L := by rw [← HLN.out]; exact List.take_length
          have hq := HQ.out
          rw [eT, HY.out.2.1, HY.out.2.2] at hq
          obtain ⟨hq1, hq2, hq3, hq4, rfl, rfl⟩ := hq
          obtain ⟨y0, y1, yS, y7, y8, y9⟩ := (runX_adds L n HM.out (fun j' => by have := (HN.out j').2; have : (L.length : Int) ≤ 60 := by have := HLN.out; omega
                                                                                 omega)).1
          have hY1 := HY.out.1
          rw [hY1] at y0 y1 yS y7 y8 y9
          rw [hq1] at yS
          rw [hq2] at y7
          rw [hq3] at y8
          rw [hq4] at y9
          have hyok : okX y := by rw [← HY.out.1]; exact runX_ok _ _ HN.out.x
          have hT' : sumX y 5 = T + q1 := by
            have h1 := sumX_5 y hyok
            have h2 := sumX_5 n HN.out.x
            rw [HT.out] at h2
            omega
          have hWS9 := hWS8.later hlr
          have hWO9 := hWO8.later hlr
          have hL9 := hL8.trans hlr
          have o0 := cell_regrown (show wk.cell? ⟨O, 0, none⟩ = some (.int .u64 (n 0)) by rw [← y0]; exact hWO9.2.1 0 (by omega))
          have s0 := cell_regrown (show wk.cell? ⟨S, 0, none⟩ = some (.int .u64 (n 0)) from hWS9.2.1 0 (by omega))
          have o1 := cell_regrown (show wk.cell? ⟨O, 1, none⟩ = some (.int .u64 (n 1)) by rw [← y1]; exact hWO9.2.1 1 (by omega))
          have s1 := cell_regrown (show wk.cell? ⟨S, 1, none⟩ = some (.int .u64 (n 1)) from hWS9.2.1 1 (by omega))
          have o2 := cell_regrown (show wk.cell? ⟨O, 2, none⟩ = some (.int .u64 (y 2)) by exact hWO9.2.1 2 (by omega))
          have s2 := cell_regrown (show wk.cell? ⟨S, 2, none⟩ = some (.int .u64 (n 2)) from hWS9.2.1 2 (by omega))
          have o3 := cell_regrown (show wk.cell? ⟨O, 3, none⟩ = some (.int .u64 (y 3)) by exact hWO9.2.1 3 (by omega))
          have s3 := cell_regrown (show wk.cell? ⟨S, 3, none⟩ = some (.int .u64 (n 3)) from hWS9.2.1 3 (by omega))
          have o4 := cell_regrown (show wk.cell? ⟨O, 4, none⟩ = some (.int .u64 (y 4)) by exact hWO9.2.1 4 (by omega))
          have s4 := cell_regrown (show wk.cell? ⟨S, 4, none⟩ = some (.int .u64 (n 4)) from hWS9.2.1 4 (by omega))
          have o5 := cell_regrown (show wk.cell? ⟨O, 5, none⟩ = some (.int .u64 (y 5)) by exact hWO9.2.1 5 (by omega))
          have s5 := cell_regrown (show wk.cell? ⟨S, 5, none⟩ = some (.int .u64 (n 5)) from hWS9.2.1 5 (by omega))
          have o6 := cell_regrown (show wk.cell? ⟨O, 6, none⟩ = some (.int .u64 (y 6)) by exact hWO9.2.1 6 (by omega))
          have s6 := cell_regrown (show wk.cell? ⟨S, 6, none⟩ = some (.int .u64 (n 6)) from hWS9.2.1 6 (by omega))
          have o7 := cell_regrown (show wk.cell? ⟨O, 7, none⟩ = some (.int .u64 (n 7 + (q2 : Int))) by rw [← y7]; exact hWO9.2.1 7 (by omega))
          have s7 := cell_regrown (show wk.cell? ⟨S, 7, none⟩ = some (.int .u64 (n 7)) from hWS9.2.1 7 (by omega))
          have o8 := cell_regrown (show wk.cell? ⟨O, 8, none⟩ = some (.int .u64 (n 8 + (q3 : Int))) by rw [← y8]; exact hWO9.2.1 8 (by omega))
          have s8 := cell_regrown (show wk.cell? ⟨S, 8, none⟩ = some (.int .u64 (n 8)) from hWS9.2.1 8 (by omega))
          have o9 := cell_regrown (show wk.cell? ⟨O, 9, none⟩ = some (.int .u64 (n 9 + (q4 : Int))) by rw [← y9]; exact hWO9.2.1 9 (by omega))
          have s9 := cell_regrown (show wk.cell? ⟨S, 9, none⟩ = some (.int .u64 (n 9)) from hWS9.2.1 9 (by omega))
          have o10 := cell_regrown (show wk.cell? ⟨O, 10, none⟩ = some (.complex .f64 a1 b1) from hWO9.2.2)
          have s10 := cell_regrown (show wk.cell? ⟨S, 10, none⟩ = some (.complex .f64 A B) from hWS9.2.2)
          have hto := fun w => total_T y hyok (T + q1) hT' (by omega) a1 b1 w
          rw [y0, y1, y7, y8, y9, show ((T + q1 : Nat) : Int) = (T : Int) + (q1 : Int) from rfl] at hto
          have c13 := fun d os => quiet_later (show Calls Tryd.prog 13 #[.agg #[.int .u64 (n 0), .int .u64 (n 1), .int .u64 (y 2), .int .u64 (y 3), .int .u64 (y 4), .int .u64 (y 5), .int .u64 (y 6), .int .u64 (n 7 + (q2 : Int)), .int .u64 (n 8 + (q3 : Int)), .int .u64 (n 9 + (q4 : Int)), .complex .f64 a1 b1]] (grow (redrawn wk d) os) _ from hto _)
          have c13s := fun d os => quiet_later (show Calls Tryd.prog 13 #[.agg #[.int .u64 (n 0), .int .u64 (n 1), .int .u64 (n 2), .int .u64 (n 3), .int .u64 (n 4), .int .u64 (n 5), .int .u64 (n 6), .int .u64 (n 7), .int .u64 (n 8), .int .u64 (n 9), .complex .f64 A B]] (grow (redrawn wk d) os) _ from total_T n HN.out.x T HT.out (by omega) A B (grow (redrawn wk d) os))
          have c14 := fun d os => quiet_later (awake_is (grow (redrawn wk d) os) (HE.out.later (hL9.trans (below_regrown wk d os))))
          have m1 : IntKind.u64.wrap ((T : Int) + (q1 : Int)) = (T : Int) + (q1 : Int) := by rw [IntKind.wrap_u64]; omega
          have m7 : IntKind.u64.wrap (n 7 + (q2 : Int)) = n 7 + (q2 : Int) := by have := HN.out 7; rw [IntKind.wrap_u64]; omega
          have m8 : IntKind.u64.wrap (n 8 + (q3 : Int)) = n 8 + (q3 : Int) := by have := HN.out 8; rw [IntKind.wrap_u64]; omega
          have m9 : IntKind.u64.wrap (n 9 + (q4 : Int)) = n 9 + (q4 : Int) := by have := HN.out 9; rw [IntKind.wrap_u64]; omega
          clear hto hT' y0 y1 yS y7 y8 y9 hq1 hq2 hq3 hq4 hyok
          go_wp2_with fail
          refine wp_region_quiet_below mixed (by kernel_rfl) ?_
          repeat ((with_reducible refine wpQuiet_step (fun K hK => ?_)); go_simp; first | ((with_reducible refine hK _ ?_); clear hK K) | ((with_reducible refine iteNeg ?_ ?_); (focus (intro h; cases h)); (with_reducible refine hK _ ?_); clear hK K) | (apply Exists.intro; refine ⟨fun _ => ?_, hK _ ?_⟩; (first | (with_reducible exact c13 _ _) | (with_reducible exact c13s _ _) | (with_reducible exact c14 _ _)); clear hK K))
          with_reducible refine wpQuiet_nil ?_
          intro w3' hw3
          have hl3 : Later wk w3' := by obtain ⟨p, rfl⟩ := hw3; exact below_regrown wk p.d p.os
          clear hw3
          go_wp2_with fail
          go_ret
          exact ⟨rfl, hL9.trans hl3⟩
end Go.Proofs.YthohoendjipleaaDoor
