/-
  The reference of layer 15: which of two loads is less. Conditions: the words are those of numbers from 0 to 2.
-/
import Derived.Test.YtmjpjjnhlgidcaaH
import Derived.Test.YtmjpjjnhlgidcaaD
import Derived.Test.YtmjpjjnhlgidcaaFt
namespace Go.Proofs.Ytmjpjjnhlgidcaa
open Go.RowKit Go.Sort
set_option linter.unusedSimpArgs false
set_option linter.unusedVariables false

theorem lt_of_div {N M p : Nat} (h : N / p < M / p) : N < M := by
  rcases Nat.lt_or_ge N M with h1 | h1
  · exact h1
  · have := Nat.div_le_div_right (c := p) h1; omega
theorem dg_less {N M j X Y x y : Nat} (hX : N / 2 ^ j = X) (hY : M / 2 ^ j = Y) (h : X / 2 = Y / 2) (hx : X % 2 = x) (hy : Y % 2 = y) (hn : x ≠ y) : decide (N < M) = decide (x < y) := by
  apply decide_eq_decide.2
  rcases Nat.lt_or_ge X Y with h1 | h1
  · have h2 : N < M := lt_of_div (p := 2 ^ j) (by rw [hX, hY]; exact h1)
    have h3 : x < y := by omega
    exact ⟨fun _ => h3, fun _ => h2⟩
  · have h1' : Y < X := by omega
    have h2 : M < N := lt_of_div (p := 2 ^ j) (by rw [hX, hY]; exact h1')
    have h3 : y < x := by omega
    constructor <;> intro <;> omega
theorem sum_lt (a b : Nat) (ha : a ≤ W2) (hb : b ≤ W2) : (valW a + valW b) / 2 ^ 1080 = 0 := by
  apply Nat.div_eq_of_lt
  have h1 := val_le2 ha
  have h2 := val_le2 hb
  obtain ⟨k, hk⟩ : ∃ k, k = 1075 := ⟨_, rfl⟩
  rw [← hk] at h1 h2
  have h3 : 2 ^ 1080 = 32 * 2 ^ k := by rw [hk]; kernel_rfl
  rw [h3]
  have := Nat.two_pow_pos k
  omega
set_option maxRecDepth 100000 in
set_option maxHeartbeats 2000000 in
theorem refLess_of (a b a' b' N M : Nat) (hI1 : ∀ w, Calls Try.prog 17 #[.complex .f64 a b] w fun e w' => e = .returned (.bool true) ∧ Later w w') (hI2 : ∀ w, Calls Try.prog 17 #[.complex .f64 a' b'] w fun e w' => e = .returned (.bool true) ∧ Later w w')
    (hsA : ∀ w, Calls Try.prog 32 #[.complex .f64 a b] w fun e w' => e = .returned (.agg (rowA (dgN N))) ∧ Later w w') (hsB : ∀ w, Calls Try.prog 32 #[.complex .f64 a' b'] w fun e w' => e = .returned (.agg (rowA (dgN M))) ∧ Later w w') (h0 : N / 2 ^ 1080 = M / 2 ^ 1080) (w : World) :
    Calls Try.prog 24 #[.complex .f64 a b, .complex .f64 a' b'] w fun e w' => e = .returned (.bool (decide (N < M))) ∧ Later w w' := by
  obtain ⟨hz, hi49⟩ := zero_of_info info49
  obtain ⟨Z, hZ⟩ : ∃ Z, rowA (fun _ => 0) = Z := ⟨_, rfl⟩
  rw [hZ] at hz
  have hZs : Z.size = 1080 := by rw [← hZ]; exact rowA_size _
  clear hZ
  have HA := Lib.hid hsA
  have HB := Lib.hid hsB
  have HI1 := Lib.hid hI1
  have HI2 := Lib.hid hI2
  clear hsA hsB hI1 hI2
  obtain ⟨r, hr⟩ : ∃ r, decide (N < M) = r := ⟨_, rfl⟩
  rw [hr]
  have HR := Lib.hid hr
  clear hr
  have HN0 := Lib.hid h0
  clear h0
  obtain ⟨DA, hDA⟩ : ∃ D, rowA (dgN N) = D := ⟨_, rfl⟩
  have dAs : DA.size = 1080 := by rw [← hDA]; exact rowA_size _
  have dAo : DA.all (·.oneCell') = true := by rw [← hDA]; exact rowA_one _
  have dAi : (Try.prog.info? 49).map (·.size) = some DA.size := by rw [← hDA]; exact info49s _
  obtain ⟨DB, hDB⟩ : ∃ D, rowA (dgN M) = D := ⟨_, rfl⟩
  have dBs : DB.size = 1080 := by rw [← hDB]; exact rowA_size _
  have dBo : DB.all (·.oneCell') = true := by rw [← hDB]; exact rowA_one _
  have dBi : (Try.prog.info? 49).map (·.size) = some DB.size := by rw [← hDB]; exact info49s _
  rw [hDA] at HA
  rw [hDB] at HB
  have HDD := Lib.hid (And.intro hDA hDB)
  clear hDA hDB
  go_enter Try.func24, Try.ntmps24
  go_wp2_with fail
  refine (HI1.out _).mono ?_
  rintro e w0 ⟨rfl, hl0⟩
  go_wp2_with fail
  refine (HI2.out _).mono ?_
  rintro e w1 ⟨rfl, hl1⟩
  have hl := hl0.trans hl1
  clear hl0 hl1
  go_wp2_with fail
  refine (HA.out _).mono ?_
  rintro e w2 ⟨rfl, hl2⟩
  have hl3 := hl.trans hl2
  clear hl hl2
  go_wp2_with (refine wpList_store_row rfl 49 (.tmp 5) (.tmp 17) rfl w2.heap.size DA rfl rfl 49 Z (heap_alloc_last _ _) dAi (by rw [hZs, dAs]) dAo ?_)
  rw [World.setRow_alloc_new]
  have hl4 : Later w (w2.alloc (.cells DA 49)) := hl3.alloc _
  have hs4 : RowAt (w2.alloc (.cells DA 49)) w2.heap.size (dgN N) := by
    apply RowAt.of_block (t := 49)
    rw [HDD.out.1]
    exact heap_alloc_last w2 (.cells DA 49)
  clear hl3
  obtain ⟨S, hS⟩ : ∃ S, w2.heap.size = S := ⟨_, rfl⟩
  obtain ⟨w3, hw3⟩ : ∃ w3, w2.alloc (.cells DA 49) = w3 := ⟨_, rfl⟩
  rw [hS] at hs4 ⊢
  rw [hw3] at hl4 hs4 ⊢
  clear hS hw3
  refine (HB.out _).mono ?_
  rintro e w4 ⟨rfl, hl⟩
  have hl5 := hl4.trans hl
  have hs5 := hs4.later hl
  clear hl4 hs4 hl
  go_wp2_with (refine wpList_store_row rfl 49 (.tmp 6) (.tmp 19) rfl w4.heap.size DB rfl rfl 49 Z (heap_alloc_last _ _) dBi (by rw [hZs, dBs]) dBo ?_)
  rw [World.setRow_alloc_new]
  have hl6 : Later w (w4.alloc (.cells DB 49)) := hl5.alloc _
  have hs6 : RowAt (w4.alloc (.cells DB 49)) S (dgN N) := hs5.later ((Later.refl w4).alloc _)
  have ht6 : RowAt (w4.alloc (.cells DB 49)) w4.heap.size (dgN M) := by
    apply RowAt.of_block (t := 49)
    rw [HDD.out.2]
    exact heap_alloc_last w4 (.cells DB 49)
  clear hl5 hs5
  obtain ⟨T, hT⟩ : ∃ T, w4.heap.size = T := ⟨_, rfl⟩
  obtain ⟨w6, hw6⟩ : ∃ w6, w4.alloc (.cells DB 49) = w6 := ⟨_, rfl⟩
  rw [hT] at ht6 ⊢
  rw [hw6] at hl6 hs6 ht6 ⊢
  clear hT hw6 dAs dAo dAi dBs dBo dBi hZs
  go_loopw [7] (fun s7 wr => ∃ k : Nat, k ≤ 1080 ∧ N / 2 ^ k = M / 2 ^ k ∧ s7 = .int .i64 ((k : Int) - 1) ∧ RowAt wr S (dgN N) ∧ RowAt wr T (dgN M) ∧ Later w wr) (fun s7 _ => ((RowKit.intOf s7) + 1).toNat)
  case atStart => exact ⟨1080, by omega, HN0.out, rfl, hs6, ht6, hl6⟩
  case round =>
    clear hs6 ht6 hl6 hz hi49
    obtain ⟨k, hk, hdiv, rfl, hA, hB, hl⟩ := hrel
    rename World => wk
    rcases k with _ | j
    · rw [Nat.pow_zero, Nat.div_one, Nat.div_one] at hdiv
      rw [show (((0 : Nat) : Int) - 1) = -1 by omega]
      have hres : decide (N < M) = false := by simp; omega
      have hrr : r = false := HR.out.symm.trans hres
      have hd1 : decide ((0 : Int) ≤ -1) = false := by decide
      subst hrr
      clear hdiv hres hk hA hB
      go_wp2_with fail
      go_ret
      exact ⟨rfl, hl⟩
    · rw [show (((j + 1 : Nat) : Int) - 1) = (j : Int) by omega]
      rw [half_pow, half_pow] at hdiv
      obtain ⟨c1, c2⟩ := hA.2 j (by omega)
      obtain ⟨c3, c4⟩ := hB.2 j (by omega)
      obtain ⟨X, hX⟩ : ∃ X, N / 2 ^ j = X := ⟨_, rfl⟩
      obtain ⟨Y, hY⟩ : ∃ Y, M / 2 ^ j = Y := ⟨_, rfl⟩
      rw [hX, hY] at hdiv
      obtain ⟨x, hx⟩ : ∃ x, X % 2 = x := ⟨_, rfl⟩
      obtain ⟨y, hy⟩ : ∃ y, Y % 2 = y := ⟨_, rfl⟩
      rw [dg_nat, hX, hx] at c1
      rw [dg_nat, hY, hy] at c3
      have hd1 : decide ((0 : Int) ≤ (j : Int)) = true := by simp
      have hd2 : decide (0 ≤ j) = true := by simp
      have hi0 : (0 : Int) ≤ (j : Int) := by omega
      have hi1 : (j : Int) < 1080 := by omega
      have z1 := cell_regrown c1
      have z3 := cell_regrown c3
      clear c2 c4
      by_cases hxy : x = y
      · have hXY : X = Y := by omega
        have HN := Lib.hid (And.intro hA (And.intro hB (And.intro hl (And.intro hX (And.intro hY (And.intro hXY hk))))))
        subst hxy
        clear hA hB hl hX hY hXY hk hx hy hdiv c1 c3
        have he1 : ((x : Int) == (x : Int)) = true := by simp
        go_wp2_with fail
        refine wp_region_quiet_below mixed (by kernel_rfl) ?_
        repeat (quiet_step (fail))
        with_reducible refine wpQuiet_nil ?_
        intro w5 hw5
        have hl5 : Later wk w5 := by obtain ⟨p, rfl⟩ := hw5; exact below_regrown wk p.d p.os
        clear hw5 z1 z3
        go_wp2_with fail
        have hj := HN.out.2.2.2.2.2.2
        refine ⟨⟨j, by omega, by rw [HN.out.2.2.2.1, HN.out.2.2.2.2.1]; exact HN.out.2.2.2.2.2.1, rfl, HN.out.1.later hl5, HN.out.2.1.later hl5, HN.out.2.2.1.trans hl5⟩, ?_⟩
        show ((j : Int) - 1 + 1).toNat < ((j : Int) + 1).toNat
        omega
      · have hr := HR.out.symm.trans (dg_less hX hY hdiv hx hy hxy)
        have he1 : ((x : Int) == (y : Int)) = false := by simp; omega
        have he2 : (x == y) = false := by simp; omega
        have HN := Lib.hid (And.intro hl (And.intro hr hxy))
        clear hX hY hdiv hx hy hr hl hA hB hk hxy
        go_wp2_with fail
        refine wp_region_quiet_below mixed (by kernel_rfl) ?_
        repeat (quiet_step (fail))
        with_reducible refine wpQuiet_nil ?_
        intro w5 hw5
        have hl5 : Later wk w5 := by obtain ⟨p, rfl⟩ := hw5; exact below_regrown wk p.d p.os
        clear hw5 z1 z3
        have y1 := cell_at hl5 c1 (block_lt_of_cell c1)
        have y3 := cell_at hl5 c3 (block_lt_of_cell c3)
        have z1 := cell_regrown y1
        have z3 := cell_regrown y3
        clear c1 c3 y1 y3
        go_wp2_with fail
        refine wp_region_quiet_below mixed (by kernel_rfl) ?_
        repeat (quiet_step (fail))
        with_reducible refine wpQuiet_nil ?_
        intro w6 hw6
        have hl6 : Later w5 w6 := by obtain ⟨p, rfl⟩ := hw6; exact below_regrown w5 p.d p.os
        clear hw6 z1 z3
        go_wp2_with fail
        go_ret
        exact ⟨congrArg (fun q => Ending.returned (Value.bool q)) HN.out.2.1.symm, HN.out.1.trans (hl5.trans hl6)⟩
theorem refLess_is (a b a' b' : Nat) (ha : a ≤ W2) (hb : b ≤ W2) (ha' : a' ≤ W2) (hb' : b' ≤ W2) (w : World) : Calls Try.prog 24 #[.complex .f64 a b, .complex .f64 a' b'] w fun e w' => e = .returned (.bool (decide (valW a + valW b < valW a' + valW b'))) ∧ Later w w' :=
  refLess_of a b a' b' _ _ (fun w => refIs_is a b ha hb w) (fun w => refIs_is a' b' ha' hb' w) (fun w => sumRow_is a b ha hb w) (fun w => sumRow_is a' b' ha' hb' w) (by rw [sum_lt a b ha hb, sum_lt a' b' ha' hb']) w
end Go.Proofs.Ytmjpjjnhlgidcaa
