/-
  The reference of layer 15: the sum of both parts in binary digits. Conditions: the words are those of numbers from 0 to 2.
-/
import Derived.Test.YtmjpjjnhlgidcaaG
import Derived.Test.YtmjpjjnhlgidcaaC
namespace Go.Proofs.Ytmjpjjnhlgidcaa
open Go.RowKit Go.Sort
set_option linter.unusedSimpArgs false
set_option linter.unusedVariables false

theorem half_pow (a i : Nat) : a / 2 ^ (i + 1) = a / 2 ^ i / 2 := by rw [Nat.pow_succ, Nat.div_div_eq_div_mul]
theorem dg_nat (N j : Nat) : dgN N j = ((N / 2 ^ j % 2 : Nat) : Int) := rfl
theorem wrap_three (x y c n : Nat) (h : x + y + c = n) (hn : n ≤ 3) : IntKind.i64.wrap (IntKind.i64.wrap ((x : Int) + (y : Int)) + (c : Int)) = (n : Int) := by
  rw [show IntKind.i64.wrap ((x : Int) + (y : Int)) = (x : Int) + (y : Int) by rw [IntKind.wrap_i64]; omega, IntKind.wrap_i64]; omega
theorem wrap_bit (n : Nat) (hn : n ≤ 1) : wrap64 (n : Int) = (n : Int) := by
  unfold wrap64; omega
theorem carry_step (X Y U c x y n : Nat) (h : U = X + Y + c) (hx : X % 2 = x) (hy : Y % 2 = y) (hn : x + y + c = n) : U % 2 = n % 2 ∧ U / 2 = X / 2 + Y / 2 + n / 2 := by omega
set_option maxRecDepth 100000 in
set_option maxHeartbeats 2000000 in
theorem sumRow_of (a b A B : Nat) (hdA : ∀ w, Calls Try.prog 36 #[.float .f64 a] w fun e w' => e = .returned (.agg (rowA (dgN A))) ∧ Later w w') (hdB : ∀ w, Calls Try.prog 36 #[.float .f64 b] w fun e w' => e = .returned (.agg (rowA (dgN B))) ∧ Later w w') (w : World) : Calls Try.prog 32 #[.complex .f64 a b] w fun e w' => e = .returned (.agg (rowA (dgN (A + B)))) ∧ Later w w' := by
  obtain ⟨hz, hi49⟩ := zero_of_info info49
  obtain ⟨Z, hZ⟩ : ∃ Z, rowA (fun _ => 0) = Z := ⟨_, rfl⟩
  rw [hZ] at hz
  have hZs : Z.size = 1080 := by rw [← hZ]; exact rowA_size _
  have HA := Lib.hid hdA
  have HB := Lib.hid hdB
  clear hdA hdB
  obtain ⟨N, hN⟩ : ∃ N, A + B = N := ⟨_, rfl⟩
  rw [hN]
  clear hZ
  obtain ⟨DA, hDA⟩ : ∃ D, rowA (dgN A) = D := ⟨_, rfl⟩
  have dAs : DA.size = 1080 := by rw [← hDA]; exact rowA_size _
  have dAo : DA.all (·.oneCell') = true := by rw [← hDA]; exact rowA_one _
  have dAi : (Try.prog.info? 49).map (·.size) = some DA.size := by rw [← hDA]; exact info49s _
  obtain ⟨DB, hDB⟩ : ∃ D, rowA (dgN B) = D := ⟨_, rfl⟩
  have dBs : DB.size = 1080 := by rw [← hDB]; exact rowA_size _
  have dBo : DB.all (·.oneCell') = true := by rw [← hDB]; exact rowA_one _
  have dBi : (Try.prog.info? 49).map (·.size) = some DB.size := by rw [← hDB]; exact info49s _
  obtain ⟨D, hD⟩ : ∃ D, rowA (dgN N) = D := ⟨_, rfl⟩
  rw [hDA] at HA
  rw [hDB] at HB
  rw [hD]
  have HDD := Lib.hid (And.intro hDA (And.intro hDB (And.intro hD hN)))
  clear hDA hDB hD hN
  go_enter Try.func32, Try.ntmps32
  go_wp2_with fail
  refine (HA.out _).mono ?_
  rintro e w1 ⟨rfl, hl1⟩
  have hr1 : w1.heap[w.heap.size]? = some (.cells Z 49 (0, 0)) := (Below.block hl1 _ (by simp)).trans (heap_alloc_last w (.cells Z 49))
  have hl01 : Later w w1 := ((Later.refl w).alloc _).trans hl1
  clear hl1
  obtain ⟨R, hR⟩ : ∃ R, w.heap.size = R := ⟨_, rfl⟩
  have hRw : w.heap.size ≤ R := by omega
  have hRl : R < w1.heap.size := by rw [← hR]; exact (Array.getElem?_eq_some_iff.1 hr1).1
  rw [hR] at hr1 ⊢
  clear hR
  go_wp2_with (refine wpList_store_row rfl 49 (.tmp 3) (.tmp 10) rfl w1.heap.size DA rfl rfl 49 Z (heap_alloc_last _ _) dAi (by rw [hZs, dAs]) dAo ?_)
  rw [World.setRow_alloc_new]
  have hl2 : Later w (w1.alloc (.cells DA 49)) := hl01.alloc _
  have hr2 : (w1.alloc (.cells DA 49)).heap[R]? = some (.cells Z 49 (0, 0)) := (Below.block ((Later.refl w1).alloc (.cells DA 49)) _ hRl).trans hr1
  have hs2 : RowAt (w1.alloc (.cells DA 49)) w1.heap.size (dgN A) := by
    apply RowAt.of_block (t := 49)
    rw [HDD.out.1]
    exact heap_alloc_last w1 (.cells DA 49)
  clear hl01 hr1
  obtain ⟨S, hS⟩ : ∃ S, w1.heap.size = S := ⟨_, rfl⟩
  obtain ⟨w2, hw2⟩ : ∃ w2, w1.alloc (.cells DA 49) = w2 := ⟨_, rfl⟩
  rw [hS] at hRl hs2 ⊢
  rw [hw2] at hl2 hr2 hs2 ⊢
  clear hS hw2
  refine (HB.out _).mono ?_
  rintro e w3 ⟨rfl, hl⟩
  have hl3 := hl2.trans hl
  have hs3 := hs2.later hl
  have hR2 : R < w2.heap.size := (Array.getElem?_eq_some_iff.1 hr2).1
  have hr3 : w3.heap[R]? = some (.cells Z 49 (0, 0)) := (Below.block hl _ hR2).trans hr2
  clear hl2 hs2 hr2 hR2 hl
  go_wp2_with (refine wpList_store_row rfl 49 (.tmp 4) (.tmp 13) rfl w3.heap.size DB rfl rfl 49 Z (heap_alloc_last _ _) dBi (by rw [hZs, dBs]) dBo ?_)
  rw [World.setRow_alloc_new]
  have hR3 : R < w3.heap.size := (Array.getElem?_eq_some_iff.1 hr3).1
  have hl4 : Later w (w3.alloc (.cells DB 49)) := hl3.alloc _
  have hr4 : (w3.alloc (.cells DB 49)).heap[R]? = some (.cells Z 49 (0, 0)) := (Below.block ((Later.refl w3).alloc (.cells DB 49)) _ hR3).trans hr3
  have hs4 : RowAt (w3.alloc (.cells DB 49)) S (dgN A) := hs3.later ((Later.refl w3).alloc _)
  have ht4 : RowAt (w3.alloc (.cells DB 49)) w3.heap.size (dgN B) := by
    apply RowAt.of_block (t := 49)
    rw [HDD.out.2.1]
    exact heap_alloc_last w3 (.cells DB 49)
  have hST := hs3.1
  clear hl3 hr3 hs3
  obtain ⟨T, hT⟩ : ∃ T, w3.heap.size = T := ⟨_, rfl⟩
  obtain ⟨w4, hw4⟩ : ∃ w4, w3.alloc (.cells DB 49) = w4 := ⟨_, rfl⟩
  rw [hT] at hR3 ht4 hST ⊢
  rw [hw4] at hl4 hr4 hs4 ht4 ⊢
  clear hT hw4
  have hI0 : RowAt w4 S (fun j => if j < 0 then dgN N j else dgN A j) := by
    have e : (fun j => if j < 0 then dgN N j else dgN A j) = dgN A := by
      funext j
      exact if_neg (by omega)
    rw [e]; exact hs4
  clear hs4
  go_loopw [5, 6] (fun s5 s6 wr => ∃ c i : Nat, i ≤ 1080 ∧ c ≤ 1 ∧ N / 2 ^ i = A / 2 ^ i + B / 2 ^ i + c ∧ s5 = .int .i64 (c : Int) ∧ s6 = .int .i64 (i : Int) ∧ RowAt wr S (fun j => if j < i then dgN N j else dgN A j) ∧ RowAt wr T (dgN B) ∧ wr.heap[R]? = some (.cells Z 49 (0, 0)) ∧ Later w wr) (fun _ s6 _ => 1080 - (RowKit.intOf s6).toNat)
  case atStart => exact ⟨0, 0, by omega, by omega, by rw [Nat.pow_zero, Nat.div_one, Nat.div_one, Nat.div_one, ← HDD.out.2.2.2]; omega, rfl, rfl, hI0, ht4, hr4, hl4⟩
  case round =>
    clear hI0 ht4 hr4 hl4
    obtain ⟨c, i, hi, hc1, hsum, rfl, rfl, hA, hB, hr, hl⟩ := hrel
    rename World => wk
    by_cases hend : i = 1080
    · clear hsum
      subst hend
      have hd1 : decide (((1080 : Nat) : Int) < 1080) = false := by decide
      have hd2 : decide (1080 < 1080) = false := by decide
      have ef : rowA (fun j => if j < 1080 then dgN N j else dgN A j) = D := by
        rw [← HDD.out.2.2.1]
        exact rowA_cg (fun j hj => if_pos hj)
      have hrange := hA.range
      rw [ef] at hrange
      have hDs : D.size = 1080 := by rw [← HDD.out.2.2.1]; exact rowA_size _
      have hDo : D.all (·.oneCell') = true := by rw [← HDD.out.2.2.1]; exact rowA_one _
      have hDi : (Try.prog.info? 49).map (·.size) = some D.size := by rw [← HDD.out.2.2.1]; exact info49s _
      have HRG := Lib.hid hrange
      clear hi ef hA hB hrange hc1
      have hlD : D.toList.length = 1080 := by simpa using hDs
      go_wp2_with (first | (refine wpList_load_mid rfl 49 (.tmp 3) rfl S 0 rfl D.toList _ HRG.out Try.underlying49 rfl (by rw [hi49, hlD]) ?_) | (refine wpList_store_rowTo rfl 49 (.tmp 2) (.tmp 33) rfl rfl R D rfl rfl 49 Z hr hDi (by rw [hZs, hDs]) hDo ?_))
      have hgR := setRow_heap wk R Z D 49 (0,0) hr
      have hlR := hl.setRow R D hRw
      refine bodyPost_ret_by (v := .agg D) ?_ rfl ⟨rfl, hlR⟩
      refine results_cell_row (p := 2) (ty := 49) rfl _ _ R 49 D (0,0) _ ?_ hgR Try.underlying49 rfl hDi
      simp [Act.put]
    · obtain ⟨X, hX⟩ : ∃ X, A / 2 ^ i = X := ⟨_, rfl⟩
      obtain ⟨Y, hY⟩ : ∃ Y, B / 2 ^ i = Y := ⟨_, rfl⟩
      obtain ⟨U, hU⟩ : ∃ U, N / 2 ^ i = U := ⟨_, rfl⟩
      rw [hX, hY, hU] at hsum
      have HP := Lib.hid (And.intro hX (And.intro hY hU))
      clear hX hY hU
      have hd1 : decide ((i : Int) < 1080) = true := by simp; omega
      have hd2 : decide (i < 1080) = true := by simp; omega
      have hi0 : (0 : Int) ≤ (i : Int) := by omega
      have hi1 : (i : Int) < 1080 := by omega
      have hcA := hA.2 i (by omega)
      dsimp only at hcA
      rw [if_neg (by omega)] at hcA
      obtain ⟨c1, c2⟩ := hcA
      obtain ⟨c3, c4⟩ := hB.2 i (by omega)
      obtain ⟨x, hx⟩ : ∃ x, X % 2 = x := ⟨_, rfl⟩
      obtain ⟨y, hy⟩ : ∃ y, Y % 2 = y := ⟨_, rfl⟩
      rw [dg_nat, HP.out.1, hx] at c1
      rw [dg_nat, HP.out.2.1, hy] at c3
      have hx2 : x < 2 := by omega
      have hy2 : y < 2 := by omega
      obtain ⟨n, hn⟩ : ∃ n, x + y + c = n := ⟨_, rfl⟩
      have hn3 : n ≤ 3 := by omega
      have hdg : dgN N i = ((n % 2 : Nat) : Int) := by rw [dg_nat, HP.out.2.2, (carry_step X Y U c x y n hsum hx hy hn).1]
      have hnx : N / 2 ^ (i + 1) = A / 2 ^ (i + 1) + B / 2 ^ (i + 1) + n / 2 := by
        rw [half_pow, half_pow, half_pow, HP.out.1, HP.out.2.1, HP.out.2.2]; exact (carry_step X Y U c x y n hsum hx hy hn).2
      have HN := Lib.hid (And.intro hA (And.intro hB (And.intro hr (And.intro hl (And.intro hdg (And.intro hnx (And.intro hn hi)))))))
      have HE := Lib.hid hend
      clear hA hB hr hl hdg hnx hn hi hsum hx hy hi49 hZs hz hend c4
      go_wp2_with fail
      have z1 := cell_regrown c1
      have z3 := cell_regrown c3
      refine wp_region_quiet_below mixed (by kernel_rfl) ?_
      repeat (quiet_step (fail))
      with_reducible refine wpQuiet_nil ?_
      intro w5 hw5
      have hl5 : Later wk w5 := by obtain ⟨p, rfl⟩ := hw5; exact below_regrown wk p.d p.os
      clear hw5
      have hA5 := HN.out.1.later hl5
      have hB5 := HN.out.2.1.later hl5
      have hr5 : w5.heap[R]? = some (.cells Z 49 (0, 0)) := (Below.block hl5 _ (Array.getElem?_eq_some_iff.1 HN.out.2.2.1).1).trans HN.out.2.2.1
      have hlw5 := HN.out.2.2.2.1.trans hl5
      obtain ⟨e1, e2⟩ := hA5.2 i (by omega)
      dsimp only at e1
      rw [if_neg (by omega)] at e1
      obtain ⟨vo, hvo⟩ : ∃ vo, dgN A i = vo := ⟨_, rfl⟩
      rw [hvo] at e1
      clear hvo
      obtain ⟨d, hd⟩ : ∃ d, n % 2 = d := ⟨_, rfl⟩
      obtain ⟨q, hq⟩ : ∃ q, n / 2 = q := ⟨_, rfl⟩
      have hd5 : (n : Int) % 2 = (d : Int) := by omega
      have hq5 : (n : Int) / 2 = (q : Int) := by omega
      have hd6 : d ≤ 1 := by omega
      have hq6 : q ≤ 1 := by omega
      have hA6 := hA5.set (g := fun j => if j < i + 1 then dgN N j else dgN A j) i (d : Int) (by omega) (fun j hj => by
        by_cases e : j = i
        · subst e; rw [if_pos (by omega), if_pos rfl, HN.out.2.2.2.2.1, hd]
        · rw [if_neg e]
          by_cases h : j < i
          · rw [if_pos (by omega), if_pos h]
          · rw [if_neg (by omega), if_neg h])
      have hB6 : RowAt (w5.setCell ⟨S, i, none⟩ (.int .i64 (d : Int))) T (dgN B) := ⟨by simpa using hB5.1, fun j hj => ⟨by rw [setO w5 S i T j _ (by omega)]; exact (hB5.2 j hj).1, by simpa using (hB5.2 j hj).2⟩⟩
      have hr6 : (w5.setCell ⟨S, i, none⟩ (.int .i64 (d : Int))).heap[R]? = some (.cells Z 49 (0, 0)) := (Below.heap_setCell w5 _ _ _ (by show R ≠ S; omega)).trans hr5
      have hl6 := hlw5.setCell ⟨S, i, none⟩ (.int .i64 (d : Int)) (by show w.heap.size ≤ S; omega)
      have hw7 := wrap_three x y c n HN.out.2.2.2.2.2.2.1 hn3
      rw [hw7]
      have hdb := wrap_bit d hd6
      have hqb := wrap_bit q hq6
      have HM := Lib.hid (And.intro hA6 (And.intro hB6 (And.intro hr6 (And.intro hl6 (And.intro hn3 (And.intro hd (And.intro hq (And.intro hd6 hq6))))))))
      clear hA6 hB6 hr6 hl6 hA5 hB5 hr5 hlw5 z1 z3 hl5 hw7 hx2 hy2 c1 c3 hc1 hn3 hd hq hd6 hq6 dAs dAo dAi dBs dBo dBi hRl hR3 hST hRw
      go_wp2_with fail
      rw [hqb]
      refine ⟨⟨q, i + 1, by have := HN.out.2.2.2.2.2.2.2; have := HE.out; omega, HM.out.2.2.2.2.2.2.2.2, by rw [HN.out.2.2.2.2.2.1, HM.out.2.2.2.2.2.2.1], rfl, by rw [Int.natCast_add]; rfl, HM.out.1, HM.out.2.1, HM.out.2.2.1, HM.out.2.2.2.1⟩, ?_⟩
      have h1 := HN.out.2.2.2.2.2.2.2
      have h2 := HE.out
      show 1080 - ((i : Int) + 1).toNat < 1080 - ((i : Int)).toNat
      omega
theorem sumRow_is (a b : Nat) (ha : a ≤ W2) (hb : b ≤ W2) (w : World) : Calls Try.prog 32 #[.complex .f64 a b] w fun e w' => e = .returned (.agg (rowA (dgN (valW a + valW b)))) ∧ Later w w' :=
  sumRow_of a b _ _ (fun w => digits_is a ha w) (fun w => digits_is b hb w) w
end Go.Proofs.Ytmjpjjnhlgidcaa
