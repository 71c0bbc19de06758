/-
  The reference of layer 15: the digits of a part, shifts, numbers, the next part. Conditions: the words are those of numbers from 0 to 2.
-/
import Derived.Test.YtmjpjjnhlgidcaaB
import Derived.Test.YtmjpjjnhlgidcaaLs
import Derived.Test.YtmjpjjnhlgidcaaFu
import Derived.Lib.QuietBelow
namespace Go.Proofs.Ytmjpjjnhlgidcaa
open Go.RowKit Go.Sort
set_option linter.unusedSimpArgs false
set_option linter.unusedVariables false

theorem mixed : Try.prog.follows .mixedOrders = true := by kernel_rfl
theorem bits_run (x : Nat) (w : World) : (callFunc 37 #[.float .f64 x]).run Try.prog w = .ok (.value (.int .u64 (x : Int))) w := by
  rw [run_callFunc_extern Try.func37 (by kernel_rfl) (by kernel_rfl) (by kernel_rfl) (e := Extern.MathFloatBits.float64bits) (by kernel_rfl)]
  rfl
theorem frombits_run (x : Nat) (w : World) : (callFunc 11 #[.int .u64 (x : Int)]).run Try.prog w = .ok (.value (.float .f64 x)) w := by
  rw [run_callFunc_extern Try.func11 (by kernel_rfl) (by kernel_rfl) (by kernel_rfl) (e := Extern.MathFloatBits.float64frombits) (by kernel_rfl)]
  rfl
theorem whole_is (x : Nat) (hx : x ≤ W2) (w : World) : Calls Try.prog 33 #[.float .f64 x] w fun e w' => e = .returned (.tuple #[.int .u64 (magW x : Nat), .int .i64 ((plcW x : Int) - 1074)]) ∧ w = w' := by
  have ho := ord_pos x 0 hx (by omega)
  have hb := bits_run x
  by_cases h0 : x = 0
  · subst h0
    rw [show compare 0 0 = Ordering.eq from rfl] at ho
    go_enter Try.func33, Try.ntmps33
    go_wp2_with fail
    go_ret2
    exact ⟨rfl, rfl⟩
  · rw [Nat.compare_eq_gt.2 (by omega)] at ho
    have hx2 : x ≤ 4611686018427387904 := hx
    obtain ⟨E, hE⟩ : ∃ E, x / 4503599627370496 = E := ⟨_, rfl⟩
    have hE1 : wrap64 ((x : Int) / 4503599627370496) = (E : Int) := by simp only [wrap64]; omega
    have hE2 : wrap64 ((E : Int) - 1075) = (E : Int) - 1075 := by simp only [wrap64]; omega
    obtain ⟨M, hM⟩ : ∃ M, x % 4503599627370496 = M := ⟨_, rfl⟩
    have hM1 : (x : Int) % 4503599627370496 = (M : Int) := by omega
    by_cases hE0 : E = 0
    · have hd : ((E : Int) == 0) = true := by simp; omega
      have hres : magW x = M ∧ plcW x = 0 := by
        unfold magW plcW
        have : x < 4503599627370496 := by omega
        rw [if_pos this, if_pos this]; omega
      rw [hres.1, hres.2]
      have HX := Lib.hid (And.intro hE (And.intro hM hE0))
      clear hE hM hE0 hres hx2 h0
      go_enter Try.func33, Try.ntmps33
      go_wp2_with fail
      go_ret2
      refine ⟨?_, rfl⟩
      show Ending.returned (.tuple #[.int .u64 ((x : Int) % 4503599627370496), .int .i64 (-1074)]) = _
      rw [hM1]; rfl
    · have hd : ((E : Int) == 0) = false := by simp; omega
      have hres : magW x = 4503599627370496 + M ∧ plcW x = E - 1 := by
        unfold magW plcW
        have : ¬ x < 4503599627370496 := by omega
        rw [if_neg this, if_neg this]; omega
      rw [hres.1, hres.2]
      have hr1 : ((4503599627370496 + M : Nat) : Int) = (M : Int) + 4503599627370496 := by omega
      have hr2 : (((E - 1 : Nat) : Int)) - 1074 = (E : Int) - 1075 := by omega
      rw [hr1, hr2]
      have HX := Lib.hid (And.intro hE (And.intro hM hE0))
      clear hE hM hE0 hres hx2 h0 hr1 hr2
      go_enter Try.func33, Try.ntmps33
      go_wp2_with fail
      go_ret2
      refine ⟨?_, rfl⟩
      show Ending.returned (.tuple #[.int .u64 ((M : Int) + 4503599627370496), .int .i64 (wrap64 ((E : Int) - 1075))]) = _
      rw [hE2]
theorem shifted_is (m n : Nat) (hm : m ≤ 9007199254740992) (hn : n ≤ 2000) (w : World) : Calls Try.prog 34 #[.int .u64 (m : Int), .int .i64 (n : Int)] w fun e w' => e = .returned (.int .u64 (rhe m n : Nat)) ∧ Later w w' := by
  by_cases h60 : 60 < n
  · have hd : decide ((60 : Int) < (n : Int)) = true := by simp; omega
    have hd2 : decide (60 < n) = true := by simpa using h60
    have hr : rhe m n = 0 := rhe_small m n (by
      have : 2 ^ 61 ≤ 2 ^ n := Nat.pow_le_pow_right (by omega) (by omega)
      omega)
    rw [hr]
    clear hr
    go_enter Try.func34, Try.ntmps34
    go_wp2_with fail
    go_ret
    exact ⟨rfl, by repeat (first | exact Later.refl _ | assumption | apply Later.alloc | apply Later.drew | apply Later.drewN | refine Later.trans ?_ (by assumption))⟩
  · have hd : decide ((60 : Int) < (n : Int)) = false := by simp; omega
    have hd2 : decide (60 < n) = false := by simpa using h60
    by_cases h0 : n = 0
    · subst h0
      rw [rhe_zero]
      go_enter Try.func34, Try.ntmps34
      go_wp2_with fail
      go_ret
      exact ⟨rfl, by repeat (first | exact Later.refl _ | assumption | apply Later.alloc | apply Later.drew | apply Later.drewN | refine Later.trans ?_ (by assumption))⟩
    · have hd3 : decide ((n : Int) ≤ 0) = false := by simp; omega
      have hd4 : decide (n ≤ 0) = false := by simp; omega
      have hd5 : decide (n = 0) = false := by simp; omega
      obtain ⟨k, hk⟩ : ∃ k, k + 1 = n := ⟨n - 1, by omega⟩
      have hkw : wrap64 ((n : Int) - 1) = (k : Int) := by simp only [wrap64]; omega
      obtain ⟨G, hG⟩ : ∃ G, 2 ^ n = G := ⟨_, rfl⟩
      obtain ⟨K, hK⟩ : ∃ K, 2 ^ k = K := ⟨_, rfl⟩
      have hGK : G = 2 * K := by rw [← hG, ← hK, ← hk, Nat.pow_succ, Nat.mul_comm]
      have hKb : 1 ≤ K ∧ K ≤ 2 ^ 59 := by
        rw [← hK]; exact ⟨Nat.one_le_two_pow, Nat.pow_le_pow_right (by omega) (by omega)⟩
      have hp1 : (2 : Int) ^ n = (G : Int) := by rw [← hG]; exact (Int.natCast_pow 2 n).symm
      have hp2 : (2 : Int) ^ k = (K : Int) := by rw [← hK]; exact (Int.natCast_pow 2 k).symm
      have hp3 : (2 : Int) ^ (n - 1) = (K : Int) := by rw [show n - 1 = k by omega]; exact hp2
      have hw1 : IntKind.u64.wrap (G : Int) = (G : Int) := by rw [IntKind.wrap_u64]; omega
      have hw2 : IntKind.u64.wrap (K : Int) = (K : Int) := by rw [IntKind.wrap_u64]; omega
      have hm1 : min n 64 = n := by omega
      have hm2 : min k 64 = k := by omega
      have hz : ((G : Int) == 0) = false := by simp; omega
      have hz2 : ¬ (G : Int) = 0 := by omega
      have hz3 : ¬ G = 0 := by omega
      obtain ⟨q, hq⟩ : ∃ q, m / G = q := ⟨_, rfl⟩
      obtain ⟨r, hr⟩ : ∃ r, m % G = r := ⟨_, rfl⟩
      have hq1 : (m : Int) / (G : Int) = (q : Int) := by rw [← hq]; exact (Int.natCast_ediv m G).symm
      have hr1 : (m : Int) % (G : Int) = (r : Int) := by rw [← hr]; exact (Int.natCast_emod m G).symm
      have hr2 : (m : Int).tmod (G : Int) = (r : Int) := by rw [Int.tmod_eq_emod_of_nonneg (by omega)]; exact hr1
      have hqb : q ≤ m := by rw [← hq]; exact Nat.div_le_self _ _
      have hw3 : IntKind.u64.wrap ((q : Int) + 1) = (q : Int) + 1 := by rw [IntKind.wrap_u64]; omega
      have hres : rhe m n = q + (if G < 2 * r ∨ (G = 2 * r ∧ q % 2 = 1) then 1 else 0) := by unfold rhe; rw [hG, hq, hr]
      rw [hres]
      have HX := Lib.hid (And.intro hG (And.intro hK (And.intro hq (And.intro hr hk))))
      clear hG hK hq hr hres hk h60
      by_cases h1 : K < r
      · have e1 : decide ((K : Int) < (r : Int)) = true := by simp; omega
        have e2 : decide (K < r) = true := by simp; omega
        rw [if_pos (by omega)]
        have HGK := Lib.hid hGK
        clear hGK
        go_enter Try.func34, Try.ntmps34
        go_wp2_with fail
        refine wp_region_quiet_below mixed (by kernel_rfl) ?_
        repeat (quiet_step (fail))
        with_reducible refine wpQuiet_nil ?_
        intro w3 hw3
        have hl3 : Later w w3 := by obtain ⟨p, rfl⟩ := hw3; exact below_regrown w p.d p.os
        clear hw3
        go_wp2_with fail
        go_ret
        exact ⟨rfl, hl3⟩
      · have e1 : decide ((K : Int) < (r : Int)) = false := by simp; omega
        have e2 : decide (K < r) = false := by simp; omega
        by_cases h2 : r = K
        · have e3 : ((r : Int) == (K : Int)) = true := by simp; omega
          have e4 : (r == K) = true := by simp; omega
          by_cases h3 : q % 2 = 1
          · have e5 : ((q : Int) % 2 == 1) = true := by simp; omega
            have e6 : (q % 2 == 1) = true := by simp; omega
            rw [if_pos (by omega)]
            have HK := Lib.hid (And.intro h1 (And.intro h2 h3))
            clear h1 h2 h3
            have HGK := Lib.hid hGK
            clear hGK
            go_enter Try.func34, Try.ntmps34
            go_wp2_with fail
            refine wp_region_quiet_below mixed (by kernel_rfl) ?_
            repeat (quiet_step (fail))
            with_reducible refine wpQuiet_nil ?_
            intro w3 hw3
            have hl3 : Later w w3 := by obtain ⟨p, rfl⟩ := hw3; exact below_regrown w p.d p.os
            clear hw3
            go_wp2_with fail
            go_ret
            exact ⟨rfl, hl3⟩
          · have e5 : ((q : Int) % 2 == 1) = false := by simp; omega
            have e6 : (q % 2 == 1) = false := by simp; omega
            rw [if_neg (by omega)]
            have HK := Lib.hid (And.intro h1 (And.intro h2 h3))
            clear h1 h2 h3
            have HGK := Lib.hid hGK
            clear hGK
            go_enter Try.func34, Try.ntmps34
            go_wp2_with fail
            refine wp_region_quiet_below mixed (by kernel_rfl) ?_
            repeat (quiet_step (fail))
            with_reducible refine wpQuiet_nil ?_
            intro w3 hw3
            have hl3 : Later w w3 := by obtain ⟨p, rfl⟩ := hw3; exact below_regrown w p.d p.os
            clear hw3
            go_wp2_with fail
            go_ret
            exact ⟨rfl, hl3⟩
        · have e3 : ((r : Int) == (K : Int)) = false := by simp; omega
          have e4 : (r == K) = false := by simp; omega
          rw [if_neg (by omega)]
          have HK := Lib.hid (And.intro h1 h2)
          clear h1 h2
          have HGK := Lib.hid hGK
          clear hGK
          go_enter Try.func34, Try.ntmps34
          go_wp2_with fail
          refine wp_region_quiet_below mixed (by kernel_rfl) ?_
          repeat (quiet_step (fail))
          with_reducible refine wpQuiet_nil ?_
          intro w3 hw3
          have hl3 : Later w w3 := by obtain ⟨p, rfl⟩ := hw3; exact below_regrown w p.d p.os
          clear hw3
          go_wp2_with fail
          go_ret
          exact ⟨rfl, hl3⟩
set_option maxRecDepth 100000 in
set_option maxHeartbeats 1000000 in
theorem number_is (m p : Nat) (hm : m ≤ 9007199254740992) (hp : p ≤ 1100) (h : 4503599627370496 ≤ m ∨ p = 0) (e : Int) (he : e = (p : Int) - 1074) (w : World) :
    Calls Try.prog 35 #[.int .u64 (m : Int), .int .i64 e] w fun en w' => en = .returned (.float .f64 (p * 4503599627370496 + m)) ∧ Later w w' := by
  by_cases h1 : m < 4503599627370496
  · obtain rfl : p = 0 := by omega
    have d7 : decide ((-1074 : Int) < e) = false := by simp; omega
    have HE := Lib.hid he
    clear he
    have hf := frombits_run m
    have d1 : decide ((m : Int) < 4503599627370496) = true := by simp; omega
    have d2 : decide (m < 4503599627370496) = true := by simpa using h1
    have d3 : ((m : Int) == 9007199254740992) = false := by simp; omega
    have d4 : (m == 9007199254740992) = false := by simp; omega
    rw [Nat.zero_mul, Nat.zero_add]
    by_cases h0 : m = 0
    · subst h0
      clear hf d1 d2 d3 d4
      have hf : ∀ w : World, (callFunc 11 #[.int .u64 0]).run Try.prog w = .ok (.value (.float .f64 0)) w := frombits_run 0
      go_enter Try.func35, Try.ntmps35
      go_wp2_with fail
      refine wp_loop_rounds 1 ?_
      rw [rounds_succ]
      go_wp2_with fail
      go_ret
      exact ⟨rfl, by repeat (first | exact Later.refl _ | assumption | apply Later.alloc | apply Later.drew | apply Later.drewN | refine Later.trans ?_ (by assumption))⟩
    · have d5 : decide ((0 : Int) < (m : Int)) = true := by simp; omega
      have d6 : decide (0 < m) = true := by simp; omega
      go_enter Try.func35, Try.ntmps35
      go_wp2_with fail
      refine wp_loop_rounds 1 ?_
      rw [rounds_succ]
      go_wp2_with fail
      go_ret
      exact ⟨rfl, by repeat (first | exact Later.refl _ | assumption | apply Later.alloc | apply Later.drew | apply Later.drewN | refine Later.trans ?_ (by assumption))⟩
  · have d1 : decide ((m : Int) < 4503599627370496) = false := by simp; omega
    have d2 : decide (m < 4503599627370496) = false := by simpa using h1
    have d5 : decide ((0 : Int) < (m : Int)) = true := by simp; omega
    have d6 : decide (0 < m) = true := by simp; omega
    by_cases h2 : m = 9007199254740992
    · subst h2
      have hf := frombits_run (p * 4503599627370496 + 9007199254740992)
      have hr : (((p * 4503599627370496 + 9007199254740992 : Nat)) : Int) = ((p : Int) + 2) * 4503599627370496 := by omega
      rw [hr] at hf
      have a1 : wrap64 (e + 1) = (p : Int) - 1073 := by simp only [wrap64]; omega
      have a2 : wrap64 ((p : Int) - 1073 + 1075) = (p : Int) + 2 := by simp only [wrap64]; omega
      have a3 : IntKind.u64.wrap ((p : Int) + 2) = (p : Int) + 2 := by rw [IntKind.wrap_u64]; omega
      have a4 : IntKind.u64.wrap (((p : Int) + 2) * 4503599627370496) = ((p : Int) + 2) * 4503599627370496 := by rw [IntKind.wrap_u64]; omega
      have hf2 : ∀ w : World, (callFunc 11 #[.int .u64 (((p : Int) - 1073 + 1075) * 4503599627370496)]).run Try.prog w = .ok (.value (.float .f64 (p * 4503599627370496 + 9007199254740992))) w := fun w => by
        rw [show ((p : Int) - 1073 + 1075) = (p : Int) + 2 by omega]; exact hf w
      clear he hr h1 d1 d2 d5 d6 h hm
      go_enter Try.func35, Try.ntmps35
      go_wp2_with fail
      refine wp_loop_rounds 1 ?_
      rw [rounds_succ]
      go_wp2_with fail
      go_ret
      exact ⟨rfl, by repeat (first | exact Later.refl _ | assumption | apply Later.alloc | apply Later.drew | apply Later.drewN | refine Later.trans ?_ (by assumption))⟩
    · have d3 : ((m : Int) == 9007199254740992) = false := by simp; omega
      have d4 : (m == 9007199254740992) = false := by simpa using h2
      have hf := frombits_run (p * 4503599627370496 + m)
      have hr : (((p * 4503599627370496 + m : Nat)) : Int) = (m : Int) - 4503599627370496 + ((p : Int) + 1) * 4503599627370496 := by omega
      rw [hr] at hf
      have a1 : IntKind.u64.wrap ((m : Int) - 4503599627370496) = (m : Int) - 4503599627370496 := by rw [IntKind.wrap_u64]; omega
      have a2 : wrap64 (e + 1075) = (p : Int) + 1 := by simp only [wrap64]; omega
      have a3 : IntKind.u64.wrap ((p : Int) + 1) = (p : Int) + 1 := by rw [IntKind.wrap_u64]; omega
      have a4 : IntKind.u64.wrap (((p : Int) + 1) * 4503599627370496) = ((p : Int) + 1) * 4503599627370496 := by rw [IntKind.wrap_u64]; omega
      have a5 : IntKind.u64.wrap ((m : Int) - 4503599627370496 + ((p : Int) + 1) * 4503599627370496) = (m : Int) - 4503599627370496 + ((p : Int) + 1) * 4503599627370496 := by rw [IntKind.wrap_u64]; omega
      have HX := Lib.hid (And.intro h1 h2)
      clear he hr h1 h2 h
      go_enter Try.func35, Try.ntmps35
      go_wp2_with fail
      refine wp_loop_rounds 1 ?_
      rw [rounds_succ]
      go_wp2_with fail
      go_ret
      exact ⟨rfl, by repeat (first | exact Later.refl _ | assumption | apply Later.alloc | apply Later.drew | apply Later.drewN | refine Later.trans ?_ (by assumption))⟩

set_option maxHeartbeats 2000000 in
/-- the reference's next part is the program's -/
theorem refnext_of (y x : Nat) (hx : x ≤ W2) (hW : ∀ w, Calls Try.prog 33 #[.float .f64 y] w fun e w' => e = .returned (.tuple #[.int .u64 (magW x : Nat), .int .i64 ((plcW x : Int) - 1074)]) ∧ w = w') (more : Bool) (w : World) : Calls Try.prog 29 #[.float .f64 y, .bool more] w fun e w' => e = .returned (.float .f64 (nxW x (if more then W1 else 0))) ∧ Later w w' := by
  have hin := hM_in x
  have hh := half_word x hx
  have hv : hvW x = hP x * 4503599627370496 + hM x := by unfold hvW; rw [hh.1]; rfl
  have hle := half_le1 x hx
  have h0 : nxW x 0 = hP x * 4503599627370496 + hM x := by unfold nxW; rw [hv, add0_word _ hle]; rfl
  have h1 := add1_word x hx
  have h1' : nxW x W1 = 1022 * 4503599627370496 + (4503599627370496 + rhe (hM x) (1022 - hP x)) := by unfold nxW; rw [hv, h1.1]; rfl
  have hpl := plc_two hx
  have hPd : hP x = plcW x - 1 := rfl
  have hq := h1.2
  have hs1 := fun w => shifted_is (magW x) 1 (by have := magW_lt x; omega) (by omega) w
  have hs2 := fun w => shifted_is (hM x) (1022 - hP x) (by omega) (by omega) w
  have hn0 := fun e he w => number_is (hM x) (hP x) (by omega) (by omega) hin.2 e he w
  have hn1 := fun w => number_is (4503599627370496 + rhe (hM x) (1022 - hP x)) 1022 (by omega) (by omega) (.inl (by omega)) (-52) (by omega) w
  have hmd : plcW x = 0 → rhe (magW x) 1 = hM x := fun h => by unfold hM; rw [if_pos h, (small_of_plc h).2]
  have hme : plcW x ≠ 0 → magW x = hM x := fun h => by unfold hM; rw [if_neg h]
  obtain ⟨P, hP'⟩ : ∃ P, hP x = P := ⟨_, rfl⟩
  obtain ⟨m, hm'⟩ : ∃ m, hM x = m := ⟨_, rfl⟩
  rw [hP', hm'] at hs2 hn0 hn1 h0 h1' hq hin
  rw [hm'] at hmd hme
  rw [hP'] at hPd
  clear hh hv hle h1 hP' hm'
  obtain ⟨r, hr⟩ : ∃ r, rhe m (1022 - P) = r := ⟨_, rfl⟩
  rw [hr] at hs2 hn1 h1' hq
  have HW := Lib.hid hW
  clear hW
  have HS1 := Lib.hid hs1
  have HS2 := Lib.hid hs2
  have HN0 := Lib.hid hn0
  have HN1 := Lib.hid hn1
  have HR := Lib.hid (And.intro h0 h1')
  clear hs1 hs2 hn0 hn1 h0 h1' hr hin
  have hwr : IntKind.u64.wrap (4503599627370496 + (r : Int)) = 4503599627370496 + (r : Int) := by rw [IntKind.wrap_u64]; omega
  by_cases hp : plcW x = 0
  · have hM1 := hmd hp
    rw [hM1] at HS1
    have hP0 : P = 0 := by omega
    rw [hp] at HW
    clear hmd hme hpl hPd hp hM1
    cases more
    · have HPz := Lib.hid hP0
      clear hP0
      go_enter Try.func29, Try.ntmps29
      go_wp2_with fail
      refine (HW.out _).mono ?_
      rintro e w1 ⟨rfl, rfl⟩
      go_wp2_with fail
      refine (HS1.out _).mono ?_
      rintro e w2 ⟨rfl, hl2⟩
      go_wp2_with fail
      refine (HN0.out _ (by have := HPz.out; omega) _).mono ?_
      rintro e w3 ⟨rfl, hl3⟩
      have hl4 := hl2.trans hl3
      clear hl3
      go_wp2_with fail
      go_ret
      exact ⟨by rw [← HR.out.1]; rfl, hl4⟩
    · go_enter Try.func29, Try.ntmps29
      go_wp2_with fail
      refine (HW.out _).mono ?_
      rintro e w1 ⟨rfl, rfl⟩
      go_wp2_with fail
      refine (HS1.out _).mono ?_
      rintro e w2 ⟨rfl, hl2⟩
      subst hP0
      go_wp2_with fail
      refine (HS2.out _).mono ?_
      rintro e w3 ⟨rfl, hl3⟩
      have hl23 := hl2.trans hl3
      clear hl2 hl3
      go_wp2_with fail
      refine (HN1.out _).mono ?_
      rintro e w4 ⟨rfl, hl4⟩
      have hl5 := hl23.trans hl4
      clear hl4
      go_wp2_with fail
      go_ret
      exact ⟨by rw [← HR.out.2]; rfl, hl5⟩
  · have hM1 := hme hp
    rw [hM1] at HW
    obtain ⟨q, hq'⟩ : ∃ q, plcW x = q := ⟨_, rfl⟩
    rw [hq'] at HW hp hpl hPd
    have hd1 : decide ((-1074 : Int) < (q : Int) - 1074) = true := by simp; omega
    have hK : ((1022 - P : Nat) : Int) = -52 - ((q : Int) - 1074 - 1) := by omega
    have HPD := Lib.hid hPd
    have hq2 : (q : Int) ≤ 1023 := by omega
    have hq1 : (1 : Int) ≤ q := by omega
    rw [hK] at HS2
    clear hmd hme hM1 hq' HS1 hK hPd hp hpl hx
    cases more
    · go_enter Try.func29, Try.ntmps29
      go_wp2_with fail
      refine (HW.out _).mono ?_
      rintro e w1 ⟨rfl, rfl⟩
      go_wp2_with fail
      refine (HN0.out ((q : Int) - 1074 - 1) (by have := HPD.out; omega) _).mono ?_
      rintro e w3 ⟨rfl, hl3⟩
      go_wp2_with fail
      go_ret
      exact ⟨by rw [← HR.out.1]; rfl, hl3⟩
    · go_enter Try.func29, Try.ntmps29
      go_wp2_with fail
      refine (HW.out _).mono ?_
      rintro e w1 ⟨rfl, rfl⟩
      go_wp2_with fail
      refine (HS2.out _).mono ?_
      rintro e w3 ⟨rfl, hl3⟩
      go_wp2_with fail
      refine (HN1.out _).mono ?_
      rintro e w4 ⟨rfl, hl4⟩
      have hl5 := hl3.trans hl4
      clear hl4
      go_wp2_with fail
      go_ret
      exact ⟨by rw [← HR.out.2]; rfl, hl5⟩
theorem refnext_is (x : Nat) (hx : x ≤ W2) (more : Bool) (w : World) : Calls Try.prog 29 #[.float .f64 x, .bool more] w fun e w' => e = .returned (.float .f64 (nxW x (if more then W1 else 0))) ∧ Later w w' :=
  refnext_of x x hx (fun w => whole_is x hx w) more w
end Go.Proofs.Ytmjpjjnhlgidcaa
