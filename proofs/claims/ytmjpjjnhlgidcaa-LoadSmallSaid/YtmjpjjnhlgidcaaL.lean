/-
  Layer 15: the law LoadRuns, walked. Conditions: none.
-/
import Derived.Test.YtmjpjjnhlgidcaaK
import Derived.Test.YtmjpjjnhlgidcaaE
namespace Go.Proofs.Ytmjpjjnhlgidcaa
open Go.RowKit Go.Sort
set_option linter.unusedSimpArgs false
set_option linter.unusedVariables false

theorem eq_self (a b : Nat) (ha : a ≤ W2) (hb : b ≤ W2) (W : World) : (binOp .eql 24 (.complex .f64 a b) (.complex .f64 a b)).run Try.prog W = .ok (.bool true) W := by
  have o1 := order_self a ha
  have o2 := order_self b hb
  go_simp
theorem refOf_nil (w : World) : Calls Try.prog 10 #[.slice none 0 0] w fun e w' => e = .returned (.complex .f64 0 0) ∧ Later w w' := by
  go_enter Try.func10, Try.ntmps10
  go_wp2_with fail
  refine wp_loop_rounds 1 ?_
  rw [rounds_succ]
  go_wp2_with fail
  go_ret
  exact ⟨rfl, Later.refl _⟩
theorem Of_zero (a : Addr) (cap : Nat) (w : World) : Calls Try.prog 9 #[.slice (some a) 0 cap] w fun e w' => e = .returned (.complex .f64 0 0) ∧ Later w w' := by
  go_enter Try.func9, Try.ntmps9
  go_wp2_with fail
  refine wp_loop_rounds 1 ?_
  rw [rounds_succ]
  go_wp2_with fail
  go_ret
  exact ⟨rfl, by repeat (first | exact Later.refl _ | assumption | apply Later.alloc | apply Later.drew | apply Later.drewN | refine Later.trans ?_ (by assumption))⟩
theorem refOf_zero (a : Addr) (cap : Nat) (w : World) : Calls Try.prog 10 #[.slice (some a) 0 cap] w fun e w' => e = .returned (.complex .f64 0 0) ∧ Later w w' := by
  go_enter Try.func10, Try.ntmps10
  go_wp2_with fail
  refine wp_loop_rounds 1 ?_
  rw [rounds_succ]
  go_wp2_with fail
  go_ret
  exact ⟨rfl, Later.refl _⟩
set_option maxRecDepth 100000 in
set_option maxHeartbeats 2000000 in
theorem runs_nil (w : World) : Calls Try.prog 3 #[.slice none 0 0] w fun e w' => e = .returned (.bool true) ∧ Later w w' := by
  have q6 := eq_self 0 0 (by decide) (by decide)
  go_enter Try.func3, Try.ntmps3
  go_wp2_with fail
  refine wp_loop_rounds 1 ?_
  rw [rounds_succ]
  go_wp2_with fail
  refine (Of_nil _).mono ?_
  rintro e w1 ⟨rfl, hl1⟩
  go_wp2_with fail
  refine (refOf_nil _).mono ?_
  rintro e w2 ⟨rfl, hl2⟩
  go_wp2_with fail
  refine (awake_is _).mono ?_
  rintro e w3 ⟨rfl, hl3⟩
  go_wp2_with fail
  go_ret
  exact ⟨rfl, hl1.trans (hl2.trans hl3)⟩
set_option maxRecDepth 100000 in
set_option maxHeartbeats 2000000 in
theorem runs_zero (a : Addr) (cap : Nat) (w : World) : Calls Try.prog 3 #[.slice (some a) 0 cap] w fun e w' => e = .returned (.bool true) ∧ Later w w' := by
  have q6 := eq_self 0 0 (by decide) (by decide)
  go_enter Try.func3, Try.ntmps3
  go_wp2_with fail
  refine wp_loop_rounds 1 ?_
  rw [rounds_succ]
  go_wp2_with fail
  refine (Of_zero a cap _).mono ?_
  rintro e w1 ⟨rfl, hl1⟩
  go_wp2_with fail
  refine (refOf_zero a cap _).mono ?_
  rintro e w2 ⟨rfl, hl2⟩
  go_wp2_with fail
  refine (awake_is _).mono ?_
  rintro e w3 ⟨rfl, hl3⟩
  go_wp2_with fail
  go_ret
  exact ⟨rfl, hl1.trans (hl2.trans hl3)⟩
theorem wrap_step (k : Nat) (h : k ≤ 4000000000000000000) : wrap64 ((k : Int) + 1) = (k : Int) + 1 := by
  unfold wrap64; omega
set_option maxRecDepth 100000 in
set_option maxHeartbeats 2000000 in
theorem runs_is (b o : Nat) (l : List Int) (cap : Nat) (w : World) (hB : b < w.heap.size)
    (hc : ∀ i, i < l.length → w.cell? ⟨b, o + i, none⟩ = some (.int .i64 (l.getD i 0))) :
    Calls Try.prog 3 #[.slice (some ⟨b, o, none⟩) l.length cap] w fun e w' => e = .returned (.bool true) ∧ Later w w' := by
  have HC := Lib.hid (And.intro hB hc)
  have HO1 := Lib.hid (fun (h : l.length ≤ 1300) (wr : World) (hl : Later w wr) => Of_is b o l cap (by omega) wr (Nat.lt_of_lt_of_le hB hl.size) (fun i hi => cell_at hl (hc i hi) hB))
  have HO2 := Lib.hid (fun (h : l.length ≤ 1300) (wr : World) (hl : Later w wr) => refOf_is b o l cap h wr (Nat.lt_of_lt_of_le hB hl.size) (fun i hi => cell_at hl (hc i hi) hB))
  clear hB hc
  obtain ⟨N, hN⟩ : ∃ N, l.length = N := ⟨_, rfl⟩
  rw [hN] at HC HO1 HO2 ⊢
  by_cases hbig : 1300 < N
  · have hd1 : decide ((1300 : Int) < (N : Int)) = true := by simp; omega
    have hd2 : decide (1300 < N) = true := by simp; omega
    clear hN
    go_enter Try.func3, Try.ntmps3
    go_wp2_with fail
    refine (awake_is _).mono ?_
    rintro e w3 ⟨rfl, hl3⟩
    go_wp2_with fail
    go_ret
    exact ⟨rfl, hl3⟩
  · have hd1 : decide ((1300 : Int) < (N : Int)) = false := by simp; omega
    have hd2 : decide (1300 < N) = false := by simp; omega
    go_enter Try.func3, Try.ntmps3
    go_wp2_with fail
    go_loopw [3, 4, 5] (fun s3 s4 s5 wr => ∃ k p q : Nat, k ≤ N ∧ p ≤ W2 ∧ q ≤ W2 ∧ s3 = .complex .f64 (ldR (l.take k)) (ldI (l.take k)) ∧ s4 = .complex .f64 p q ∧ s5 = .int .i64 k ∧ Later w wr) (fun _ _ s5 _ => N - (RowKit.intOf s5).toNat)
    case atStart => exact ⟨0, 0, 0, by omega, by omega, by omega, rfl, rfl, rfl, Later.refl _⟩
    case round =>
      obtain ⟨k, p, q, hk, hp, hq, rfl, rfl, rfl, hl⟩ := hrel
      rename World => wk
      have hA := ldR_le (l.take k)
      have hBb := ldI_le (l.take k)
      clear hd1 hd2
      by_cases hlt : k < N
      · have hkl : (k : Int) < (N : Int) := by omega
        have hk0 : (0 : Int) ≤ (k : Int) := by omega
        have hd1 : decide ((k : Int) < (N : Int)) = true := by simp; omega
        have hd2 : decide (k < N) = true := by simp; omega
        obtain ⟨d, hd⟩ : ∃ d, l.getD k 0 = d := ⟨_, rfl⟩
        have htk : l.take (k + 1) = l.take k ++ [d] := by
          rw [List.take_succ_eq_append_getElem (by omega)]
          congr 2
          rw [← hd, List.getD_eq_getElem?_getD, List.getElem?_eq_getElem (by omega)]; rfl
        have hR : ldR (l.take (k + 1)) = nextR (ldR (l.take k)) d := by rw [htk, ldR, List.foldl_append]; rfl
        have hI : ldI (l.take (k + 1)) = nextI (ldI (l.take k)) d := by rw [htk, ldI, List.foldl_append]; rfl
        have HRI := Lib.hid (And.intro hR hI)
        have HD := Lib.hid (And.intro hd hlt)
        clear hR hI htk hd hlt
        generalize ldR (l.take k) = A at *
        generalize ldI (l.take k) = B at *
        have c1 : wk.cell? ⟨b, o + k, none⟩ = some (.int .i64 d) := by rw [← HD.out.1]; exact cell_at hl (HC.out.2 k HD.out.2) HC.out.1
        have HL := Lib.hid hl
        have HPQ := Lib.hid (And.intro hp (And.intro hq (And.intro hA (And.intro hBb (And.intro hN (And.intro hbig hk))))))
        clear hl hp hq hA hBb hN hbig hk
        go_wp2_with fail
        refine (Next_is A B d HPQ.out.2.2.1 HPQ.out.2.2.2.1 _).mono ?_
        rintro e w2 ⟨rfl, hl2⟩
        have HL2 := Lib.hid (HL.out.trans hl2)
        have c2 : w2.cell? ⟨b, o + k, none⟩ = some (.int .i64 d) := cell_at hl2 c1 (block_lt_of_cell c1)
        clear hl2 HL c1
        go_wp2_with fail
        refine (one_is A B d HPQ.out.2.2.1 HPQ.out.2.2.2.1 _).mono ?_
        rintro e w3 ⟨rfl, hl3⟩
        have HL3 := Lib.hid (HL2.out.trans hl3)
        clear hl3 HL2 c2
        by_cases hz : k % 16 = 0
        · have hm : (k : Int) % 16 = 0 := by omega
          have HZ := Lib.hid hz
          clear hz
          go_wp2_with fail
          refine (two_is A B p q HPQ.out.2.2.1 HPQ.out.2.2.2.1 HPQ.out.1 HPQ.out.2.1 _).mono ?_
          rintro e w4 ⟨rfl, hl4⟩
          have HL4 := Lib.hid (HL3.out.trans hl4)
          clear hl4 HL3
          go_wp2_with fail
          have hb := HPQ.out.2.2.2.2.2.1
          have hw1 : wrap64 ((k : Int) + 1) = (k : Int) + 1 := wrap_step k (by omega)
          rw [hw1]
          refine ⟨⟨k + 1, A, B, by omega, HPQ.out.2.2.1, HPQ.out.2.2.2.1, by rw [HRI.out.1, HRI.out.2], rfl, by rw [Int.natCast_add]; rfl, HL4.out⟩, ?_⟩
          show N - ((k : Int) + 1).toNat < N - ((k : Int)).toNat
          omega
        · have hm1 : (k : Int) % 16 = ((k % 16 : Nat) : Int) := by omega
          obtain ⟨m, hmk⟩ : ∃ m, k % 16 = m := ⟨_, rfl⟩
          rw [hmk] at hm1 hz
          have hm2 : ((m : Int) == 0) = false := by simp; omega
          have hm3 : (m == 0) = false := by simp; omega
          have hm4 : wrap64 (m : Int) = (m : Int) := by unfold wrap64; omega
          have HZ := Lib.hid (And.intro hmk hz)
          clear hmk hz
          go_wp2_with fail
          have hb := HPQ.out.2.2.2.2.2.1
          have hw1 : wrap64 ((k : Int) + 1) = (k : Int) + 1 := wrap_step k (by omega)
          rw [hw1]
          refine ⟨⟨k + 1, A, B, by omega, HPQ.out.2.2.1, HPQ.out.2.2.2.1, by rw [HRI.out.1, HRI.out.2], rfl, by rw [Int.natCast_add]; rfl, HL3.out⟩, ?_⟩
          show N - ((k : Int) + 1).toNat < N - ((k : Int)).toNat
          omega
      · obtain rfl : N = k := by omega
        have hd1 : decide ((N : Int) < (N : Int)) = false := by simp
        have eT : l.take N = l := by rw [← hN]; exact List.take_length
        rw [eT] at hA hBb ⊢
        have hN' : N ≤ 1300 := by omega
        have HX := Lib.hid (And.intro hN (And.intro hbig (And.intro hk (And.intro hlt eT))))
        clear hN hbig hk hlt eT
        have q6 := eq_self (ldR l) (ldI l) hA hBb
        generalize ldR l = A at *
        generalize ldI l = B at *
        have HH := Lib.hid (And.intro hA (And.intro hBb (And.intro hp (And.intro hq hN'))))
        clear hA hBb hp hq hN'
        go_wp2_with fail
        refine (HO1.out HH.out.2.2.2.2 _ hl).mono ?_
        rintro e w1 ⟨rfl, hl1⟩
        have hL1 := hl.trans hl1
        clear hl hl1
        go_wp2_with fail
        refine (HO2.out HH.out.2.2.2.2 _ hL1).mono ?_
        rintro e w2 ⟨rfl, hl2⟩
        have hL2 := hL1.trans hl2
        clear hL1 hl2
        go_wp2_with fail
        refine (awake_is _).mono ?_
        rintro e w3 ⟨rfl, hl3⟩
        go_wp2_with fail
        go_ret
        exact ⟨rfl, hL2.trans hl3⟩
end Go.Proofs.Ytmjpjjnhlgidcaa
