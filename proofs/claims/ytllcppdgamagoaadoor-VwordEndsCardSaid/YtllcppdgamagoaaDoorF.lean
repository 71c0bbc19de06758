/-
  The laws VwordOnce and VwordTells, walked. Conditions: the numbers are 64-bit numbers; the table of powers of ten reads as laid.
-/
import Derived.Test.YtllcppdgamagoaaDoorE

namespace Go.Proofs.YtllcppdgamagoaaDoor
open Go.RowKit Go.Sort Go.Lib
theorem awake_any (w : World) (htab : Tab w) :
    Calls Tryd.prog 8 #[] w fun e w' => e = .returned (.bool true) ∧ Later w w' := by
  have hs : (⟨(showL 1 true true).toArray⟩ : ByteArray) = ⟨#[49, 43, 120]⟩ := by
    rw [showL, Lib.decDigits_one (by omega)]; rfl
  have HS := Lib.hid hs
  clear hs
  go_enter Tryd.func8, Tryd.ntmps8
  go_wp2_with fail
  refine (Lock_yes _ _ (by omega) (by omega) (by omega)).mono ?_
  rintro e w1 ⟨rfl, hb1⟩
  go_wp2_with fail
  refine (Drop_yes _ _ (by omega) (by omega) (by omega)).mono ?_
  rintro e w2 ⟨rfl, hb2⟩
  go_wp2_with fail
  refine (Done_yes _ 4 _ (by omega) (by omega) (by omega) (by decide)).mono ?_
  rintro e w3 ⟨rfl, hb3⟩
  go_wp2_with fail
  refine (Kill_yes _ 4 _ (by omega) (by omega) (by omega) (by decide) (by omega) (by omega) (by omega)).mono ?_
  rintro e w4 ⟨rfl, hb4⟩
  go_wp2_with fail
  refine (Version_any _ _ (by omega) (by omega)).mono ?_
  rintro e w5 ⟨rfl, hb5⟩
  go_wp2_with fail
  refine (Dead_is _ true _ (by omega) (by omega) (by decide)).mono ?_
  rintro e w6 ⟨rfl, hb6⟩
  go_wp2_with fail
  refine (Free_is _ false _ (by omega) (by omega) (by decide)).mono ?_
  rintro e w7 ⟨rfl, hb7⟩
  go_wp2_with fail
  refine (Show_any _ 1 true true _ (by omega) (by omega) (by decide) (by decide) (by decide) (htab.later (((((((hb1.trans hb2).trans hb3).trans hb4).trans hb5).trans hb6).trans hb7)))).mono ?_
  rintro e w8 ⟨rfl, hb8⟩
  rw [HS.out]
  go_wp2_with fail
  go_ret
  exact ⟨rfl, by repeat (first | exact Later.refl _ | assumption | refine Later.trans ?_ (by assumption))⟩

theorem VwordTells_any (a v : Int) (p q : Bool) (w : World) (h0 : 0 ≤ a) (h1 : a ≤ 18446744073709551615) (v0 : 0 ≤ v) (v1 : v ≤ 18446744073709551615) (htab : Tab w) :
    Calls Tryd.prog 4 #[.int .u64 a, .int .u64 v, .bool p, .bool q] w fun e w' => e = .returned (.bool true) ∧ Later w w' := by
  obtain ⟨m, hm⟩ : ∃ m, v % 4611686018427387904 = m := ⟨_, rfl⟩
  have m0 : 0 ≤ m := by omega
  have m1 : m ≤ 4611686018427387903 := by omega
  obtain ⟨r, hr⟩ : ∃ r, r = wd m p q := ⟨_, rfl⟩
  have HR := Lib.hid hr
  clear hr
  by_cases c : v ≤ 4611686018427387903
  · obtain ⟨s, hs⟩ : ∃ s, s = wd v p q := ⟨_, rfl⟩
    have HS := Lib.hid hs
    clear hs
    go_enter Tryd.func4, Tryd.ntmps4
    go_wp2_with fail
    refine (New_ok _ s _ _ _ v0 c HS.out).mono ?_
    rintro e w1 ⟨rfl, hb1⟩
    go_wp2_with fail
    refine (refNew_ok _ s _ _ _ v0 c HS.out).mono ?_
    rintro e w2 ⟨rfl, hb2⟩
    go_wp2_with fail
    refine (New_ok _ r _ _ _ m0 m1 HR.out).mono ?_
    rintro e w3 ⟨rfl, hb3⟩
    go_wp2_with fail
    refine (refNew_ok _ r _ _ _ m0 m1 HR.out).mono ?_
    rintro e w4 ⟨rfl, hb4⟩
    go_wp2_with fail
    refine (tells_any _ _ h0 h1 (htab.later (((hb1.trans hb2).trans hb3).trans hb4))).mono ?_
    rintro e w5 ⟨rfl, hb5⟩
    go_wp2_with fail
    refine (awake_any _ (htab.later ((((hb1.trans hb2).trans hb3).trans hb4).trans hb5))).mono ?_
    rintro e w6 ⟨rfl, hb6⟩
    go_wp2_with fail
    go_ret
    exact ⟨rfl, by repeat (first | exact Later.refl _ | assumption | refine Later.trans ?_ (by assumption))⟩
  · have c' : 4611686018427387904 ≤ v := by omega
    go_enter Tryd.func4, Tryd.ntmps4
    go_wp2_with fail
    refine (New_big _ _ _ _ c').mono ?_
    rintro e w1 ⟨rfl, hb1⟩
    go_wp2_with fail
    refine (refNew_big _ _ _ _ c').mono ?_
    rintro e w2 ⟨rfl, hb2⟩
    go_wp2_with fail
    refine (New_ok _ r _ _ _ m0 m1 HR.out).mono ?_
    rintro e w3 ⟨rfl, hb3⟩
    go_wp2_with fail
    refine (refNew_ok _ r _ _ _ m0 m1 HR.out).mono ?_
    rintro e w4 ⟨rfl, hb4⟩
    go_wp2_with fail
    refine (tells_any _ _ h0 h1 (htab.later (((hb1.trans hb2).trans hb3).trans hb4))).mono ?_
    rintro e w5 ⟨rfl, hb5⟩
    go_wp2_with fail
    refine (awake_any _ (htab.later ((((hb1.trans hb2).trans hb3).trans hb4).trans hb5))).mono ?_
    rintro e w6 ⟨rfl, hb6⟩
    go_wp2_with fail
    go_ret
    exact ⟨rfl, by repeat (first | exact Later.refl _ | assumption | refine Later.trans ?_ (by assumption))⟩

set_option maxRecDepth 100000 in
theorem VwordOnce_not (a : Int) (w : World) (h0 : 0 ≤ a) (h1 : a ≤ 18446744073709551615) (h : ¬ a % 4 = 0) (htab : Tab w) :
    Calls Tryd.prog 3 #[.int .u64 a] w fun e w' => e = .returned (.bool true) ∧ Later w w' := by
  have H := Lib.hid h
  by_cases c : a % 4 = 1
  · have H1 := Lib.hid c
    obtain ⟨d, hd⟩ : ∃ d, d = 4 * ((a / 4 + 1) % 4611686018427387904) := ⟨_, rfl⟩
    have HW := Lib.hid (wrap_done a d c hd)
    have F1 := Lib.hid (show decide (a % 4 = 0) = false by simp; omega)
    have F2 := Lib.hid (show decide (a % 2 = 1) = true by simp; omega)
    have F3 := Lib.hid (show decide (a / 2 % 2 = 1) = false by simp; omega)
    clear c h hd
    go_enter Tryd.func3, Tryd.ntmps3
    go_wp2_with fail
    refine (awake_any _ htab).mono ?_
    rintro e w1 ⟨rfl, hb1⟩
    go_wp2_with (first | (go_at_call 9; refine (Lock_no _ _ h0 h1 H.out).mono ?_; rintro e w2 ⟨rfl, hb2⟩) | (go_at_call 10; refine (Free_is _ _ _ h0 h1 F1.out).mono ?_; rintro e w2 ⟨rfl, hb2⟩) | (go_at_call 11; refine (Done_yes _ _ _ h0 h1 H1.out HW.out).mono ?_; rintro e w2 ⟨rfl, hb2⟩)| (go_at_call 12; refine (Locked_is _ _ _ h0 h1 F2.out).mono ?_; rintro e w2 ⟨rfl, hb2⟩)| (go_at_call 13; refine (Dead_is _ _ _ h0 h1 F3.out).mono ?_; rintro e w2 ⟨rfl, hb2⟩))
    go_ret
    exact ⟨rfl, by repeat (first | exact Later.refl _ | assumption | refine Later.trans ?_ (by assumption))⟩
  · have H1 := Lib.hid c
    have F1 := Lib.hid (show decide (a % 4 = 0) = false by simp; omega)
    have F3 := Lib.hid (show decide (a / 2 % 2 = 1) = true by simp; omega)
    clear c h
    go_enter Tryd.func3, Tryd.ntmps3
    go_wp2_with fail
    refine (awake_any _ htab).mono ?_
    rintro e w1 ⟨rfl, hb1⟩
    go_wp2_with (first | (go_at_call 9; refine (Lock_no _ _ h0 h1 H.out).mono ?_; rintro e w2 ⟨rfl, hb2⟩) | (go_at_call 10; refine (Free_is _ _ _ h0 h1 F1.out).mono ?_; rintro e w2 ⟨rfl, hb2⟩) | (go_at_call 11; refine (Done_no _ _ h0 h1 H1.out).mono ?_; rintro e w2 ⟨rfl, hb2⟩)| (go_at_call 13; refine (Dead_is _ _ _ h0 h1 F3.out).mono ?_; rintro e w2 ⟨rfl, hb2⟩))
    go_ret
    exact ⟨rfl, by repeat (first | exact Later.refl _ | assumption | refine Later.trans ?_ (by assumption))⟩

set_option maxRecDepth 100000 in
theorem VwordOnce_free (a : Int) (w : World) (h0 : 0 ≤ a) (h1 : a ≤ 18446744073709551615) (h : a % 4 = 0) (htab : Tab w) :
    Calls Tryd.prog 3 #[.int .u64 a] w fun e w' => e = .returned (.bool true) ∧ Later w w' := by
  obtain ⟨d, hd⟩ : ∃ d, d = 4 * (((a + 1) / 4 + 1) % 4611686018427387904) := ⟨_, rfl⟩
  have HW := Lib.hid (wrap_done (a + 1) d (by omega) hd)
  have g0 : 0 ≤ d := by omega
  have g1 : d ≤ 18446744073709551612 := by omega
  have e1 : (d == a) = false := by simp; omega
  have e2 : (d == a + 1) = false := by simp; omega
  have e3 : (d + 2 == a) = false := by simp; omega
  obtain ⟨n, hn⟩ : ∃ n, (a / 4 + 1) % 4611686018427387904 = n := ⟨_, rfl⟩
  have q1 : ((a + 1) / 4 == a / 4) = true := by simp; omega
  have q2 : (d / 4 == n) = true := by simp; omega
  have q3 : ((d + 2) / 4 == n) = true := by simp; omega
  have H := Lib.hid h
  have HD := Lib.hid hd
  have i1 : a + 1 ≤ 18446744073709551615 := by omega
  have i2 : d % 4 = 0 := by omega
  have I2 := Lib.hid i2
  have F0 := Lib.hid (show decide (a % 4 = 0) = true by simp; omega)
  have F1 := Lib.hid (show decide ((d + 2) / 2 % 2 = 1) = true by simp; omega)
  have F2 := Lib.hid (show decide (d % 2 = 1) = false by simp; omega)
  have F3 := Lib.hid (show decide ((d + 2) % 2 = 1) = false by simp; omega)
  have F4 := Lib.hid (show decide (d % 4 = 0) = true by simp; omega)
  have N1 := Lib.hid (show ¬ (a + 1) % 4 = 0 by omega)
  have Y1 := Lib.hid (show (a + 1) % 4 = 1 by omega)
  have N2 := Lib.hid (show ¬ (d + 2) % 4 = 0 by omega)
  have N3 := Lib.hid (show ¬ (d + 2) % 4 = 1 by omega)
  clear h hd i2
  go_enter Tryd.func3, Tryd.ntmps3
  go_wp2_with fail
  refine (awake_any _ htab).mono ?_
  rintro e w1 ⟨rfl, hb1⟩
  go_wp2_with fail
  refine (Lock_yes _ _ h0 h1 H.out).mono ?_
  rintro e w2 ⟨rfl, hb2⟩
  go_wp2_with fail
  refine (Free_is _ true _ h0 h1 F0.out).mono ?_
  rintro e w3 ⟨rfl, hb3⟩
  go_wp2_with fail
  refine (Lock_no _ _ (by omega) i1 N1.out).mono ?_
  rintro e w4 ⟨rfl, hb4⟩
  go_wp2_with fail
  refine (Drop_yes _ _ (by omega) i1 Y1.out).mono ?_
  rintro e w5 ⟨rfl, hb5⟩
  go_wp2_with fail
  refine (Done_yes _ d _ (by omega) i1 Y1.out HW.out).mono ?_
  rintro e w6 ⟨rfl, hb6⟩
  go_wp2_with fail
  refine (Kill_yes _ d _ (by omega) i1 Y1.out HW.out g0 (by omega) I2.out).mono ?_
  rintro e w7 ⟨rfl, hb7⟩
  go_wp2_with fail
  refine (Dead_is _ true _ (by omega) (by omega) F1.out).mono ?_
  rintro e w8 ⟨rfl, hb8⟩
  go_wp2_with fail
  refine (Locked_is _ false _ (by omega) (by omega) F2.out).mono ?_
  rintro e w9 ⟨rfl, hb9⟩
  go_wp2_with fail
  refine (Locked_is _ false _ (by omega) (by omega) F3.out).mono ?_
  rintro e w10 ⟨rfl, hb10⟩
  go_wp2_with fail
  refine (Version_any _ _ h0 h1).mono ?_
  rintro e w11 ⟨rfl, hb11⟩
  go_wp2_with fail
  refine (Lock_no _ _ (by omega) (by omega) N2.out).mono ?_
  rintro e w12 ⟨rfl, hb12⟩
  go_wp2_with fail
  refine (Drop_no _ _ (by omega) (by omega) N3.out).mono ?_
  rintro e w13 ⟨rfl, hb13⟩
  go_wp2_with fail
  refine (Done_no _ _ (by omega) (by omega) N3.out).mono ?_
  rintro e w14 ⟨rfl, hb14⟩
  go_wp2_with fail
  refine (Kill_no _ _ (by omega) (by omega) N3.out).mono ?_
  rintro e w15 ⟨rfl, hb15⟩
  go_wp2_with fail
  refine (Version_any _ _ (by omega) i1).mono ?_
  rintro e w16 ⟨rfl, hb16⟩
  go_wp2_with fail
  refine (Version_any _ _ h0 h1).mono ?_
  rintro e w17 ⟨rfl, hb17⟩
  go_wp2_with fail
  refine (Version_any _ _ (by omega) (by omega)).mono ?_
  rintro e w18 ⟨rfl, hb18⟩
  go_wp2_with fail
  refine (Version_any _ _ (by omega) (by omega)).mono ?_
  rintro e w19 ⟨rfl, hb19⟩
  go_wp2_with fail
  refine (Free_is _ true _ (by omega) (by omega) F4.out).mono ?_
  rintro e w20 ⟨rfl, hb20⟩
  go_wp2_with fail
  go_ret
  exact ⟨rfl, by repeat (first | exact Later.refl _ | assumption | refine Later.trans ?_ (by assumption))⟩

theorem VwordOnce_any (a : Int) (w : World) (h0 : 0 ≤ a) (h1 : a ≤ 18446744073709551615) (htab : Tab w) :
    Calls Tryd.prog 3 #[.int .u64 a] w fun e w' => e = .returned (.bool true) ∧ Later w w' := by
  by_cases h : a % 4 = 0
  · exact VwordOnce_free a w h0 h1 h htab
  · exact VwordOnce_not a w h0 h1 h htab
end Go.Proofs.YtllcppdgamagoaaDoor
