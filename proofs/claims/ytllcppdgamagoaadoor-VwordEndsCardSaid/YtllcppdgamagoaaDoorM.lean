/-
  Parse agrees with the reference at every text; the laws VwordReads and VwordParts, walked. Conditions: the numbers are 64-bit numbers; the text is shorter than 2^48 bytes; the table and the errors' variables hold what start-up code lays.
-/
import Derived.Test.YtllcppdgamagoaaDoorL
import Derived.Test.YtllcppdgamagoaaDoorF
namespace Go.Proofs.YtllcppdgamagoaaDoor
open Go.RowKit Go.Sort

theorem reads_any (s : ByteArray) (hlim : s.size ≤ 281474976710656) (w : World) (htab : Tab w) (he : Errs w) :
    Calls Tryd.prog 20 #[.string s] w fun e w' => e = .returned (.bool true) ∧ Later w w' := by
  by_cases h : ∃ (u : Nat) (p q : Bool), u ≤ 4611686018427387903 ∧ s.data.toList = showL u p q
  · obtain ⟨u, p, q, hu, hs⟩ := h
    have HS := Lib.hid hs
    clear hs
    go_enter Tryd.func20, Tryd.ntmps20
    go_wp2_with fail
    refine (Parse_yes s u p q hlim HS.out hu _ htab he).mono ?_
    rintro e w1 ⟨rfl, hb1⟩
    go_wp2_with fail
    refine (refParse_yes s u p q HS.out hu _).mono ?_
    rintro e w2 ⟨rfl, hb2⟩
    go_wp2_with fail
    go_ret
    exact ⟨rfl, hb1.trans hb2⟩
  · have hs : ∀ (u : Nat) (p q : Bool), u ≤ 4611686018427387903 → s.data.toList ≠ showL u p q := fun u p q hu hs => h ⟨u, p, q, hu, hs⟩
    have HS := Lib.hid hs
    clear hs h
    go_enter Tryd.func20, Tryd.ntmps20
    go_wp2_with fail
    refine (Parse_no s hlim HS.out _ htab he).mono ?_
    rintro e w1 ⟨rfl, hb1⟩
    go_wp2_with fail
    refine (refParse_no s hlim HS.out _).mono ?_
    rintro e w2 ⟨rfl, hb2⟩
    go_wp2_with fail
    go_ret
    exact ⟨rfl, hb1.trans hb2⟩

theorem VwordReads_any (s : ByteArray) (w : World) (htab : Tab w) (he : Errs w) :
    Calls Tryd.prog 5 #[.string s] w fun e w' => e = .returned (.bool true) ∧ Later w w' := by
  by_cases h : 1000 < s.size
  · go_enter Tryd.func5, Tryd.ntmps5
    go_wp2_with fail
    refine (awake_any _ htab).mono ?_
    rintro e w1 ⟨rfl, hb1⟩
    go_wp2_with fail
    go_ret
    exact ⟨rfl, hb1⟩
  · go_enter Tryd.func5, Tryd.ntmps5
    go_wp2_with fail
    refine (reads_any s (by omega) _ htab he).mono ?_
    rintro e w1 ⟨rfl, hb1⟩
    go_wp2_with fail
    refine (awake_any _ (htab.later hb1)).mono ?_
    rintro e w2 ⟨rfl, hb2⟩
    go_wp2_with fail
    go_ret
    exact ⟨rfl, hb1.trans hb2⟩

/-- a word's parts -/
theorem word_parts (a : Int) (h0 : 0 ≤ a) (h1 : a ≤ 18446744073709551615) :
    ∃ (u : Nat) (p q : Bool), u ≤ 4611686018427387903 ∧ a / 4 = u ∧ decide (a % 2 = 1) = p ∧ decide (a / 2 % 2 = 1) = q ∧ a = wd u p q := by
  refine ⟨(a / 4).toNat, decide (a % 2 = 1), decide (a / 2 % 2 = 1), by omega, by omega, rfl, rfl, ?_⟩
  by_cases h2 : a % 2 = 1 <;> by_cases h3 : a / 2 % 2 = 1 <;> simp [wd, h2, h3] <;> omega

set_option maxRecDepth 100000 in
theorem VwordParts_any (a b : Int) (w : World) (h0 : 0 ≤ a) (h1 : a ≤ 18446744073709551615) (g0 : 0 ≤ b) (g1 : b ≤ 18446744073709551615) (htab : Tab w) (he : Errs w) :
    Calls Tryd.prog 7 #[.int .u64 a, .int .u64 b] w fun e w' => e = .returned (.bool true) ∧ Later w w' := by
  obtain ⟨u, p, q, hu, hau, hap, haq, haw⟩ := word_parts a h0 h1
  obtain ⟨v, p', q', hv, hbu, hbp, hbq, hbw⟩ := word_parts b g0 g1
  have hsh : (showL u p q == showL v p' q') = (a == b) := by
    cases hc : (a == b) with
    | true =>
      have e : a = b := by simpa using hc
      subst e
      obtain rfl : u = v := by omega
      rw [← hap, ← haq, ← hbp, ← hbq]
      simp
    | false =>
      rw [beq_eq_false_iff_ne] at hc ⊢
      intro h
      obtain ⟨rfl, rfl, rfl⟩ := showL_inj hu hv h
      exact hc (haw.trans hbw.symm)
  have hfr : decide (a % 4 = 0) = (!p && !q) := by
    rw [← hap, ← haq, ← decide_not, ← decide_not, ← Bool.decide_and]
    apply decide_eq_decide.2
    omega
  have HF := Lib.hid hfr
  have HAU := Lib.hid hau
  have HAP := Lib.hid hap
  have HAQ := Lib.hid haq
  have HAW := Lib.hid haw
  have HBU := Lib.hid hbu
  have HBP := Lib.hid hbp
  have HBQ := Lib.hid hbq
  have hlen : (showL u p q).length ≤ 22 := by
    have := digits_19 u hu
    cases p <;> cases q <;> simp [showL] <;> omega
  have HU2 : (a / 4) ≤ 4611686018427387903 := by omega
  have HAW2 := Lib.hid (show a = wd (a / 4) p q by rw [hau]; exact haw)
  clear hfr hau hap haq haw hbu hbp hbq hbw
  obtain ⟨c, hc⟩ : ∃ c, (a == b) = c := ⟨_, rfl⟩
  rw [hc] at hsh
  cases c <;> cases p <;> cases q
  all_goals
      go_enter Tryd.func7, Tryd.ntmps7
      go_wp2_with fail
      refine (awake_any _ htab).mono ?_
      rintro e w1 ⟨rfl, hb1⟩
      go_wp2_with fail
      refine (Version_any _ _ h0 h1).mono ?_
      rintro e w2 ⟨rfl, hb2⟩
      go_wp2_with fail
      refine (Locked_is _ _ _ h0 h1 HAP.out).mono ?_
      rintro e w3 ⟨rfl, hb3⟩
      go_wp2_with fail
      refine (Dead_is _ _ _ h0 h1 HAQ.out).mono ?_
      rintro e w4 ⟨rfl, hb4⟩
      go_wp2_with fail
      refine (New_ok _ a _ _ _ (by omega) HU2 HAW2.out).mono ?_
      rintro e w5 ⟨rfl, hb5⟩
      have l5 := (((hb1.trans hb2).trans hb3).trans hb4).trans hb5
      go_wp2_with fail
      refine (Show_any _ u _ _ _ h0 h1 HAU.out HAP.out HAQ.out (htab.later l5)).mono ?_
      rintro e w6 ⟨rfl, hb6⟩
      have l6 := l5.trans hb6
      go_wp2_with fail
      refine (Parse_yes _ u _ _ (by rw [size_mk]; omega) rfl hu _ (htab.later l6) (he.later l6)).mono ?_
      rintro e w7 ⟨rfl, hb7⟩
      have l7 := l6.trans hb7
      rw [← HAW.out]
      go_wp2_with fail
      refine (Show_any _ u _ _ _ h0 h1 HAU.out HAP.out HAQ.out (htab.later l7)).mono ?_
      rintro e w8 ⟨rfl, hb8⟩
      have l8 := l7.trans hb8
      go_wp2_with fail
      refine (Show_any _ v p' q' _ g0 g1 HBU.out HBP.out HBQ.out (htab.later l8)).mono ?_
      rintro e w9 ⟨rfl, hb9⟩
      have l9 := l8.trans hb9
      go_wp2_with fail
      refine (Free_is _ _ _ h0 h1 HF.out).mono ?_
      rintro e w10 ⟨rfl, hb10⟩
      have l10 := l9.trans hb10
      go_wp2_with fail
      refine (Locked_is _ _ _ h0 h1 HAP.out).mono ?_
      rintro e w11 ⟨rfl, hb11⟩
      have l11 := l10.trans hb11
      go_wp2_with (go_at_call 13; refine (Dead_is _ _ _ h0 h1 HAQ.out).mono ?_; rintro e w12 ⟨rfl, hb12⟩)
      go_ret
      exact ⟨rfl, by first | exact l11 | exact l11.trans (by assumption)⟩
end Go.Proofs.YtllcppdgamagoaaDoor
