/-
  Layer 15: everything derived from one load. Conditions: the words are those of numbers from 0 to 2.
-/
import Derived.Test.YtmjpjjnhlgidcaaD
namespace Go.Proofs.Ytmjpjjnhlgidcaa
open Go.RowKit Go.Sort
set_option linter.unusedSimpArgs false
set_option linter.unusedVariables false

theorem order_self (a : Nat) (ha : a ≤ W2) : FloatKind.f64.format.order a a = some .eq := by
  have h := ord_pos a a ha ha
  rwa [show compare a a = Ordering.eq by simp] at h
set_option maxRecDepth 100000 in
set_option maxHeartbeats 2000000 in
theorem one_of (a b : Nat) (d : Int) (p q : Nat) (ok i : Bool) (g : Int) (hp : p ≤ W2) (hq : q ≤ W2)
    (n1 : ∀ w, Calls Try.prog 6 #[.complex .f64 a b, .int .i64 d] w fun e w' => e = .returned (.tuple #[.complex .f64 p q, .bool ok]) ∧ Later w w')
    (n2 : ∀ w, Calls Try.prog 15 #[.complex .f64 a b, .int .i64 d] w fun e w' => e = .returned (.tuple #[.complex .f64 p q, .bool ok]) ∧ Later w w')
    (i1 : ∀ w, Calls Try.prog 16 #[.complex .f64 a b] w fun e w' => e = .returned (.bool i) ∧ w = w')
    (i2 : ∀ w, Calls Try.prog 17 #[.complex .f64 a b] w fun e w' => e = .returned (.bool i) ∧ Later w w')
    (g1 : ∀ w, Calls Try.prog 12 #[.complex .f64 a b] w fun e w' => e = .returned (.int .i64 g) ∧ Later w w')
    (g2 : ∀ w, Calls Try.prog 18 #[.complex .f64 a b] w fun e w' => e = .returned (.int .i64 g) ∧ Later w w') (w : World) :
    Calls Try.prog 7 #[.complex .f64 a b, .int .i64 d] w fun e w' => e = .returned (.bool true) ∧ Later w w' := by
  have o1 := order_self p hp
  have o2 := order_self q hq
  have N1 := Lib.hid n1
  have N2 := Lib.hid n2
  have I1 := Lib.hid i1
  have I2 := Lib.hid i2
  have G1 := Lib.hid g1
  have G2 := Lib.hid g2
  have R1 := Lib.hid (fun w => reads_is d w)
  have R2 := Lib.hid (fun w => refReads_is d w)
  have S1 := Lib.hid (fun w => writes_is d w)
  have S2 := Lib.hid (fun w => refWrites_is d w)
  clear n1 n2 i1 i2 g1 g2 hp hq
  generalize rdB d = r at *
  generalize wrB d = s at *
  go_enter Try.func7, Try.ntmps7
  go_wp2_with fail
  refine (N1.out _).mono ?_
  rintro e w1 ⟨rfl, hl1⟩
  go_wp2_with fail
  refine (N2.out _).mono ?_
  rintro e w2 ⟨rfl, hl2⟩
  have h2 := hl1.trans hl2
  clear hl1 hl2
  go_wp2_with fail
  refine (I1.out _).mono ?_
  rintro e w3 ⟨rfl, rfl⟩
  go_wp2_with fail
  refine (I2.out _).mono ?_
  rintro e w3 ⟨rfl, hl⟩
  have h3 := h2.trans hl
  clear h2 hl
  go_wp2_with fail
  refine (G1.out _).mono ?_
  rintro e w4 ⟨rfl, hl⟩
  have h4 := h3.trans hl
  clear h3 hl
  go_wp2_with fail
  refine (G2.out _).mono ?_
  rintro e w5 ⟨rfl, hl⟩
  have h5 := h4.trans hl
  clear h4 hl
  go_wp2_with fail
  refine (R1.out _).mono ?_
  rintro e w6 ⟨rfl, hl⟩
  have h6 := h5.trans hl
  clear h5 hl
  go_wp2_with fail
  refine (R2.out _).mono ?_
  rintro e w7 ⟨rfl, hl⟩
  have h7 := h6.trans hl
  clear h6 hl
  go_wp2_with fail
  refine (S1.out _).mono ?_
  rintro e w8 ⟨rfl, hl⟩
  have h8 := h7.trans hl
  clear h7 hl
  go_wp2_with fail
  refine (S2.out _).mono ?_
  rintro e w9 ⟨rfl, hl⟩
  have h9 := h8.trans hl
  clear h8 hl
  go_wp2_with fail
  go_ret
  exact ⟨rfl, h9⟩
theorem one_is (a b : Nat) (d : Int) (ha : a ≤ W2) (hb : b ≤ W2) (w : World) : Calls Try.prog 7 #[.complex .f64 a b, .int .i64 d] w fun e w' => e = .returned (.bool true) ∧ Later w w' :=
  one_of a b d _ _ _ _ _ (nextR_le a d ha) (nextI_le b d hb) (fun w => Next_is a b d ha hb w) (fun w => refNext_is a b d ha hb w) (fun w => Is_is a b ha hb w) (fun w => refIs_is a b ha hb w) (fun w => weigh_is a b ha hb w) (fun w => refWeigh_is a b ha hb w) w
theorem refOf_is (b o : Nat) (l : List Int) (cap : Nat) (hl : l.length ≤ 1300) (w : World) (hB : b < w.heap.size)
    (hc : ∀ i, i < l.length → w.cell? ⟨b, o + i, none⟩ = some (.int .i64 (l.getD i 0))) :
    Calls Try.prog 10 #[.slice (some ⟨b, o, none⟩) l.length cap] w fun e w' => e = .returned (.complex .f64 (ldR l) (ldI l)) ∧ Later w w' := by
  have HC := Lib.hid hc
  clear hc
  obtain ⟨N, hN⟩ : ∃ N, l.length = N := ⟨_, rfl⟩
  rw [hN] at HC hl ⊢
  go_enter Try.func10, Try.ntmps10
  go_wp2_with fail
  go_loopw [3, 4] (fun s3 s4 wr => ∃ k : Nat, k ≤ N ∧ s4 = .int .i64 k ∧ s3 = .complex .f64 (ldR (l.take k)) (ldI (l.take k)) ∧ Later w wr) (fun _ s4 _ => N - (RowKit.intOf s4).toNat)
  case atStart => exact ⟨0, by omega, rfl, rfl, Later.refl _⟩
  case round =>
    obtain ⟨k, hk, rfl, rfl, hlr⟩ := hrel
    rename World => wk
    by_cases hlt : k < N
    · have hkl : (k : Int) < (N : Int) := by omega
      have hk0 : (0 : Int) ≤ (k : Int) := by omega
      have hd1 : decide ((k : Int) < (N : Int)) = true := by simp; omega
      have hd2 : decide (k < N) = true := by simp; omega
      have c1 : wk.cell? ⟨b, o + k, none⟩ = some (.int .i64 (l.getD k 0)) := cell_at hlr (HC.out k hlt) hB
      obtain ⟨d, hd⟩ : ∃ d, l.getD k 0 = d := ⟨_, rfl⟩
      rw [hd] at c1
      have htk : l.take (k + 1) = l.take k ++ [d] := by
        rw [List.take_succ_eq_append_getElem (by omega)]
        congr 2
        rw [← hd, List.getD_eq_getElem?_getD, List.getElem?_eq_getElem (by omega)]; rfl
      have hR : ldR (l.take (k + 1)) = nextR (ldR (l.take k)) d := by rw [htk, ldR, List.foldl_append]; rfl
      have hI : ldI (l.take (k + 1)) = nextI (ldI (l.take k)) d := by rw [htk, ldI, List.foldl_append]; rfl
      have hA := ldR_le (l.take k)
      have hBb := ldI_le (l.take k)
      have HRI := Lib.hid (And.intro hR hI)
      generalize ldR (l.take k) = A at *
      generalize ldI (l.take k) = B at *
      clear hR hI htk hd
      go_wp2_with fail
      refine (refNext_is A B d hA hBb _).mono ?_
      rintro e w2 ⟨rfl, hl2⟩
      have HL := Lib.hid (hlr.trans hl2)
      clear hl2
      go_wp2_with fail
      go_roundw
      case rel => exact ⟨k + 1, by omega, by go_num, by rw [HRI.out.1, HRI.out.2], HL.out⟩
      case measure => simp [RowKit.intOf]; omega
    · obtain rfl : N = k := by omega
      have hd1 : decide ((N : Int) < (N : Int)) = false := by simp
      have eT : l.take N = l := by rw [← hN]; exact List.take_length
      rw [eT]
      go_wp2_with fail
      go_ret
      exact ⟨rfl, hlr⟩
end Go.Proofs.Ytmjpjjnhlgidcaa
