/-
  The walks of the reference's functions on words, and of both New. Conditions: the numbers are 64-bit numbers.
-/
import Derived.Test.YtllcppdgamagoaaDoorA
namespace Go.Proofs.YtllcppdgamagoaaDoor
open Go.RowKit

/-- the word of a version and two marks -/
def wd (v : Int) (p q : Bool) : Int := 4 * v + (if p then 1 else 0) + (if q then 2 else 0)

theorem Of_any (a : Int) (p q : Bool) (w : World) (h0 : 0 ≤ a) (h1 : a ≤ 18446744073709551615) (hp : decide (a % 2 = 1) = p) (hq : decide (a / 2 % 2 = 1) = q) :
    Calls Tryd.prog 35 #[.int .u64 a] w fun e w' => e = .returned (.agg #[.int .u64 (a / 4), .bool p, .bool q]) ∧ Later w w' := by
  have ep : (a % 2 == 1) = p := by rw [← hp]; rfl
  have eq : (a / 2 % 2 == 1) = q := by rw [← hq]; rfl
  clear hp hq
  go_enter Tryd.func35, Tryd.ntmps35
  go_wp2
  exact bodyPost_ret (v := .agg #[.int .u64 (a / 4), .bool p, .bool q]) (by simp [results, Tryd.results35, go_sem]) rfl ⟨rfl, (Later.refl _).alloc _⟩
theorem Word_any (v r : Int) (p q : Bool) (w : World) (h0 : 0 ≤ v) (h1 : v ≤ 4611686018427387903) (hr : r = wd v p q) :
    Calls Tryd.prog 34 #[.agg #[.int .u64 v, .bool p, .bool q]] w fun e w' => e = .returned (.int .u64 r) ∧ Later w w' := by
  cases p <;> cases q
  all_goals
    have HR := Lib.hid hr
    clear hr
    go_enter Tryd.func34, Tryd.ntmps34
    go_wp2
    go_ret
    refine ⟨?_, by repeat (first | exact Later.refl _ | assumption | apply Later.alloc | apply Later.drew | (refine Later.setCell ?_ _ _ (by first | (simp; done) | exact Later.size (by assumption))) | refine Later.trans ?_ (by assumption))⟩
    rw [HR.out]
    simp [wd]
    omega
theorem fld47_1 (a : Int) (p q : Bool) (w : World) : (Instr.field 47 (.agg #[.int .u64 a, .bool p, .bool q]) 1).run Tryd.prog w = .ok (.bool p) w := by kernel_rfl
theorem fld47_2 (a : Int) (p q : Bool) (w : World) : (Instr.field 47 (.agg #[.int .u64 a, .bool p, .bool q]) 2).run Tryd.prog w = .ok (.bool q) w := by kernel_rfl
theorem refFree_is (a : Int) (r : Bool) (w : World) (h0 : 0 ≤ a) (h1 : a ≤ 18446744073709551615) (hr : decide (a % 4 = 0) = r) :
    Calls Tryd.prog 36 #[.int .u64 a] w fun e w' => e = .returned (.bool r) ∧ Later w w' := by
  obtain ⟨p, hp⟩ : ∃ p, decide (a % 2 = 1) = p := ⟨_, rfl⟩
  obtain ⟨q, hq⟩ : ∃ q, decide (a / 2 % 2 = 1) = q := ⟨_, rfl⟩
  have e : r = (!p && !q) := by
    rw [← hp, ← hq, ← hr, ← decide_not, ← decide_not, ← Bool.decide_and]
    apply decide_eq_decide.2
    omega
  subst e
  have HP := Lib.hid hp
  have HQ := Lib.hid hq
  clear hp hq hr
  have f1 := fld47_1 (a / 4) p q
  have f2 := fld47_2 (a / 4) p q
  cases p
  all_goals
    go_enter Tryd.func36, Tryd.ntmps36
    go_wp2_with (go_at_call 35; refine (Of_any _ _ _ _ h0 h1 HP.out HQ.out).mono ?_; rintro e w' ⟨rfl, hb⟩)
    go_ret
    exact ⟨by simp, by repeat (first | exact Later.refl _ | assumption | apply Later.alloc | apply Later.drew | (refine Later.setCell ?_ _ _ (by first | (simp; done) | exact Later.size (by assumption))) | refine Later.trans ?_ (by assumption))⟩
theorem New_big (v : Int) (p q : Bool) (w : World) (h0 : 4611686018427387904 ≤ v) :
    Calls Tryd.prog 17 #[.int .u64 v, .bool p, .bool q] w fun e w' => e = .returned (.tuple #[.int .u64 0, .int .i64 2]) ∧ Later w w' := by
  go_enter Tryd.func17, Tryd.ntmps17
  go_wp2
  go_ret2
  exact ⟨rfl, by repeat (first | exact Later.refl _ | assumption | apply Later.alloc | apply Later.drew | (refine Later.setCell ?_ _ _ (by first | (simp; done) | exact Later.size (by assumption))) | refine Later.trans ?_ (by assumption))⟩
theorem New_ok (v r : Int) (p q : Bool) (w : World) (h0 : 0 ≤ v) (h1 : v ≤ 4611686018427387903) (hr : r = wd v p q) :
    Calls Tryd.prog 17 #[.int .u64 v, .bool p, .bool q] w fun e w' => e = .returned (.tuple #[.int .u64 r, .int .i64 0]) ∧ Later w w' := by
  have o1 := or1 (v * 4) (by omega) (by omega) (by omega)
  have o2 := or2 (v * 4) (by omega) (by omega) (by omega)
  have o3 := or2' (v * 4 + 1) (by omega) (by omega) (by omega)
  have HR := Lib.hid hr
  clear hr
  cases p <;> cases q
  all_goals
    go_enter Tryd.func17, Tryd.ntmps17
    go_wp2
    go_ret2
    refine ⟨?_, by repeat (first | exact Later.refl _ | assumption | apply Later.alloc | apply Later.drew | (refine Later.setCell ?_ _ _ (by first | (simp; done) | exact Later.size (by assumption))) | refine Later.trans ?_ (by assumption))⟩
    rw [HR.out]
    simp [wd]
    omega
theorem refNew_big (v : Int) (p q : Bool) (w : World) (h0 : 4611686018427387904 ≤ v) :
    Calls Tryd.prog 18 #[.int .u64 v, .bool p, .bool q] w fun e w' => e = .returned (.tuple #[.int .u64 0, .int .i64 2]) ∧ Later w w' := by
  go_enter Tryd.func18, Tryd.ntmps18
  go_wp2
  go_ret2
  exact ⟨rfl, by repeat (first | exact Later.refl _ | assumption | apply Later.alloc | apply Later.drew | (refine Later.setCell ?_ _ _ (by first | (simp; done) | exact Later.size (by assumption))) | refine Later.trans ?_ (by assumption))⟩
theorem refNew_ok (v r : Int) (p q : Bool) (w : World) (h0 : 0 ≤ v) (h1 : v ≤ 4611686018427387903) (hr : r = wd v p q) :
    Calls Tryd.prog 18 #[.int .u64 v, .bool p, .bool q] w fun e w' => e = .returned (.tuple #[.int .u64 r, .int .i64 0]) ∧ Later w w' := by
  have HR := Lib.hid hr
  clear hr
  go_enter Tryd.func18, Tryd.ntmps18
  go_wp2_with (go_at_call 34; refine (Word_any _ r _ _ _ h0 h1 HR.out).mono ?_; rintro e w' ⟨rfl, hb⟩)
  go_ret2
  exact ⟨rfl, by repeat (first | exact Later.refl _ | assumption | apply Later.alloc | apply Later.drew | (refine Later.setCell ?_ _ _ (by first | (simp; done) | exact Later.size (by assumption))) | refine Later.trans ?_ (by assumption))⟩
theorem refLock_yes (a : Int) (w : World) (h0 : 0 ≤ a) (h1 : a ≤ 18446744073709551615) (h : a % 4 = 0) :
    Calls Tryd.prog 42 #[.int .u64 a] w fun e w' => e = .returned (.tuple #[.int .u64 (a + 1), .bool true]) ∧ Later w w' := by
  have F0 := Lib.hid (show decide (a % 2 = 1) = false by simp; omega)
  have F1 := Lib.hid (show decide (a / 2 % 2 = 1) = false by simp; omega)
  have F2 := Lib.hid (show decide (a % 4 = 0) = true by simp; omega)
  have V0 := Lib.hid (show 0 ≤ a / 4 by omega)
  have V1 := Lib.hid (show a / 4 ≤ 4611686018427387903 by omega)
  have F4 := Lib.hid (show a + 1 = wd (a / 4) true false by simp [wd]; omega)
  clear h
  go_enter Tryd.func42, Tryd.ntmps42
  go_wp2_with (first | (go_at_call 35; refine (Of_any _ false false _ h0 h1 F0.out F1.out).mono ?_; rintro e w' ⟨rfl, hb⟩) | (go_at_call 36; refine (refFree_is _ true _ h0 h1 F2.out).mono ?_; rintro e w' ⟨rfl, hb⟩; have ⟨hc, hf, hz⟩ := hb.reads) | (go_at_call 34; refine (Word_any _ (a + 1) _ _ _ V0.out V1.out F4.out).mono ?_; rintro e w' ⟨rfl, hb⟩))
  go_ret2
  exact ⟨rfl, by repeat (first | exact Later.refl _ | assumption | apply Later.alloc | apply Later.drew | (refine Later.setCell ?_ _ _ (by first | (simp; done) | exact Later.size (by assumption))) | refine Later.trans ?_ (by assumption))⟩
theorem refLock_no (a : Int) (w : World) (h0 : 0 ≤ a) (h1 : a ≤ 18446744073709551615) (h : ¬ a % 4 = 0) :
    Calls Tryd.prog 42 #[.int .u64 a] w fun e w' => e = .returned (.tuple #[.int .u64 a, .bool false]) ∧ Later w w' := by
  obtain ⟨p, hp⟩ : ∃ p, decide (a % 2 = 1) = p := ⟨_, rfl⟩
  obtain ⟨q, hq⟩ : ∃ q, decide (a / 2 % 2 = 1) = q := ⟨_, rfl⟩
  have F0 := Lib.hid hp
  have F1 := Lib.hid hq
  have F2 := Lib.hid (show decide (a % 4 = 0) = false by simp; omega)
  clear hp hq h
  go_enter Tryd.func42, Tryd.ntmps42
  go_wp2_with (first | (go_at_call 35; refine (Of_any _ p q _ h0 h1 F0.out F1.out).mono ?_; rintro e w' ⟨rfl, hb⟩) | (go_at_call 36; refine (refFree_is _ false _ h0 h1 F2.out).mono ?_; rintro e w' ⟨rfl, hb⟩; have ⟨hc, hf, hz⟩ := hb.reads))
  go_ret2
  exact ⟨rfl, by repeat (first | exact Later.refl _ | assumption | apply Later.alloc | apply Later.drew | (refine Later.setCell ?_ _ _ (by first | (simp; done) | exact Later.size (by assumption))) | refine Later.trans ?_ (by assumption))⟩
theorem refDrop_yes (a : Int) (w : World) (h0 : 0 ≤ a) (h1 : a ≤ 18446744073709551615) (h : a % 4 = 1) :
    Calls Tryd.prog 43 #[.int .u64 a] w fun e w' => e = .returned (.tuple #[.int .u64 (a - 1), .bool true]) ∧ Later w w' := by
  have F0 := Lib.hid (show decide (a % 2 = 1) = true by simp; omega)
  have F1 := Lib.hid (show decide (a / 2 % 2 = 1) = false by simp; omega)
  have V0 := Lib.hid (show 0 ≤ a / 4 by omega)
  have V1 := Lib.hid (show a / 4 ≤ 4611686018427387903 by omega)
  have F4 := Lib.hid (show a - 1 = wd (a / 4) false false by simp [wd]; omega)
  clear h
  go_enter Tryd.func43, Tryd.ntmps43
  go_wp2_with (first | (go_at_call 35; refine (Of_any _ true false _ h0 h1 F0.out F1.out).mono ?_; rintro e w' ⟨rfl, hb⟩) | (go_at_call 34; refine (Word_any _ (a - 1) _ _ _ V0.out V1.out F4.out).mono ?_; rintro e w' ⟨rfl, hb⟩))
  go_ret2
  exact ⟨rfl, by repeat (first | exact Later.refl _ | assumption | apply Later.alloc | apply Later.drew | (refine Later.setCell ?_ _ _ (by first | (simp; done) | exact Later.size (by assumption))) | refine Later.trans ?_ (by assumption))⟩
theorem refDrop_no (a : Int) (w : World) (h0 : 0 ≤ a) (h1 : a ≤ 18446744073709551615) (h : ¬ a % 4 = 1) :
    Calls Tryd.prog 43 #[.int .u64 a] w fun e w' => e = .returned (.tuple #[.int .u64 a, .bool false]) ∧ Later w w' := by
  by_cases c : a % 2 = 1
  · have F0 := Lib.hid (show decide (a % 2 = 1) = true by simp; omega)
    have F1 := Lib.hid (show decide (a / 2 % 2 = 1) = true by simp; omega)
    clear h c
    go_enter Tryd.func43, Tryd.ntmps43
    go_wp2_with ((go_at_call 35; refine (Of_any _ true true _ h0 h1 F0.out F1.out).mono ?_; rintro e w' ⟨rfl, hb⟩))
    go_ret2
    exact ⟨rfl, by repeat (first | exact Later.refl _ | assumption | apply Later.alloc | apply Later.drew | (refine Later.setCell ?_ _ _ (by first | (simp; done) | exact Later.size (by assumption))) | refine Later.trans ?_ (by assumption))⟩
  · obtain ⟨q, hq⟩ : ∃ q, decide (a / 2 % 2 = 1) = q := ⟨_, rfl⟩
    have F0 := Lib.hid (show decide (a % 2 = 1) = false by simp; omega)
    have F1 := Lib.hid hq
    clear h c hq
    go_enter Tryd.func43, Tryd.ntmps43
    go_wp2_with ((go_at_call 35; refine (Of_any _ false q _ h0 h1 F0.out F1.out).mono ?_; rintro e w' ⟨rfl, hb⟩))
    go_ret2
    exact ⟨rfl, by repeat (first | exact Later.refl _ | assumption | apply Later.alloc | apply Later.drew | (refine Later.setCell ?_ _ _ (by first | (simp; done) | exact Later.size (by assumption))) | refine Later.trans ?_ (by assumption))⟩
theorem refDone_yes (a d : Int) (w : World) (h0 : 0 ≤ a) (h1 : a ≤ 18446744073709551615) (h : a % 4 = 1) (hd : d = 4 * ((a / 4 + 1) % 4611686018427387904)) :
    Calls Tryd.prog 44 #[.int .u64 a] w fun e w' => e = .returned (.tuple #[.int .u64 d, .bool true]) ∧ Later w w' := by
  have HH := Lib.hid h
  have g0 : 0 ≤ a - 1 := by omega
  have g1 : a - 1 ≤ 18446744073709551615 := by omega
  have F0 := Lib.hid (show decide ((a - 1) % 2 = 1) = false by simp; omega)
  have F1 := Lib.hid (show decide ((a - 1) / 2 % 2 = 1) = false by simp; omega)
  obtain ⟨v, hv⟩ : ∃ v, (a - 1) / 4 = v := ⟨_, rfl⟩
  have v0 : 0 ≤ v := by omega
  have v1 : v ≤ 4611686018427387903 := by omega
  obtain ⟨n, hn⟩ : ∃ n, (v + 1) % 4611686018427387904 = n := ⟨_, rfl⟩
  have n0 : 0 ≤ n := by omega
  have n1 : n ≤ 4611686018427387903 := by omega
  have F4 := Lib.hid (show d = wd n false false by simp [wd]; omega)
  clear h hd
  go_enter Tryd.func44, Tryd.ntmps44
  go_wp2_with (first | (go_at_call 43; refine (refDrop_yes _ _ h0 h1 HH.out).mono ?_; rintro e w' ⟨rfl, hb⟩) | (go_at_call 35; refine (Of_any _ false false _ g0 g1 F0.out F1.out).mono ?_; rintro e w' ⟨rfl, hb⟩) | (go_at_call 34; refine (Word_any _ d _ _ _ n0 n1 F4.out).mono ?_; rintro e w' ⟨rfl, hb⟩))
  go_ret2
  exact ⟨rfl, by repeat (first | exact Later.refl _ | assumption | apply Later.alloc | apply Later.drew | (refine Later.setCell ?_ _ _ (by first | (simp; done) | exact Later.size (by assumption))) | refine Later.trans ?_ (by assumption))⟩
theorem refDone_no (a : Int) (w : World) (h0 : 0 ≤ a) (h1 : a ≤ 18446744073709551615) (h : ¬ a % 4 = 1) :
    Calls Tryd.prog 44 #[.int .u64 a] w fun e w' => e = .returned (.tuple #[.int .u64 a, .bool false]) ∧ Later w w' := by
  have HH := Lib.hid h
  clear h
  go_enter Tryd.func44, Tryd.ntmps44
  go_wp2_with ((go_at_call 43; refine (refDrop_no _ _ h0 h1 HH.out).mono ?_; rintro e w' ⟨rfl, hb⟩))
  go_ret2
  exact ⟨rfl, by repeat (first | exact Later.refl _ | assumption | apply Later.alloc | apply Later.drew | (refine Later.setCell ?_ _ _ (by first | (simp; done) | exact Later.size (by assumption))) | refine Later.trans ?_ (by assumption))⟩
theorem refKill_yes (a d : Int) (w : World) (h0 : 0 ≤ a) (h1 : a ≤ 18446744073709551615) (h : a % 4 = 1) (hd : d = 4 * ((a / 4 + 1) % 4611686018427387904)) :
    Calls Tryd.prog 45 #[.int .u64 a] w fun e w' => e = .returned (.tuple #[.int .u64 (d + 2), .bool true]) ∧ Later w w' := by
  have HH := Lib.hid h
  have HD := Lib.hid hd
  have g0 : 0 ≤ d := by omega
  have g1 : d ≤ 18446744073709551615 := by omega
  have F0 := Lib.hid (show decide (d % 2 = 1) = false by simp; omega)
  have F1 := Lib.hid (show decide (d / 2 % 2 = 1) = false by simp; omega)
  obtain ⟨v, hv⟩ : ∃ v, d / 4 = v := ⟨_, rfl⟩
  have v0 : 0 ≤ v := by omega
  have v1 : v ≤ 4611686018427387903 := by omega
  have F4 := Lib.hid (show d + 2 = wd v false true by simp [wd]; omega)
  clear h hd
  go_enter Tryd.func45, Tryd.ntmps45
  go_wp2_with (first | (go_at_call 44; refine (refDone_yes _ d _ h0 h1 HH.out HD.out).mono ?_; rintro e w' ⟨rfl, hb⟩) | (go_at_call 35; refine (Of_any _ false false _ g0 g1 F0.out F1.out).mono ?_; rintro e w' ⟨rfl, hb⟩) | (go_at_call 34; refine (Word_any _ (d + 2) _ _ _ v0 v1 F4.out).mono ?_; rintro e w' ⟨rfl, hb⟩))
  go_ret2
  exact ⟨rfl, by repeat (first | exact Later.refl _ | assumption | apply Later.alloc | apply Later.drew | (refine Later.setCell ?_ _ _ (by first | (simp; done) | exact Later.size (by assumption))) | refine Later.trans ?_ (by assumption))⟩
theorem refKill_no (a : Int) (w : World) (h0 : 0 ≤ a) (h1 : a ≤ 18446744073709551615) (h : ¬ a % 4 = 1) :
    Calls Tryd.prog 45 #[.int .u64 a] w fun e w' => e = .returned (.tuple #[.int .u64 a, .bool false]) ∧ Later w w' := by
  have HH := Lib.hid h
  clear h
  go_enter Tryd.func45, Tryd.ntmps45
  go_wp2_with ((go_at_call 44; refine (refDone_no _ _ h0 h1 HH.out).mono ?_; rintro e w' ⟨rfl, hb⟩))
  go_ret2
  exact ⟨rfl, by repeat (first | exact Later.refl _ | assumption | apply Later.alloc | apply Later.drew | (refine Later.setCell ?_ _ _ (by first | (simp; done) | exact Later.size (by assumption))) | refine Later.trans ?_ (by assumption))⟩

end Go.Proofs.YtllcppdgamagoaaDoor
