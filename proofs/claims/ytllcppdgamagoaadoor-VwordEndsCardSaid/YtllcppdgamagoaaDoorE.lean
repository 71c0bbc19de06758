/-
  All operations on a word agree with the reference. Conditions: the word is a 64-bit number; the table of powers of ten reads as laid.
-/
import Derived.Test.YtllcppdgamagoaaDoorD
import Derived.Deep.QuietTactic
import Derived.BigQuiet
import Derived.Lib.QuietBelow
namespace Go.Proofs.YtllcppdgamagoaaDoor
open Go.RowKit Go.Sort Go.Lib
theorem wrap_done (a d : Int) (h : a % 4 = 1) (hd : d = 4 * ((a / 4 + 1) % 4611686018427387904)) : IntKind.u64.wrap (a - 1 + 4) = d := by
  rw [IntKind.wrap_u64]; omega
theorem turns_any (a : Int) (w : World) (h0 : 0 ≤ a) (h1 : a ≤ 18446744073709551615) :
    Calls Tryd.prog 37 #[.int .u64 a] w fun e w' => e = .returned (.bool true) ∧ Later w w' := by
  by_cases c0 : a % 4 = 0
  · have H := Lib.hid c0
    have H1 := Lib.hid (show ¬ a % 4 = 1 by omega)
    clear c0
    go_enter Tryd.func37, Tryd.ntmps37
    go_wp2_with (first | (go_at_call 9; refine (Lock_yes _ _ h0 h1 H.out).mono ?_; rintro e w' ⟨rfl, hb⟩) | (go_at_call 42; refine (refLock_yes _ _ h0 h1 H.out).mono ?_; rintro e w' ⟨rfl, hb⟩) | (go_at_call 14; refine (Drop_no _ _ h0 h1 H1.out).mono ?_; rintro e w' ⟨rfl, hb⟩) | (go_at_call 43; refine (refDrop_no _ _ h0 h1 H1.out).mono ?_; rintro e w' ⟨rfl, hb⟩) | (go_at_call 11; refine (Done_no _ _ h0 h1 H1.out).mono ?_; rintro e w' ⟨rfl, hb⟩) | (go_at_call 44; refine (refDone_no _ _ h0 h1 H1.out).mono ?_; rintro e w' ⟨rfl, hb⟩) | (go_at_call 15; refine (Kill_no _ _ h0 h1 H1.out).mono ?_; rintro e w' ⟨rfl, hb⟩) | (go_at_call 45; refine (refKill_no _ _ h0 h1 H1.out).mono ?_; rintro e w' ⟨rfl, hb⟩))
    go_ret
    exact ⟨rfl, by repeat (first | exact Later.refl _ | assumption | refine Later.trans ?_ (by assumption))⟩
  · by_cases c1 : a % 4 = 1
    · have H := Lib.hid c0
      have H1 := Lib.hid c1
      obtain ⟨d, hd⟩ : ∃ d, d = 4 * ((a / 4 + 1) % 4611686018427387904) := ⟨_, rfl⟩
      have HD := Lib.hid hd
      have HW := Lib.hid (wrap_done a d c1 hd)
      have g0 : 0 ≤ d := by omega
      have g1 : d ≤ 18446744073709551615 := by omega
      have HD4 := Lib.hid (show d % 4 = 0 by omega)
      clear c0 c1 hd
      go_enter Tryd.func37, Tryd.ntmps37
      go_wp2_with (first | (go_at_call 9; refine (Lock_no _ _ h0 h1 H.out).mono ?_; rintro e w' ⟨rfl, hb⟩) | (go_at_call 42; refine (refLock_no _ _ h0 h1 H.out).mono ?_; rintro e w' ⟨rfl, hb⟩) | (go_at_call 14; refine (Drop_yes _ _ h0 h1 H1.out).mono ?_; rintro e w' ⟨rfl, hb⟩) | (go_at_call 43; refine (refDrop_yes _ _ h0 h1 H1.out).mono ?_; rintro e w' ⟨rfl, hb⟩) | (go_at_call 11; refine (Done_yes _ d _ h0 h1 H1.out HW.out).mono ?_; rintro e w' ⟨rfl, hb⟩) | (go_at_call 44; refine (refDone_yes _ d _ h0 h1 H1.out HD.out).mono ?_; rintro e w' ⟨rfl, hb⟩) | (go_at_call 15; refine (Kill_yes _ d _ h0 h1 H1.out HW.out g0 g1 HD4.out).mono ?_; rintro e w' ⟨rfl, hb⟩) | (go_at_call 45; refine (refKill_yes _ d _ h0 h1 H1.out HD.out).mono ?_; rintro e w' ⟨rfl, hb⟩))
      go_ret
      exact ⟨rfl, by repeat (first | exact Later.refl _ | assumption | refine Later.trans ?_ (by assumption))⟩
    · have H := Lib.hid c0
      have H1 := Lib.hid c1
      clear c0 c1
      go_enter Tryd.func37, Tryd.ntmps37
      go_wp2_with (first | (go_at_call 9; refine (Lock_no _ _ h0 h1 H.out).mono ?_; rintro e w' ⟨rfl, hb⟩) | (go_at_call 42; refine (refLock_no _ _ h0 h1 H.out).mono ?_; rintro e w' ⟨rfl, hb⟩) | (go_at_call 14; refine (Drop_no _ _ h0 h1 H1.out).mono ?_; rintro e w' ⟨rfl, hb⟩) | (go_at_call 43; refine (refDrop_no _ _ h0 h1 H1.out).mono ?_; rintro e w' ⟨rfl, hb⟩) | (go_at_call 11; refine (Done_no _ _ h0 h1 H1.out).mono ?_; rintro e w' ⟨rfl, hb⟩) | (go_at_call 44; refine (refDone_no _ _ h0 h1 H1.out).mono ?_; rintro e w' ⟨rfl, hb⟩) | (go_at_call 15; refine (Kill_no _ _ h0 h1 H1.out).mono ?_; rintro e w' ⟨rfl, hb⟩) | (go_at_call 45; refine (refKill_no _ _ h0 h1 H1.out).mono ?_; rintro e w' ⟨rfl, hb⟩))
      go_ret
      exact ⟨rfl, by repeat (first | exact Later.refl _ | assumption | refine Later.trans ?_ (by assumption))⟩

theorem quiet_later {f : FuncId} {args : Array Value} {w : World} {d : Nat} {os : Array Obj} {v : Value}
    (h : Calls Tryd.prog f args (grow (redrawn w d) os) fun e w' => e = .returned v ∧ Later (grow (redrawn w d) os) w') : Calls Tryd.prog f args (grow (redrawn w d) os) fun e w'' => e = .returned v ∧ ∃ p : Regrown, w'' = grow (redrawn w p.d) p.os :=
  Calls.regrown_of h
theorem tells_any (a : Int) (w : World) (h0 : 0 ≤ a) (h1 : a ≤ 18446744073709551615) (htab : Tab w) :
    Calls Tryd.prog 19 #[.int .u64 a] w fun e w' => e = .returned (.bool true) ∧ Later w w' := by
  obtain ⟨p, hp⟩ : ∃ p, decide (a % 2 = 1) = p := ⟨_, rfl⟩
  obtain ⟨q, hq⟩ : ∃ q, decide (a / 2 % 2 = 1) = q := ⟨_, rfl⟩
  obtain ⟨r, hr⟩ : ∃ r, decide (a % 4 = 0) = r := ⟨_, rfl⟩
  obtain ⟨u, hu⟩ : ∃ u : Nat, a / 4 = u := ⟨(a / 4).toNat, by omega⟩
  have HP := Lib.hid hp
  have HQ := Lib.hid hq
  have HR := Lib.hid hr
  clear hp hq hr
  go_enter Tryd.func19, Tryd.ntmps19
  go_wp2_with (go_at_call 35; refine (Of_any _ p q _ h0 h1 HP.out HQ.out).mono ?_; rintro e w' ⟨rfl, hb⟩)
  obtain ⟨W, hW⟩ : ∃ W, w'.alloc (Obj.cells #[Value.int IntKind.u64 ↑u, Value.bool p, Value.bool q] 47) = W := ⟨_, rfl⟩
  have k0 := cell_regrown (show W.cell? ⟨w'.heap.size, 0, none⟩ = some (.int .u64 u) by rw [← hW]; simp)
  have k1 := cell_regrown (show W.cell? ⟨w'.heap.size, 1, none⟩ = some (.bool p) by rw [← hW]; simp)
  have k2 := cell_regrown (show W.cell? ⟨w'.heap.size, 2, none⟩ = some (.bool q) by rw [← hW]; simp)
  have hlW : Later w W := by rw [← hW]; exact hb.alloc _
  rw [hW]
  clear hW
  have ht : ∀ d os, Tab (grow (redrawn W d) os) := fun d os => htab.later (hlW.trans (below_regrown W d os))
  have c16 := fun d os => quiet_later (Version_any a (grow (redrawn W d) os) h0 h1)
  rw [hu] at c16
  have c12 := fun d os => quiet_later (Locked_is a p (grow (redrawn W d) os) h0 h1 HP.out)
  have c13 := fun d os => quiet_later (Dead_is a q (grow (redrawn W d) os) h0 h1 HQ.out)
  have c10 := fun d os => quiet_later (Free_is a r (grow (redrawn W d) os) h0 h1 HR.out)
  have c36 := fun d os => quiet_later (refFree_is a r (grow (redrawn W d) os) h0 h1 HR.out)
  have c23 := fun d os => quiet_later (Show_any a u p q (grow (redrawn W d) os) h0 h1 hu HP.out HQ.out (ht d os))
  have c21 := fun d os => quiet_later (refShow_any a u p q (grow (redrawn W d) os) h0 h1 hu HP.out HQ.out)
  have c37 := fun d os => quiet_later (turns_any a (grow (redrawn W d) os) h0 h1)
  have mixed : Tryd.prog.follows .mixedOrders = true := by kernel_rfl
  refine wp_region_quiet_below mixed (by kernel_rfl) ?_
  repeat (quiet_step (first | exact c16 _ _ | exact c12 _ _ | exact c13 _ _ | exact c10 _ _ | exact c36 _ _ | exact c23 _ _ | exact c21 _ _ | exact c37 _ _))
  refine wpQuiet_nil ?_
  intro _ hw'
  obtain ⟨⟨dq, osq⟩, hw''⟩ := hw'
  subst hw''
  go_wp2
  go_ret
  exact ⟨rfl, hlW.trans (below_regrown W dq osq)⟩
end Go.Proofs.YtllcppdgamagoaaDoor
