/-
  The law HandleApart, walked. Conditions: the rights are a byte; the listed variables read as laid.
-/
import Derived.Test.YtpfnccjfmbecfaaDoorN
namespace Go.Proofs.YtpfnccjfmbecfaaDoor
open Go.RowKit Go.Sort Go.Lib

/-- what adding and removing one right does to the numbers -/
def apartB (r q : Int) : Bool :=
  let R := bits .or .u8 r q
  let S := bits .andNot .u8 R q
  (!(decide (1 ≤ S) && decide (S ≤ 7)) || (decide (1 ≤ R) && decide (R ≤ 7))) &&
  (!(decide (R ≤ 7) && !decide (S = 0)) || (decide (1 ≤ R) && (decide (1 ≤ S) && (decide (S ≤ 7) && (inR S R && (!inR R S &&
    [1, 2, 4].all fun a => (decide (S / a % 2 = 1) == (decide (R / a % 2 = 1) && !decide (a = q))) && (!decide (a = q) || decide (R / a % 2 = 1))))))))
set_option maxRecDepth 100000 in
theorem apart_all : ((List.range 256).all fun r => [1, 2, 4].all fun q => apartB (r : Int) q) = true := by decide +kernel
theorem apart_at (r q : Int) (r0 : 0 ≤ r) (r1 : r ≤ 255) (hq : q = 1 ∨ q = 2 ∨ q = 4) : apartB r q = true := by
  have h := List.all_eq_true.1 apart_all r.toNat (by simp; omega)
  rw [Int.toNat_of_nonneg r0] at h
  exact List.all_eq_true.1 h q (by simpa using hq)

/-- the law's plain part -/
theorem apart_law (t g r q d : Int) (r0 : 0 ≤ r) (r1 : r ≤ 255) (hq : q = 1 ∨ q = 2 ∨ q = 4) (R S : Int) (hR : bits .or .u8 r q = R) (hS : bits .andNot .u8 R q = S) :
    (okH t g R = false → okH t g S = false) ∧ (okH t g R = true → ¬ S = 0 → okH t g S = true ∧ withinH t g S t g R = true ∧ withinH t g R t g S = false ∧
      allowsH t g S d = (allowsH t g R d && !decide (askR d = q)) ∧ (!decide (askR d = q) || allowsH t g R d) = true) := by
  have h := apart_at r q r0 r1 hq
  unfold apartB at h
  simp only [hR, hS] at h
  rw [Bool.and_eq_true] at h
  obtain ⟨h1, h2⟩ := h
  constructor
  · intro hn
    cases hs : okH t g S
    · rfl
    · exfalso
      obtain ⟨a1, a2, a3, a4⟩ := (okH_iff _ _ _).1 hs
      simp [a3, a4] at h1
      have : okH t g R = true := (okH_iff _ _ _).2 ⟨a1, a2, h1⟩
      rw [this] at hn
      cases hn
  · intro hy h0
    obtain ⟨a1, a2, a3, a4⟩ := (okH_iff _ _ _).1 hy
    simp only [a4, h0, decide_true, decide_false, Bool.not_false, Bool.and_self, Bool.not_true, Bool.false_or, Bool.and_eq_true] at h2
    obtain ⟨b1, b2, b3, b4, b5, b6⟩ := h2
    have hs : okH t g S = true := (okH_iff _ _ _).2 ⟨a1, a2, of_decide_eq_true b2, of_decide_eq_true b3⟩
    refine ⟨hs, by simp [withinH, hs, hy, b4], by simp at b5; simp [withinH, b5], ?_⟩
    rcases askR_cases d with e | e
    · constructor
      · simp [allowsH, e]
      · rw [e]; rcases hq with rfl | rfl | rfl <;> rfl
    · have ha : askR d ∈ [1, 2, 4] := by rcases e with e | e | e <;> simp [e]
      have hb := List.all_eq_true.1 b6 (askR d) ha
      simp only [Bool.and_eq_true, beq_iff_eq] at hb
      have hp : 0 < askR d := by omega
      simp only [allowsH, hs, hy, hp, decide_true, Bool.true_and]
      exact hb


set_option maxRecDepth 100000 in
set_option maxHeartbeats 6400000 in
theorem HandleApart_0 (t g r b d : Int) (r0 : 0 ≤ r) (r1 : r ≤ 255) (hm : Int.tmod b 3 = -2) (w : World) (hw : Laid w) :
    Calls Tryd.prog 8 #[.int .i64 t, .int .u32 g, .int .u8 r, .int .i64 b, .int .i64 d] w fun e w' => e = .returned (.bool true) ∧ Later w w' := by
  obtain ⟨R, hR⟩ : ∃ R, bits .or .u8 r 2 = R := ⟨_, rfl⟩
  obtain ⟨S, hS⟩ : ∃ S, bits .andNot .u8 R 2 = S := ⟨_, rfl⟩
  obtain ⟨law1, law2⟩ := apart_law t g r 2 d r0 r1 (by omega) R S hR hS
  obtain ⟨a, ha⟩ : ∃ a, askR d = a := ⟨_, rfl⟩
  have HA := Lib.hid ha
  rw [ha] at law2
  clear ha r0 r1
  obtain ⟨o, ho⟩ : ∃ o, okH t g R = o := ⟨_, rfl⟩
  have HO := Lib.hid ho
  obtain ⟨p, hp⟩ : ∃ p, okH t g S = p := ⟨_, rfl⟩
  have HP := Lib.hid hp
  rw [ho, hp] at law1 law2
  clear ho hp
  obtain ⟨x, hx⟩ : ∃ x, allowsH t g R d = x := ⟨_, rfl⟩
  obtain ⟨y, hy⟩ : ∃ y, allowsH t g S d = y := ⟨_, rfl⟩
  have HX := Lib.hid hx
  have HY := Lib.hid hy
  rw [hx, hy] at law2
  clear hx hy
  obtain ⟨z, hz⟩ : ∃ z, decide (S = 0) = z := ⟨_, rfl⟩
  have law3 : o = true → z = false → p = true ∧ withinH t g S t g R = true ∧ withinH t g R t g S = false ∧ y = (x && !decide (a = 2)) ∧ (!decide (a = 2) || x) = true := fun e1 e2 => law2 e1 (by rw [← hz] at e2; exact of_decide_eq_false e2)
  have hz' : (S == 0) = z := by rw [← hz]; exact beq_dec _ _
  clear law2 hz
  have L1 := Lib.hid law1
  have L3 := Lib.hid law3
  clear law1 law3
  go_enter Tryd.func8, Tryd.ntmps8
  go_wp2_with fail
  refine (awake_is _ hw).mono ?_
  rintro e w1 ⟨rfl, hb1⟩
  go_wp2_with fail
  refine (Right_is t g R o HO.out _).mono ?_
  rintro e w2 ⟨rfl, hb2⟩
  have k10 := cell_at hb2 (p := ⟨w1.heap.size + 1, 0, none⟩) (v := .int .i64 t) (by go_cell) (by simp <;> omega)
  have k11 := cell_at hb2 (p := ⟨w1.heap.size + 1, 1, none⟩) (v := .int .u32 g) (by go_cell) (by simp <;> omega)
  have k12 := cell_at hb2 (p := ⟨w1.heap.size + 1, 2, none⟩) (v := .int .u8 R) (by go_cell) (by simp <;> omega)
  have k20 := cell_at hb2 (p := ⟨w1.heap.size + 1 + 1, 0, none⟩) (v := .int .i64 t) (by go_cell) (by simp <;> omega)
  have k21 := cell_at hb2 (p := ⟨w1.heap.size + 1 + 1, 1, none⟩) (v := .int .u32 g) (by go_cell) (by simp <;> omega)
  have k22 := cell_at hb2 (p := ⟨w1.heap.size + 1 + 1, 2, none⟩) (v := .int .u8 S) (by go_cell) (by simp <;> omega)
  have hs2 : w1.heap.size + 2 < w2.heap.size := Nat.lt_of_lt_of_le (by simp <;> omega) hb2.size
  have hl2 : Later w w2 := by
    refine Later.trans ?_ hb2
    refine Later.trans hb1 ?_
    repeat (first | exact Later.refl _ | apply Later.alloc | (refine Later.setCell ?_ _ _ (by simp <;> omega)))
  clear hb1 hb2
  cases o
  · obtain rfl : p = false := L1.out rfl
    go_wp2_with fail
    refine (Right_is t g S false HP.out _).mono ?_
    rintro e w3 ⟨rfl, hb3⟩
    go_wp2_with fail
    go_ret
    exact ⟨rfl, hl2.trans hb3⟩
  cases z
  case true =>
    go_wp2_with fail
    refine (Right_is t g S p HP.out _).mono ?_
    rintro e w3 ⟨rfl, hb3⟩
    have m10 := cell_at hb3 k10 (by simp <;> omega)
    have m11 := cell_at hb3 k11 (by simp <;> omega)
    have m12 := cell_at hb3 k12 (by simp <;> omega)
    cases p
    · go_wp2_with fail
      go_ret
      exact ⟨rfl, hl2.trans hb3⟩
    · go_wp2_with fail
      refine (Right_is t g R true HO.out _).mono ?_
      rintro e w4 ⟨rfl, hb4⟩
      go_wp2_with fail
      go_ret
      exact ⟨rfl, (hl2.trans hb3).trans hb4⟩
  obtain ⟨rfl, hin, hout, rfl, hor⟩ := L3.out rfl rfl
  have HIN := Lib.hid hin
  have HOUT := Lib.hid hout
  have HQ : Hid (decide (0 < a) = decide (0 < a)) := Lib.hid rfl
  obtain ⟨n, hn⟩ : ∃ n, decide (a = 2) = n := ⟨_, rfl⟩
  rw [hn] at hor HY
  have hn' : (a != 2) = !n := by rw [← hn, bne, beq_dec]
  clear hin hout hn
  go_wp2_with fail
  refine (Asks_is d a _ HA.out rfl _).mono ?_
  rintro e w3 ⟨rfl, hb3⟩
  have m10 := cell_at hb3 k10 (by simp <;> omega)
  have z10 := cell_regrown m10
  have m11 := cell_at hb3 k11 (by simp <;> omega)
  have z11 := cell_regrown m11
  have m12 := cell_at hb3 k12 (by simp <;> omega)
  have z12 := cell_regrown m12
  have m20 := cell_at hb3 k20 (by simp <;> omega)
  have z20 := cell_regrown m20
  have m21 := cell_at hb3 k21 (by simp <;> omega)
  have z21 := cell_regrown m21
  have m22 := cell_at hb3 k22 (by simp <;> omega)
  have z22 := cell_regrown m22
  have hl3 := hl2.trans hb3
  clear hb3 hl2 k10 k11 k12 k20 k21 k22
  go_wp2_with fail
  have c1 := fun d' os => quiet_later (Right_is t g S true HP.out (grow (redrawn w3 d') os))
  have c2 := fun d' os => quiet_later (Within_is t g S t g R true HIN.out (grow (redrawn w3 d') os))
  have c3 := fun d' os => quiet_later (Within_is t g R t g S false HOUT.out (grow (redrawn w3 d') os))
  have c4 := fun d' os => quiet_later (Allows_is t g S d _ HY.out (grow (redrawn w3 d') os))
  have c5 := fun d' os => quiet_later (Allows_is t g R d _ HX.out (grow (redrawn w3 d') os))
  have mixed : Tryd.prog.follows .mixedOrders = true := by kernel_rfl
  cases x <;> cases n <;> (try (exfalso; revert hor; simp; done))
  all_goals
    clear hor
    refine wp_region_quiet_below mixed (by kernel_rfl) ?_
    repeat (quiet_step (first | with_reducible exact c1 _ _ | with_reducible exact c2 _ _ | with_reducible exact c3 _ _ | with_reducible exact c4 _ _ | with_reducible exact c5 _ _))
    refine wpQuiet_nil ?_
    intro _ hw'
    obtain ⟨⟨dq, osq⟩, hw''⟩ := hw'
    subst hw''
    have hlU : Later w (grow (redrawn w3 dq) osq) := hl3.trans (below_regrown w3 dq osq)
    go_wp2_with fail
    go_ret
    exact ⟨rfl, hlU⟩

set_option maxRecDepth 100000 in
set_option maxHeartbeats 6400000 in
theorem HandleApart_1 (t g r b d : Int) (r0 : 0 ≤ r) (r1 : r ≤ 255) (hm : Int.tmod b 3 = -1) (w : World) (hw : Laid w) :
    Calls Tryd.prog 8 #[.int .i64 t, .int .u32 g, .int .u8 r, .int .i64 b, .int .i64 d] w fun e w' => e = .returned (.bool true) ∧ Later w w' := by
  obtain ⟨R, hR⟩ : ∃ R, bits .or .u8 r 4 = R := ⟨_, rfl⟩
  obtain ⟨S, hS⟩ : ∃ S, bits .andNot .u8 R 4 = S := ⟨_, rfl⟩
  obtain ⟨law1, law2⟩ := apart_law t g r 4 d r0 r1 (by omega) R S hR hS
  obtain ⟨a, ha⟩ : ∃ a, askR d = a := ⟨_, rfl⟩
  have HA := Lib.hid ha
  rw [ha] at law2
  clear ha r0 r1
  obtain ⟨o, ho⟩ : ∃ o, okH t g R = o := ⟨_, rfl⟩
  have HO := Lib.hid ho
  obtain ⟨p, hp⟩ : ∃ p, okH t g S = p := ⟨_, rfl⟩
  have HP := Lib.hid hp
  rw [ho, hp] at law1 law2
  clear ho hp
  obtain ⟨x, hx⟩ : ∃ x, allowsH t g R d = x := ⟨_, rfl⟩
  obtain ⟨y, hy⟩ : ∃ y, allowsH t g S d = y := ⟨_, rfl⟩
  have HX := Lib.hid hx
  have HY := Lib.hid hy
  rw [hx, hy] at law2
  clear hx hy
  obtain ⟨z, hz⟩ : ∃ z, decide (S = 0) = z := ⟨_, rfl⟩
  have law3 : o = true → z = false → p = true ∧ withinH t g S t g R = true ∧ withinH t g R t g S = false ∧ y = (x && !decide (a = 4)) ∧ (!decide (a = 4) || x) = true := fun e1 e2 => law2 e1 (by rw [← hz] at e2; exact of_decide_eq_false e2)
  have hz' : (S == 0) = z := by rw [← hz]; exact beq_dec _ _
  clear law2 hz
  have L1 := Lib.hid law1
  have L3 := Lib.hid law3
  clear law1 law3
  go_enter Tryd.func8, Tryd.ntmps8
  go_wp2_with fail
  refine (awake_is _ hw).mono ?_
  rintro e w1 ⟨rfl, hb1⟩
  go_wp2_with fail
  refine (Right_is t g R o HO.out _).mono ?_
  rintro e w2 ⟨rfl, hb2⟩
  have k10 := cell_at hb2 (p := ⟨w1.heap.size + 1, 0, none⟩) (v := .int .i64 t) (by go_cell) (by simp <;> omega)
  have k11 := cell_at hb2 (p := ⟨w1.heap.size + 1, 1, none⟩) (v := .int .u32 g) (by go_cell) (by simp <;> omega)
  have k12 := cell_at hb2 (p := ⟨w1.heap.size + 1, 2, none⟩) (v := .int .u8 R) (by go_cell) (by simp <;> omega)
  have k20 := cell_at hb2 (p := ⟨w1.heap.size + 1 + 1, 0, none⟩) (v := .int .i64 t) (by go_cell) (by simp <;> omega)
  have k21 := cell_at hb2 (p := ⟨w1.heap.size + 1 + 1, 1, none⟩) (v := .int .u32 g) (by go_cell) (by simp <;> omega)
  have k22 := cell_at hb2 (p := ⟨w1.heap.size + 1 + 1, 2, none⟩) (v := .int .u8 S) (by go_cell) (by simp <;> omega)
  have hs2 : w1.heap.size + 2 < w2.heap.size := Nat.lt_of_lt_of_le (by simp <;> omega) hb2.size
  have hl2 : Later w w2 := by
    refine Later.trans ?_ hb2
    refine Later.trans hb1 ?_
    repeat (first | exact Later.refl _ | apply Later.alloc | (refine Later.setCell ?_ _ _ (by simp <;> omega)))
  clear hb1 hb2
  cases o
  · obtain rfl : p = false := L1.out rfl
    go_wp2_with fail
    refine (Right_is t g S false HP.out _).mono ?_
    rintro e w3 ⟨rfl, hb3⟩
    go_wp2_with fail
    go_ret
    exact ⟨rfl, hl2.trans hb3⟩
  cases z
  case true =>
    go_wp2_with fail
    refine (Right_is t g S p HP.out _).mono ?_
    rintro e w3 ⟨rfl, hb3⟩
    have m10 := cell_at hb3 k10 (by simp <;> omega)
    have m11 := cell_at hb3 k11 (by simp <;> omega)
    have m12 := cell_at hb3 k12 (by simp <;> omega)
    cases p
    · go_wp2_with fail
      go_ret
      exact ⟨rfl, hl2.trans hb3⟩
    · go_wp2_with fail
      refine (Right_is t g R true HO.out _).mono ?_
      rintro e w4 ⟨rfl, hb4⟩
      go_wp2_with fail
      go_ret
      exact ⟨rfl, (hl2.trans hb3).trans hb4⟩
  obtain ⟨rfl, hin, hout, rfl, hor⟩ := L3.out rfl rfl
  have HIN := Lib.hid hin
  have HOUT := Lib.hid hout
  have HQ : Hid (decide (0 < a) = decide (0 < a)) := Lib.hid rfl
  obtain ⟨n, hn⟩ : ∃ n, decide (a = 4) = n := ⟨_, rfl⟩
  rw [hn] at hor HY
  have hn' : (a != 4) = !n := by rw [← hn, bne, beq_dec]
  clear hin hout hn
  go_wp2_with fail
  refine (Asks_is d a _ HA.out rfl _).mono ?_
  rintro e w3 ⟨rfl, hb3⟩
  have m10 := cell_at hb3 k10 (by simp <;> omega)
  have z10 := cell_regrown m10
  have m11 := cell_at hb3 k11 (by simp <;> omega)
  have z11 := cell_regrown m11
  have m12 := cell_at hb3 k12 (by simp <;> omega)
  have z12 := cell_regrown m12
  have m20 := cell_at hb3 k20 (by simp <;> omega)
  have z20 := cell_regrown m20
  have m21 := cell_at hb3 k21 (by simp <;> omega)
  have z21 := cell_regrown m21
  have m22 := cell_at hb3 k22 (by simp <;> omega)
  have z22 := cell_regrown m22
  have hl3 := hl2.trans hb3
  clear hb3 hl2 k10 k11 k12 k20 k21 k22
  go_wp2_with fail
  have c1 := fun d' os => quiet_later (Right_is t g S true HP.out (grow (redrawn w3 d') os))
  have c2 := fun d' os => quiet_later (Within_is t g S t g R true HIN.out (grow (redrawn w3 d') os))
  have c3 := fun d' os => quiet_later (Within_is t g R t g S false HOUT.out (grow (redrawn w3 d') os))
  have c4 := fun d' os => quiet_later (Allows_is t g S d _ HY.out (grow (redrawn w3 d') os))
  have c5 := fun d' os => quiet_later (Allows_is t g R d _ HX.out (grow (redrawn w3 d') os))
  have mixed : Tryd.prog.follows .mixedOrders = true := by kernel_rfl
  cases x <;> cases n <;> (try (exfalso; revert hor; simp; done))
  all_goals
    clear hor
    refine wp_region_quiet_below mixed (by kernel_rfl) ?_
    repeat (quiet_step (first | with_reducible exact c1 _ _ | with_reducible exact c2 _ _ | with_reducible exact c3 _ _ | with_reducible exact c4 _ _ | with_reducible exact c5 _ _))
    refine wpQuiet_nil ?_
    intro _ hw'
    obtain ⟨⟨dq, osq⟩, hw''⟩ := hw'
    subst hw''
    have hlU : Later w (grow (redrawn w3 dq) osq) := hl3.trans (below_regrown w3 dq osq)
    go_wp2_with fail
    go_ret
    exact ⟨rfl, hlU⟩

set_option maxRecDepth 100000 in
set_option maxHeartbeats 6400000 in
theorem HandleApart_2 (t g r b d : Int) (r0 : 0 ≤ r) (r1 : r ≤ 255) (hm : Int.tmod b 3 = 0) (w : World) (hw : Laid w) :
    Calls Tryd.prog 8 #[.int .i64 t, .int .u32 g, .int .u8 r, .int .i64 b, .int .i64 d] w fun e w' => e = .returned (.bool true) ∧ Later w w' := by
  obtain ⟨R, hR⟩ : ∃ R, bits .or .u8 r 1 = R := ⟨_, rfl⟩
  obtain ⟨S, hS⟩ : ∃ S, bits .andNot .u8 R 1 = S := ⟨_, rfl⟩
  obtain ⟨law1, law2⟩ := apart_law t g r 1 d r0 r1 (by omega) R S hR hS
  obtain ⟨a, ha⟩ : ∃ a, askR d = a := ⟨_, rfl⟩
  have HA := Lib.hid ha
  rw [ha] at law2
  clear ha r0 r1
  obtain ⟨o, ho⟩ : ∃ o, okH t g R = o := ⟨_, rfl⟩
  have HO := Lib.hid ho
  obtain ⟨p, hp⟩ : ∃ p, okH t g S = p := ⟨_, rfl⟩
  have HP := Lib.hid hp
  rw [ho, hp] at law1 law2
  clear ho hp
  obtain ⟨x, hx⟩ : ∃ x, allowsH t g R d = x := ⟨_, rfl⟩
  obtain ⟨y, hy⟩ : ∃ y, allowsH t g S d = y := ⟨_, rfl⟩
  have HX := Lib.hid hx
  have HY := Lib.hid hy
  rw [hx, hy] at law2
  clear hx hy
  obtain ⟨z, hz⟩ : ∃ z, decide (S = 0) = z := ⟨_, rfl⟩
  have law3 : o = true → z = false → p = true ∧ withinH t g S t g R = true ∧ withinH t g R t g S = false ∧ y = (x && !decide (a = 1)) ∧ (!decide (a = 1) || x) = true := fun e1 e2 => law2 e1 (by rw [← hz] at e2; exact of_decide_eq_false e2)
  have hz' : (S == 0) = z := by rw [← hz]; exact beq_dec _ _
  clear law2 hz
  have L1 := Lib.hid law1
  have L3 := Lib.hid law3
  clear law1 law3
  go_enter Tryd.func8, Tryd.ntmps8
  go_wp2_with fail
  refine (awake_is _ hw).mono ?_
  rintro e w1 ⟨rfl, hb1⟩
  go_wp2_with fail
  refine (Right_is t g R o HO.out _).mono ?_
  rintro e w2 ⟨rfl, hb2⟩
  have k10 := cell_at hb2 (p := ⟨w1.heap.size + 1, 0, none⟩) (v := .int .i64 t) (by go_cell) (by simp <;> omega)
  have k11 := cell_at hb2 (p := ⟨w1.heap.size + 1, 1, none⟩) (v := .int .u32 g) (by go_cell) (by simp <;> omega)
  have k12 := cell_at hb2 (p := ⟨w1.heap.size + 1, 2, none⟩) (v := .int .u8 R) (by go_cell) (by simp <;> omega)
  have k20 := cell_at hb2 (p := ⟨w1.heap.size + 1 + 1, 0, none⟩) (v := .int .i64 t) (by go_cell) (by simp <;> omega)
  have k21 := cell_at hb2 (p := ⟨w1.heap.size + 1 + 1, 1, none⟩) (v := .int .u32 g) (by go_cell) (by simp <;> omega)
  have k22 := cell_at hb2 (p := ⟨w1.heap.size + 1 + 1, 2, none⟩) (v := .int .u8 S) (by go_cell) (by simp <;> omega)
  have hs2 : w1.heap.size + 2 < w2.heap.size := Nat.lt_of_lt_of_le (by simp <;> omega) hb2.size
  have hl2 : Later w w2 := by
    refine Later.trans ?_ hb2
    refine Later.trans hb1 ?_
    repeat (first | exact Later.refl _ | apply Later.alloc | (refine Later.setCell ?_ _ _ (by simp <;> omega)))
  clear hb1 hb2
  cases o
  · obtain rfl : p = false := L1.out rfl
    go_wp2_with fail
    refine (Right_is t g S false HP.out _).mono ?_
    rintro e w3 ⟨rfl, hb3⟩
    go_wp2_with fail
    go_ret
    exact ⟨rfl, hl2.trans hb3⟩
  cases z
  case true =>
    go_wp2_with fail
    refine (Right_is t g S p HP.out _).mono ?_
    rintro e w3 ⟨rfl, hb3⟩
    have m10 := cell_at hb3 k10 (by simp <;> omega)
    have m11 := cell_at hb3 k11 (by simp <;> omega)
    have m12 := cell_at hb3 k12 (by simp <;> omega)
    cases p
    · go_wp2_with fail
      go_ret
      exact ⟨rfl, hl2.trans hb3⟩
    · go_wp2_with fail
      refine (Right_is t g R true HO.out _).mono ?_
      rintro e w4 ⟨rfl, hb4⟩
      go_wp2_with fail
      go_ret
      exact ⟨rfl, (hl2.trans hb3).trans hb4⟩
  obtain ⟨rfl, hin, hout, rfl, hor⟩ := L3.out rfl rfl
  have HIN := Lib.hid hin
  have HOUT := Lib.hid hout
  have HQ : Hid (decide (0 < a) = decide (0 < a)) := Lib.hid rfl
  obtain ⟨n, hn⟩ : ∃ n, decide (a = 1) = n := ⟨_, rfl⟩
  rw [hn] at hor HY
  have hn' : (a != 1) = !n := by rw [← hn, bne, beq_dec]
  clear hin hout hn
  go_wp2_with fail
  refine (Asks_is d a _ HA.out rfl _).mono ?_
  rintro e w3 ⟨rfl, hb3⟩
  have m10 := cell_at hb3 k10 (by simp <;> omega)
  have z10 := cell_regrown m10
  have m11 := cell_at hb3 k11 (by simp <;> omega)
  have z11 := cell_regrown m11
  have m12 := cell_at hb3 k12 (by simp <;> omega)
  have z12 := cell_regrown m12
  have m20 := cell_at hb3 k20 (by simp <;> omega)
  have z20 := cell_regrown m20
  have m21 := cell_at hb3 k21 (by simp <;> omega)
  have z21 := cell_regrown m21
  have m22 := cell_at hb3 k22 (by simp <;> omega)
  have z22 := cell_regrown m22
  have hl3 := hl2.trans hb3
  clear hb3 hl2 k10 k11 k12 k20 k21 k22
  go_wp2_with fail
  have c1 := fun d' os => quiet_later (Right_is t g S true HP.out (grow (redrawn w3 d') os))
  have c2 := fun d' os => quiet_later (Within_is t g S t g R true HIN.out (grow (redrawn w3 d') os))
  have c3 := fun d' os => quiet_later (Within_is t g R t g S false HOUT.out (grow (redrawn w3 d') os))
  have c4 := fun d' os => quiet_later (Allows_is t g S d _ HY.out (grow (redrawn w3 d') os))
  have c5 := fun d' os => quiet_later (Allows_is t g R d _ HX.out (grow (redrawn w3 d') os))
  have mixed : Tryd.prog.follows .mixedOrders = true := by kernel_rfl
  cases x <;> cases n <;> (try (exfalso; revert hor; simp; done))
  all_goals
    clear hor
    refine wp_region_quiet_below mixed (by kernel_rfl) ?_
    repeat (quiet_step (first | with_reducible exact c1 _ _ | with_reducible exact c2 _ _ | with_reducible exact c3 _ _ | with_reducible exact c4 _ _ | with_reducible exact c5 _ _))
    refine wpQuiet_nil ?_
    intro _ hw'
    obtain ⟨⟨dq, osq⟩, hw''⟩ := hw'
    subst hw''
    have hlU : Later w (grow (redrawn w3 dq) osq) := hl3.trans (below_regrown w3 dq osq)
    go_wp2_with fail
    go_ret
    exact ⟨rfl, hlU⟩

set_option maxRecDepth 100000 in
set_option maxHeartbeats 6400000 in
theorem HandleApart_3 (t g r b d : Int) (r0 : 0 ≤ r) (r1 : r ≤ 255) (hm : Int.tmod b 3 = 1) (w : World) (hw : Laid w) :
    Calls Tryd.prog 8 #[.int .i64 t, .int .u32 g, .int .u8 r, .int .i64 b, .int .i64 d] w fun e w' => e = .returned (.bool true) ∧ Later w w' := by
  obtain ⟨R, hR⟩ : ∃ R, bits .or .u8 r 2 = R := ⟨_, rfl⟩
  obtain ⟨S, hS⟩ : ∃ S, bits .andNot .u8 R 2 = S := ⟨_, rfl⟩
  obtain ⟨law1, law2⟩ := apart_law t g r 2 d r0 r1 (by omega) R S hR hS
  obtain ⟨a, ha⟩ : ∃ a, askR d = a := ⟨_, rfl⟩
  have HA := Lib.hid ha
  rw [ha] at law2
  clear ha r0 r1
  obtain ⟨o, ho⟩ : ∃ o, okH t g R = o := ⟨_, rfl⟩
  have HO := Lib.hid ho
  obtain ⟨p, hp⟩ : ∃ p, okH t g S = p := ⟨_, rfl⟩
  have HP := Lib.hid hp
  rw [ho, hp] at law1 law2
  clear ho hp
  obtain ⟨x, hx⟩ : ∃ x, allowsH t g R d = x := ⟨_, rfl⟩
  obtain ⟨y, hy⟩ : ∃ y, allowsH t g S d = y := ⟨_, rfl⟩
  have HX := Lib.hid hx
  have HY := Lib.hid hy
  rw [hx, hy] at law2
  clear hx hy
  obtain ⟨z, hz⟩ : ∃ z, decide (S = 0) = z := ⟨_, rfl⟩
  have law3 : o = true → z = false → p = true ∧ withinH t g S t g R = true ∧ withinH t g R t g S = false ∧ y = (x && !decide (a = 2)) ∧ (!decide (a = 2) || x) = true := fun e1 e2 => law2 e1 (by rw [← hz] at e2; exact of_decide_eq_false e2)
  have hz' : (S == 0) = z := by rw [← hz]; exact beq_dec _ _
  clear law2 hz
  have L1 := Lib.hid law1
  have L3 := Lib.hid law3
  clear law1 law3
  go_enter Tryd.func8, Tryd.ntmps8
  go_wp2_with fail
  refine (awake_is _ hw).mono ?_
  rintro e w1 ⟨rfl, hb1⟩
  go_wp2_with fail
  refine (Right_is t g R o HO.out _).mono ?_
  rintro e w2 ⟨rfl, hb2⟩
  have k10 := cell_at hb2 (p := ⟨w1.heap.size + 1, 0, none⟩) (v := .int .i64 t) (by go_cell) (by simp <;> omega)
  have k11 := cell_at hb2 (p := ⟨w1.heap.size + 1, 1, none⟩) (v := .int .u32 g) (by go_cell) (by simp <;> omega)
  have k12 := cell_at hb2 (p := ⟨w1.heap.size + 1, 2, none⟩) (v := .int .u8 R) (by go_cell) (by simp <;> omega)
  have k20 := cell_at hb2 (p := ⟨w1.heap.size + 1 + 1, 0, none⟩) (v := .int .i64 t) (by go_cell) (by simp <;> omega)
  have k21 := cell_at hb2 (p := ⟨w1.heap.size + 1 + 1, 1, none⟩) (v := .int .u32 g) (by go_cell) (by simp <;> omega)
  have k22 := cell_at hb2 (p := ⟨w1.heap.size + 1 + 1, 2, none⟩) (v := .int .u8 S) (by go_cell) (by simp <;> omega)
  have hs2 : w1.heap.size + 2 < w2.heap.size := Nat.lt_of_lt_of_le (by simp <;> omega) hb2.size
  have hl2 : Later w w2 := by
    refine Later.trans ?_ hb2
    refine Later.trans hb1 ?_
    repeat (first | exact Later.refl _ | apply Later.alloc | (refine Later.setCell ?_ _ _ (by simp <;> omega)))
  clear hb1 hb2
  cases o
  · obtain rfl : p = false := L1.out rfl
    go_wp2_with fail
    refine (Right_is t g S false HP.out _).mono ?_
    rintro e w3 ⟨rfl, hb3⟩
    go_wp2_with fail
    go_ret
    exact ⟨rfl, hl2.trans hb3⟩
  cases z
  case true =>
    go_wp2_with fail
    refine (Right_is t g S p HP.out _).mono ?_
    rintro e w3 ⟨rfl, hb3⟩
    have m10 := cell_at hb3 k10 (by simp <;> omega)
    have m11 := cell_at hb3 k11 (by simp <;> omega)
    have m12 := cell_at hb3 k12 (by simp <;> omega)
    cases p
    · go_wp2_with fail
      go_ret
      exact ⟨rfl, hl2.trans hb3⟩
    · go_wp2_with fail
      refine (Right_is t g R true HO.out _).mono ?_
      rintro e w4 ⟨rfl, hb4⟩
      go_wp2_with fail
      go_ret
      exact ⟨rfl, (hl2.trans hb3).trans hb4⟩
  obtain ⟨rfl, hin, hout, rfl, hor⟩ := L3.out rfl rfl
  have HIN := Lib.hid hin
  have HOUT := Lib.hid hout
  have HQ : Hid (decide (0 < a) = decide (0 < a)) := Lib.hid rfl
  obtain ⟨n, hn⟩ : ∃ n, decide (a = 2) = n := ⟨_, rfl⟩
  rw [hn] at hor HY
  have hn' : (a != 2) = !n := by rw [← hn, bne, beq_dec]
  clear hin hout hn
  go_wp2_with fail
  refine (Asks_is d a _ HA.out rfl _).mono ?_
  rintro e w3 ⟨rfl, hb3⟩
  have m10 := cell_at hb3 k10 (by simp <;> omega)
  have z10 := cell_regrown m10
  have m11 := cell_at hb3 k11 (by simp <;> omega)
  have z11 := cell_regrown m11
  have m12 := cell_at hb3 k12 (by simp <;> omega)
  have z12 := cell_regrown m12
  have m20 := cell_at hb3 k20 (by simp <;> omega)
  have z20 := cell_regrown m20
  have m21 := cell_at hb3 k21 (by simp <;> omega)
  have z21 := cell_regrown m21
  have m22 := cell_at hb3 k22 (by simp <;> omega)
  have z22 := cell_regrown m22
  have hl3 := hl2.trans hb3
  clear hb3 hl2 k10 k11 k12 k20 k21 k22
  go_wp2_with fail
  have c1 := fun d' os => quiet_later (Right_is t g S true HP.out (grow (redrawn w3 d') os))
  have c2 := fun d' os => quiet_later (Within_is t g S t g R true HIN.out (grow (redrawn w3 d') os))
  have c3 := fun d' os => quiet_later (Within_is t g R t g S false HOUT.out (grow (redrawn w3 d') os))
  have c4 := fun d' os => quiet_later (Allows_is t g S d _ HY.out (grow (redrawn w3 d') os))
  have c5 := fun d' os => quiet_later (Allows_is t g R d _ HX.out (grow (redrawn w3 d') os))
  have mixed : Tryd.prog.follows .mixedOrders = true := by kernel_rfl
  cases x <;> cases n <;> (try (exfalso; revert hor; simp; done))
  all_goals
    clear hor
    refine wp_region_quiet_below mixed (by kernel_rfl) ?_
    repeat (quiet_step (first | with_reducible exact c1 _ _ | with_reducible exact c2 _ _ | with_reducible exact c3 _ _ | with_reducible exact c4 _ _ | with_reducible exact c5 _ _))
    refine wpQuiet_nil ?_
    intro _ hw'
    obtain ⟨⟨dq, osq⟩, hw''⟩ := hw'
    subst hw''
    have hlU : Later w (grow (redrawn w3 dq) osq) := hl3.trans (below_regrown w3 dq osq)
    go_wp2_with fail
    go_ret
    exact ⟨rfl, hlU⟩

set_option maxRecDepth 100000 in
set_option maxHeartbeats 6400000 in
theorem HandleApart_4 (t g r b d : Int) (r0 : 0 ≤ r) (r1 : r ≤ 255) (hm : Int.tmod b 3 = 2) (w : World) (hw : Laid w) :
    Calls Tryd.prog 8 #[.int .i64 t, .int .u32 g, .int .u8 r, .int .i64 b, .int .i64 d] w fun e w' => e = .returned (.bool true) ∧ Later w w' := by
  obtain ⟨R, hR⟩ : ∃ R, bits .or .u8 r 4 = R := ⟨_, rfl⟩
  obtain ⟨S, hS⟩ : ∃ S, bits .andNot .u8 R 4 = S := ⟨_, rfl⟩
  obtain ⟨law1, law2⟩ := apart_law t g r 4 d r0 r1 (by omega) R S hR hS
  obtain ⟨a, ha⟩ : ∃ a, askR d = a := ⟨_, rfl⟩
  have HA := Lib.hid ha
  rw [ha] at law2
  clear ha r0 r1
  obtain ⟨o, ho⟩ : ∃ o, okH t g R = o := ⟨_, rfl⟩
  have HO := Lib.hid ho
  obtain ⟨p, hp⟩ : ∃ p, okH t g S = p := ⟨_, rfl⟩
  have HP := Lib.hid hp
  rw [ho, hp] at law1 law2
  clear ho hp
  obtain ⟨x, hx⟩ : ∃ x, allowsH t g R d = x := ⟨_, rfl⟩
  obtain ⟨y, hy⟩ : ∃ y, allowsH t g S d = y := ⟨_, rfl⟩
  have HX := Lib.hid hx
  have HY := Lib.hid hy
  rw [hx, hy] at law2
  clear hx hy
  obtain ⟨z, hz⟩ : ∃ z, decide (S = 0) = z := ⟨_, rfl⟩
  have law3 : o = true → z = false → p = true ∧ withinH t g S t g R = true ∧ withinH t g R t g S = false ∧ y = (x && !decide (a = 4)) ∧ (!decide (a = 4) || x) = true := fun e1 e2 => law2 e1 (by rw [← hz] at e2; exact of_decide_eq_false e2)
  have hz' : (S == 0) = z := by rw [← hz]; exact beq_dec _ _
  clear law2 hz
  have L1 := Lib.hid law1
  have L3 := Lib.hid law3
  clear law1 law3
  go_enter Tryd.func8, Tryd.ntmps8
  go_wp2_with fail
  refine (awake_is _ hw).mono ?_
  rintro e w1 ⟨rfl, hb1⟩
  go_wp2_with fail
  refine (Right_is t g R o HO.out _).mono ?_
  rintro e w2 ⟨rfl, hb2⟩
  have k10 := cell_at hb2 (p := ⟨w1.heap.size + 1, 0, none⟩) (v := .int .i64 t) (by go_cell) (by simp <;> omega)
  have k11 := cell_at hb2 (p := ⟨w1.heap.size + 1, 1, none⟩) (v := .int .u32 g) (by go_cell) (by simp <;> omega)
  have k12 := cell_at hb2 (p := ⟨w1.heap.size + 1, 2, none⟩) (v := .int .u8 R) (by go_cell) (by simp <;> omega)
  have k20 := cell_at hb2 (p := ⟨w1.heap.size + 1 + 1, 0, none⟩) (v := .int .i64 t) (by go_cell) (by simp <;> omega)
  have k21 := cell_at hb2 (p := ⟨w1.heap.size + 1 + 1, 1, none⟩) (v := .int .u32 g) (by go_cell) (by simp <;> omega)
  have k22 := cell_at hb2 (p := ⟨w1.heap.size + 1 + 1, 2, none⟩) (v := .int .u8 S) (by go_cell) (by simp <;> omega)
  have hs2 : w1.heap.size + 2 < w2.heap.size := Nat.lt_of_lt_of_le (by simp <;> omega) hb2.size
  have hl2 : Later w w2 := by
    refine Later.trans ?_ hb2
    refine Later.trans hb1 ?_
    repeat (first | exact Later.refl _ | apply Later.alloc | (refine Later.setCell ?_ _ _ (by simp <;> omega)))
  clear hb1 hb2
  cases o
  · obtain rfl : p = false := L1.out rfl
    go_wp2_with fail
    refine (Right_is t g S false HP.out _).mono ?_
    rintro e w3 ⟨rfl, hb3⟩
    go_wp2_with fail
    go_ret
    exact ⟨rfl, hl2.trans hb3⟩
  cases z
  case true =>
    go_wp2_with fail
    refine (Right_is t g S p HP.out _).mono ?_
    rintro e w3 ⟨rfl, hb3⟩
    have m10 := cell_at hb3 k10 (by simp <;> omega)
    have m11 := cell_at hb3 k11 (by simp <;> omega)
    have m12 := cell_at hb3 k12 (by simp <;> omega)
    cases p
    · go_wp2_with fail
      go_ret
      exact ⟨rfl, hl2.trans hb3⟩
    · go_wp2_with fail
      refine (Right_is t g R true HO.out _).mono ?_
      rintro e w4 ⟨rfl, hb4⟩
      go_wp2_with fail
      go_ret
      exact ⟨rfl, (hl2.trans hb3).trans hb4⟩
  obtain ⟨rfl, hin, hout, rfl, hor⟩ := L3.out rfl rfl
  have HIN := Lib.hid hin
  have HOUT := Lib.hid hout
  have HQ : Hid (decide (0 < a) = decide (0 < a)) := Lib.hid rfl
  obtain ⟨n, hn⟩ : ∃ n, decide (a = 4) = n := ⟨_, rfl⟩
  rw [hn] at hor HY
  have hn' : (a != 4) = !n := by rw [← hn, bne, beq_dec]
  clear hin hout hn
  go_wp2_with fail
  refine (Asks_is d a _ HA.out rfl _).mono ?_
  rintro e w3 ⟨rfl, hb3⟩
  have m10 := cell_at hb3 k10 (by simp <;> omega)
  have z10 := cell_regrown m10
  have m11 := cell_at hb3 k11 (by simp <;> omega)
  have z11 := cell_regrown m11
  have m12 := cell_at hb3 k12 (by simp <;> omega)
  have z12 := cell_regrown m12
  have m20 := cell_at hb3 k20 (by simp <;> omega)
  have z20 := cell_regrown m20
  have m21 := cell_at hb3 k21 (by simp <;> omega)
  have z21 := cell_regrown m21
  have m22 := cell_at hb3 k22 (by simp <;> omega)
  have z22 := cell_regrown m22
  have hl3 := hl2.trans hb3
  clear hb3 hl2 k10 k11 k12 k20 k21 k22
  go_wp2_with fail
  have c1 := fun d' os => quiet_later (Right_is t g S true HP.out (grow (redrawn w3 d') os))
  have c2 := fun d' os => quiet_later (Within_is t g S t g R true HIN.out (grow (redrawn w3 d') os))
  have c3 := fun d' os => quiet_later (Within_is t g R t g S false HOUT.out (grow (redrawn w3 d') os))
  have c4 := fun d' os => quiet_later (Allows_is t g S d _ HY.out (grow (redrawn w3 d') os))
  have c5 := fun d' os => quiet_later (Allows_is t g R d _ HX.out (grow (redrawn w3 d') os))
  have mixed : Tryd.prog.follows .mixedOrders = true := by kernel_rfl
  cases x <;> cases n <;> (try (exfalso; revert hor; simp; done))
  all_goals
    clear hor
    refine wp_region_quiet_below mixed (by kernel_rfl) ?_
    repeat (quiet_step (first | with_reducible exact c1 _ _ | with_reducible exact c2 _ _ | with_reducible exact c3 _ _ | with_reducible exact c4 _ _ | with_reducible exact c5 _ _))
    refine wpQuiet_nil ?_
    intro _ hw'
    obtain ⟨⟨dq, osq⟩, hw''⟩ := hw'
    subst hw''
    have hlU : Later w (grow (redrawn w3 dq) osq) := hl3.trans (below_regrown w3 dq osq)
    go_wp2_with fail
    go_ret
    exact ⟨rfl, hlU⟩

theorem HandleApart_any (t g r b d : Int) (r0 : 0 ≤ r) (r1 : r ≤ 255) (w : World) (hw : Laid w) :
    Calls Tryd.prog 8 #[.int .i64 t, .int .u32 g, .int .u8 r, .int .i64 b, .int .i64 d] w fun e w' => e = .returned (.bool true) ∧ Later w w' := by
  have h1 : Int.tmod b 3 < 3 := Int.tmod_lt_of_pos b (by omega)
  have h2 : -3 < Int.tmod b 3 := Int.lt_tmod_of_pos b (by omega)
  have hc : Int.tmod b 3 = -2 ∨ Int.tmod b 3 = -1 ∨ Int.tmod b 3 = 0 ∨ Int.tmod b 3 = 1 ∨ Int.tmod b 3 = 2 := by omega
  rcases hc with hc | hc | hc | hc | hc
  · exact HandleApart_0 t g r b d r0 r1 hc w hw
  · exact HandleApart_1 t g r b d r0 r1 hc w hw
  · exact HandleApart_2 t g r b d r0 r1 hc w hw
  · exact HandleApart_3 t g r b d r0 r1 hc w hw
  · exact HandleApart_4 t g r b d r0 r1 hc w hw
end Go.Proofs.YtpfnccjfmbecfaaDoor
