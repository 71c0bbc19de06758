/-
  The law HandleGrants, walked. Conditions: the rights are bytes; the listed variables read as laid.
-/
import Derived.Test.YtpfnccjfmbecfaaDoorN
namespace Go.Proofs.YtpfnccjfmbecfaaDoor
open Go.RowKit Go.Sort Go.Lib

theorem within_iff (t g r t' g' r' : Int) : withinH t g r t' g' r' = true ↔ okH t g r = true ∧ okH t' g' r' = true ∧ t = t' ∧ g = g' ∧ inR r r' = true := by simp [withinH]
theorem inR_iff (a b : Int) : inR a b = true ↔ a % 2 ≤ b % 2 ∧ a / 2 % 2 ≤ b / 2 % 2 ∧ a / 4 % 2 ≤ b / 4 % 2 := by simp [inR]
theorem allows_iff (t g r d : Int) : allowsH t g r d = true ↔ okH t g r = true ∧ 0 < askR d ∧ r / askR d % 2 = 1 := by simp [allowsH]
theorem within_self (t g r : Int) : withinH t g r t g r = okH t g r := by
  rw [Bool.eq_iff_iff, within_iff, inR_iff]
  constructor
  · exact fun h => h.1
  · exact fun h => ⟨h, h, rfl, rfl, by omega, by omega, by omega⟩
theorem within_trans {t g r t' g' r' t2 g2 r2 : Int} (h : withinH t g r t' g' r' = true) (k : withinH t' g' r' t2 g2 r2 = true) : withinH t g r t2 g2 r2 = true := by
  rw [within_iff, inR_iff] at *
  obtain ⟨h1, h2, h3, h4, h5⟩ := h
  obtain ⟨k1, k2, k3, k4, k5⟩ := k
  exact ⟨h1, k2, by omega, by omega, by omega, by omega, by omega⟩
theorem within_anti {t g r t' g' r' : Int} (h : withinH t g r t' g' r' = true) (k : withinH t' g' r' t g r = true) : t = t' ∧ g = g' ∧ r = r' := by
  rw [within_iff, inR_iff] at *
  obtain ⟨h1, h2, h3, h4, h5⟩ := h
  obtain ⟨k1, k2, k3, k4, k5⟩ := k
  have e1 := (okH_iff _ _ _).1 h1
  have e2 := (okH_iff _ _ _).1 h2
  exact ⟨h3, h4, by omega⟩
theorem within_allows {t g r t' g' r' d : Int} (h : withinH t g r t' g' r' = true) (k : allowsH t g r d = true) : allowsH t' g' r' d = true := by
  rw [within_iff, inR_iff] at h
  rw [allows_iff] at *
  obtain ⟨h1, h2, h3, h4, h5⟩ := h
  obtain ⟨k1, k2, k3⟩ := k
  refine ⟨h2, k2, ?_⟩
  rcases askR_cases d with e | e | e | e <;> rw [e] at k2 k3 ⊢ <;> omega
theorem bit_and (r q : Int) (h : 1 ≤ r ∧ r ≤ 7) (hq : q = 1 ∨ q = 2 ∨ q = 4) : decide (0 < bits .and .u8 r q) = decide (r / q % 2 = 1) := by
  rcases seven r h with rfl | rfl | rfl | rfl | rfl | rfl | rfl <;> rcases hq with rfl | rfl | rfl <;> rfl

set_option maxRecDepth 100000 in
set_option maxHeartbeats 64000000 in
theorem HandleGrants_any (t g r t' g' r' t2 g2 r2 d : Int) (w : World) (hw : Laid w) :
    Calls Tryd.prog 7 #[.agg #[.int .i64 t, .int .u32 g, .int .u8 r], .agg #[.int .i64 t', .int .u32 g', .int .u8 r'], .agg #[.int .i64 t2, .int .u32 g2, .int .u8 r2], .int .i64 d] w fun e w' => e = .returned (.bool true) ∧ Later w w' := by
  obtain ⟨x12, h12⟩ : ∃ b, withinH t g r t' g' r' = b := ⟨_, rfl⟩
  obtain ⟨x21, h21⟩ : ∃ b, withinH t' g' r' t g r = b := ⟨_, rfl⟩
  obtain ⟨x23, h23⟩ : ∃ b, withinH t' g' r' t2 g2 r2 = b := ⟨_, rfl⟩
  obtain ⟨x13, h13⟩ : ∃ b, withinH t g r t2 g2 r2 = b := ⟨_, rfl⟩
  obtain ⟨o, ho⟩ : ∃ b, okH t g r = b := ⟨_, rfl⟩
  obtain ⟨ya, hya⟩ : ∃ b, allowsH t g r d = b := ⟨_, rfl⟩
  obtain ⟨yb, hyb⟩ : ∃ b, allowsH t' g' r' d = b := ⟨_, rfl⟩
  obtain ⟨q, hq⟩ : ∃ q, askR d = q := ⟨_, rfl⟩
  obtain ⟨p, hp⟩ : ∃ p, decide (0 < q) = p := ⟨_, rfl⟩
  have H11 := Lib.hid ((within_self t g r).trans ho)
  have H12 := Lib.hid h12
  have H21 := Lib.hid h21
  have H23 := Lib.hid h23
  have H13 := Lib.hid h13
  have HO := Lib.hid ho
  have HYA := Lib.hid hya
  have HYB := Lib.hid hyb
  have HQ := Lib.hid hq
  have HP := Lib.hid hp
  have L1 := Lib.hid (show x12 = true → ya = true → yb = true from fun e1 e2 => by rw [← hyb]; exact within_allows (h12.trans e1) (hya.trans e2))
  have L2 := Lib.hid (show x12 = true → x21 = true → t = t' ∧ g = g' ∧ r = r' from fun e1 e2 => within_anti (h12.trans e1) (h21.trans e2))
  have L3 := Lib.hid (show x12 = true → x23 = true → x13 = true from fun e1 e2 => by rw [← h13]; exact within_trans (h12.trans e1) (h23.trans e2))
  have L4 := Lib.hid (show ya = (p && (o && decide (0 < bits .and .u8 r q))) from by
    rw [← hya, allowsH, ho, hq, hp]
    cases o
    · simp
    · have hr := ((okH_iff _ _ _).1 ho).2.2
      cases p
      · simp
      · have hq' : q = 1 ∨ q = 2 ∨ q = 4 := by
          have := askR_cases d
          rw [hq] at this
          have := of_decide_eq_true hp
          omega
        rw [bit_and r q hr hq'])
  clear h12 h21 h23 h13 ho hya hyb hq hp
  go_enter Tryd.func7, Tryd.ntmps7
  go_wp2_with fail
  refine (awake_is _ (hw.later ((((Later.refl w).alloc _).alloc _).alloc _))).mono ?_
  rintro e w1 ⟨rfl, hb1⟩
  have k00 := cell_at hb1 (p := ⟨w.heap.size, 0, none⟩) (v := .int .i64 t) (by go_cell) (by simp <;> omega)
  have k01 := cell_at hb1 (p := ⟨w.heap.size, 1, none⟩) (v := .int .u32 g) (by go_cell) (by simp <;> omega)
  have k02 := cell_at hb1 (p := ⟨w.heap.size, 2, none⟩) (v := .int .u8 r) (by go_cell) (by simp <;> omega)
  have k10 := cell_at hb1 (p := ⟨w.heap.size + 1, 0, none⟩) (v := .int .i64 t') (by go_cell) (by simp <;> omega)
  have k11 := cell_at hb1 (p := ⟨w.heap.size + 1, 1, none⟩) (v := .int .u32 g') (by go_cell) (by simp <;> omega)
  have k12 := cell_at hb1 (p := ⟨w.heap.size + 1, 2, none⟩) (v := .int .u8 r') (by go_cell) (by simp <;> omega)
  have k20 := cell_at hb1 (p := ⟨w.heap.size + 2, 0, none⟩) (v := .int .i64 t2) (by go_cell) (by simp <;> omega)
  have k21 := cell_at hb1 (p := ⟨w.heap.size + 2, 1, none⟩) (v := .int .u32 g2) (by go_cell) (by simp <;> omega)
  have k22 := cell_at hb1 (p := ⟨w.heap.size + 2, 2, none⟩) (v := .int .u8 r2) (by go_cell) (by simp <;> omega)
  have hl1 : Later w w1 := ((((Later.refl w).alloc _).alloc _).alloc _).trans hb1
  have hs0 : w.heap.size < w1.heap.size := Nat.lt_of_lt_of_le (by simp; omega) hb1.size
  clear hb1
  go_wp2_with fail
  have c12 := fun d' os => quiet_later (Within_is t g r t' g' r' x12 H12.out (grow (redrawn w1 d') os))
  have c21 := fun d' os => quiet_later (Within_is t' g' r' t g r x21 H21.out (grow (redrawn w1 d') os))
  have c11 := fun d' os => quiet_later (Within_is t g r t g r o H11.out (grow (redrawn w1 d') os))
  have c23 := fun d' os => quiet_later (Within_is t' g' r' t2 g2 r2 x23 H23.out (grow (redrawn w1 d') os))
  have c13 := fun d' os => quiet_later (Within_is t g r t2 g2 r2 x13 H13.out (grow (redrawn w1 d') os))
  have ca := fun d' os => quiet_later (Allows_is t g r d ya HYA.out (grow (redrawn w1 d') os))
  have cb := fun d' os => quiet_later (Allows_is t' g' r' d yb HYB.out (grow (redrawn w1 d') os))
  have co := fun d' os => quiet_later (Right_is t g r o HO.out (grow (redrawn w1 d') os))
  have z00 := cell_regrown k00
  have z01 := cell_regrown k01
  have z02 := cell_regrown k02
  have z10 := cell_regrown k10
  have z11 := cell_regrown k11
  have z12 := cell_regrown k12
  have z20 := cell_regrown k20
  have z21 := cell_regrown k21
  have z22 := cell_regrown k22
  have mixed : Tryd.prog.follows .mixedOrders = true := by kernel_rfl
  cases x12
  · refine wp_region_quiet_below mixed (by kernel_rfl) ?_
    repeat (quiet_step (first | with_reducible exact c12 _ _ | with_reducible exact c11 _ _ | with_reducible exact co _ _ | with_reducible exact c21 _ _ | with_reducible exact c23 _ _ | with_reducible exact c13 _ _ | with_reducible exact ca _ _ | with_reducible exact cb _ _))
    refine wpQuiet_nil ?_
    intro _ hw'
    obtain ⟨⟨dq, osq⟩, hw''⟩ := hw'
    subst hw''
    have u0 := cell_regrown k00 dq osq
    have u1 := cell_regrown k01 dq osq
    have u2 := cell_regrown k02 dq osq
    have hlU : Later w (grow (redrawn w1 dq) osq) := hl1.trans (below_regrown w1 dq osq)
    have hsU : w.heap.size < (grow (redrawn w1 dq) osq).heap.size := Nat.lt_of_lt_of_le hs0 (below_regrown w1 dq osq).size
    clear c12 c21 c11 c23 c13 ca cb co z00 z01 z02 z10 z11 z12 z20 z21 z22 k00 k01 k02 k10 k11 k12 k20 k21 k22 hl1 hs0
    generalize grow (redrawn w1 dq) osq = U at *
    go_wp2_with fail
    refine (Asks_is _ q p HQ.out HP.out _).mono ?_
    rintro e w2 ⟨rfl, hb2⟩
    have u0 := cell_at hb2 u0 hsU
    have u1 := cell_at hb2 u1 hsU
    have u2 := cell_at hb2 u2 hsU
    have hl2 := hlU.trans hb2
    have hs2 := Nat.lt_of_lt_of_le hsU hb2.size
    clear hb2 hlU hsU
    go_wp2_with fail
    refine (Allows_is _ _ _ _ _ HYA.out _).mono ?_
    rintro e w3 ⟨rfl, hb3⟩
    have u0 := cell_at hb3 u0 hs2
    have u1 := cell_at hb3 u1 hs2
    have u2 := cell_at hb3 u2 hs2
    have hl3 := hl2.trans hb3
    have hs3 := Nat.lt_of_lt_of_le hs2 hb3.size
    clear hb3 hl2 hs2
    cases p
    · first
        | (exfalso; have l4 := L4.out; revert l4; simp; done)
        | (have l4 := L4.out
           simp only [Bool.false_and] at l4
           go_wp2_with fail
           go_ret
           exact ⟨by first | rfl | (rw [l4]; rfl), hl3⟩)
    · go_wp2_with fail
      refine (Right_is _ _ _ o HO.out _).mono ?_
      rintro e w4 ⟨rfl, hb4⟩
      have u0 := cell_at hb4 u0 hs3
      have u1 := cell_at hb4 u1 hs3
      have u2 := cell_at hb4 u2 hs3
      have hl4 := hl3.trans hb4
      cases o
      · first
          | (exfalso; have l4 := L4.out; revert l4; simp; done)
          | (have l4 := L4.out
             simp only [Bool.false_and, Bool.and_false] at l4
             go_wp2_with fail
             go_ret
             exact ⟨by first | rfl | (rw [l4]; rfl), hl4⟩)
      · have l4 := L4.out
        simp only [Bool.true_and] at l4
        have l5 := l4.symm
        clear l4
        go_wp2_with fail
        go_ret
        exact ⟨by first | rfl | simp, hl4⟩
  · have hy := L1.out rfl
    have hz := L3.out rfl
    cases x21
    · cases ya
      · cases x23
        · try clear hy
          try clear hz
          refine wp_region_quiet_below mixed (by kernel_rfl) ?_
          repeat (quiet_step (first | with_reducible exact c12 _ _ | with_reducible exact c11 _ _ | with_reducible exact co _ _ | with_reducible exact c21 _ _ | with_reducible exact c23 _ _ | with_reducible exact c13 _ _ | with_reducible exact ca _ _ | with_reducible exact cb _ _))
          refine wpQuiet_nil ?_
          intro _ hw'
          obtain ⟨⟨dq, osq⟩, hw''⟩ := hw'
          subst hw''
          have u0 := cell_regrown k00 dq osq
          have u1 := cell_regrown k01 dq osq
          have u2 := cell_regrown k02 dq osq
          have hlU : Later w (grow (redrawn w1 dq) osq) := hl1.trans (below_regrown w1 dq osq)
          have hsU : w.heap.size < (grow (redrawn w1 dq) osq).heap.size := Nat.lt_of_lt_of_le hs0 (below_regrown w1 dq osq).size
          clear c12 c21 c11 c23 c13 ca cb co z00 z01 z02 z10 z11 z12 z20 z21 z22 k00 k01 k02 k10 k11 k12 k20 k21 k22 hl1 hs0
          generalize grow (redrawn w1 dq) osq = U at *
          go_wp2_with fail
          refine (Asks_is _ q p HQ.out HP.out _).mono ?_
          rintro e w2 ⟨rfl, hb2⟩
          have u0 := cell_at hb2 u0 hsU
          have u1 := cell_at hb2 u1 hsU
          have u2 := cell_at hb2 u2 hsU
          have hl2 := hlU.trans hb2
          have hs2 := Nat.lt_of_lt_of_le hsU hb2.size
          clear hb2 hlU hsU
          go_wp2_with fail
          refine (Allows_is _ _ _ _ _ HYA.out _).mono ?_
          rintro e w3 ⟨rfl, hb3⟩
          have u0 := cell_at hb3 u0 hs2
          have u1 := cell_at hb3 u1 hs2
          have u2 := cell_at hb3 u2 hs2
          have hl3 := hl2.trans hb3
          have hs3 := Nat.lt_of_lt_of_le hs2 hb3.size
          clear hb3 hl2 hs2
          cases p
          · first
              | (exfalso; have l4 := L4.out; revert l4; simp; done)
              | (have l4 := L4.out
                 simp only [Bool.false_and] at l4
                 go_wp2_with fail
                 go_ret
                 exact ⟨by first | rfl | (rw [l4]; rfl), hl3⟩)
          · go_wp2_with fail
            refine (Right_is _ _ _ o HO.out _).mono ?_
            rintro e w4 ⟨rfl, hb4⟩
            have u0 := cell_at hb4 u0 hs3
            have u1 := cell_at hb4 u1 hs3
            have u2 := cell_at hb4 u2 hs3
            have hl4 := hl3.trans hb4
            cases o
            · first
                | (exfalso; have l4 := L4.out; revert l4; simp; done)
                | (have l4 := L4.out
                   simp only [Bool.false_and, Bool.and_false] at l4
                   go_wp2_with fail
                   go_ret
                   exact ⟨by first | rfl | (rw [l4]; rfl), hl4⟩)
            · have l4 := L4.out
              simp only [Bool.true_and] at l4
              have l5 := l4.symm
              clear l4
              go_wp2_with fail
              go_ret
              exact ⟨by first | rfl | simp, hl4⟩
        · obtain rfl := hz rfl
          try clear hy
          try clear hz
          refine wp_region_quiet_below mixed (by kernel_rfl) ?_
          repeat (quiet_step (first | with_reducible exact c12 _ _ | with_reducible exact c11 _ _ | with_reducible exact co _ _ | with_reducible exact c21 _ _ | with_reducible exact c23 _ _ | with_reducible exact c13 _ _ | with_reducible exact ca _ _ | with_reducible exact cb _ _))
          refine wpQuiet_nil ?_
          intro _ hw'
          obtain ⟨⟨dq, osq⟩, hw''⟩ := hw'
          subst hw''
          have u0 := cell_regrown k00 dq osq
          have u1 := cell_regrown k01 dq osq
          have u2 := cell_regrown k02 dq osq
          have hlU : Later w (grow (redrawn w1 dq) osq) := hl1.trans (below_regrown w1 dq osq)
          have hsU : w.heap.size < (grow (redrawn w1 dq) osq).heap.size := Nat.lt_of_lt_of_le hs0 (below_regrown w1 dq osq).size
          clear c12 c21 c11 c23 c13 ca cb co z00 z01 z02 z10 z11 z12 z20 z21 z22 k00 k01 k02 k10 k11 k12 k20 k21 k22 hl1 hs0
          generalize grow (redrawn w1 dq) osq = U at *
          go_wp2_with fail
          refine (Asks_is _ q p HQ.out HP.out _).mono ?_
          rintro e w2 ⟨rfl, hb2⟩
          have u0 := cell_at hb2 u0 hsU
          have u1 := cell_at hb2 u1 hsU
          have u2 := cell_at hb2 u2 hsU
          have hl2 := hlU.trans hb2
          have hs2 := Nat.lt_of_lt_of_le hsU hb2.size
          clear hb2 hlU hsU
          go_wp2_with fail
          refine (Allows_is _ _ _ _ _ HYA.out _).mono ?_
          rintro e w3 ⟨rfl, hb3⟩
          have u0 := cell_at hb3 u0 hs2
          have u1 := cell_at hb3 u1 hs2
          have u2 := cell_at hb3 u2 hs2
          have hl3 := hl2.trans hb3
          have hs3 := Nat.lt_of_lt_of_le hs2 hb3.size
          clear hb3 hl2 hs2
          cases p
          · first
              | (exfalso; have l4 := L4.out; revert l4; simp; done)
              | (have l4 := L4.out
                 simp only [Bool.false_and] at l4
                 go_wp2_with fail
                 go_ret
                 exact ⟨by first | rfl | (rw [l4]; rfl), hl3⟩)
          · go_wp2_with fail
            refine (Right_is _ _ _ o HO.out _).mono ?_
            rintro e w4 ⟨rfl, hb4⟩
            have u0 := cell_at hb4 u0 hs3
            have u1 := cell_at hb4 u1 hs3
            have u2 := cell_at hb4 u2 hs3
            have hl4 := hl3.trans hb4
            cases o
            · first
                | (exfalso; have l4 := L4.out; revert l4; simp; done)
                | (have l4 := L4.out
                   simp only [Bool.false_and, Bool.and_false] at l4
                   go_wp2_with fail
                   go_ret
                   exact ⟨by first | rfl | (rw [l4]; rfl), hl4⟩)
            · have l4 := L4.out
              simp only [Bool.true_and] at l4
              have l5 := l4.symm
              clear l4
              go_wp2_with fail
              go_ret
              exact ⟨by first | rfl | simp, hl4⟩
      · obtain rfl := hy rfl
        cases x23
        · try clear hy
          try clear hz
          refine wp_region_quiet_below mixed (by kernel_rfl) ?_
          repeat (quiet_step (first | with_reducible exact c12 _ _ | with_reducible exact c11 _ _ | with_reducible exact co _ _ | with_reducible exact c21 _ _ | with_reducible exact c23 _ _ | with_reducible exact c13 _ _ | with_reducible exact ca _ _ | with_reducible exact cb _ _))
          refine wpQuiet_nil ?_
          intro _ hw'
          obtain ⟨⟨dq, osq⟩, hw''⟩ := hw'
          subst hw''
          have u0 := cell_regrown k00 dq osq
          have u1 := cell_regrown k01 dq osq
          have u2 := cell_regrown k02 dq osq
          have hlU : Later w (grow (redrawn w1 dq) osq) := hl1.trans (below_regrown w1 dq osq)
          have hsU : w.heap.size < (grow (redrawn w1 dq) osq).heap.size := Nat.lt_of_lt_of_le hs0 (below_regrown w1 dq osq).size
          clear c12 c21 c11 c23 c13 ca cb co z00 z01 z02 z10 z11 z12 z20 z21 z22 k00 k01 k02 k10 k11 k12 k20 k21 k22 hl1 hs0
          generalize grow (redrawn w1 dq) osq = U at *
          go_wp2_with fail
          refine (Asks_is _ q p HQ.out HP.out _).mono ?_
          rintro e w2 ⟨rfl, hb2⟩
          have u0 := cell_at hb2 u0 hsU
          have u1 := cell_at hb2 u1 hsU
          have u2 := cell_at hb2 u2 hsU
          have hl2 := hlU.trans hb2
          have hs2 := Nat.lt_of_lt_of_le hsU hb2.size
          clear hb2 hlU hsU
          go_wp2_with fail
          refine (Allows_is _ _ _ _ _ HYA.out _).mono ?_
          rintro e w3 ⟨rfl, hb3⟩
          have u0 := cell_at hb3 u0 hs2
          have u1 := cell_at hb3 u1 hs2
          have u2 := cell_at hb3 u2 hs2
          have hl3 := hl2.trans hb3
          have hs3 := Nat.lt_of_lt_of_le hs2 hb3.size
          clear hb3 hl2 hs2
          cases p
          · first
              | (exfalso; have l4 := L4.out; revert l4; simp; done)
              | (have l4 := L4.out
                 simp only [Bool.false_and] at l4
                 go_wp2_with fail
                 go_ret
                 exact ⟨by first | rfl | (rw [l4]; rfl), hl3⟩)
          · go_wp2_with fail
            refine (Right_is _ _ _ o HO.out _).mono ?_
            rintro e w4 ⟨rfl, hb4⟩
            have u0 := cell_at hb4 u0 hs3
            have u1 := cell_at hb4 u1 hs3
            have u2 := cell_at hb4 u2 hs3
            have hl4 := hl3.trans hb4
            cases o
            · first
                | (exfalso; have l4 := L4.out; revert l4; simp; done)
                | (have l4 := L4.out
                   simp only [Bool.false_and, Bool.and_false] at l4
                   go_wp2_with fail
                   go_ret
                   exact ⟨by first | rfl | (rw [l4]; rfl), hl4⟩)
            · have l4 := L4.out
              simp only [Bool.true_and] at l4
              have L5 := Lib.hid l4.symm
              clear l4
              go_wp2_with fail
              go_ret
              exact ⟨congrArg (fun b => Ending.returned (Value.bool b)) (by have := L5.out; first | (simp only [this]; done) | (simp only [this]; rfl)), hl4⟩
        · obtain rfl := hz rfl
          try clear hy
          try clear hz
          refine wp_region_quiet_below mixed (by kernel_rfl) ?_
          repeat (quiet_step (first | with_reducible exact c12 _ _ | with_reducible exact c11 _ _ | with_reducible exact co _ _ | with_reducible exact c21 _ _ | with_reducible exact c23 _ _ | with_reducible exact c13 _ _ | with_reducible exact ca _ _ | with_reducible exact cb _ _))
          refine wpQuiet_nil ?_
          intro _ hw'
          obtain ⟨⟨dq, osq⟩, hw''⟩ := hw'
          subst hw''
          have u0 := cell_regrown k00 dq osq
          have u1 := cell_regrown k01 dq osq
          have u2 := cell_regrown k02 dq osq
          have hlU : Later w (grow (redrawn w1 dq) osq) := hl1.trans (below_regrown w1 dq osq)
          have hsU : w.heap.size < (grow (redrawn w1 dq) osq).heap.size := Nat.lt_of_lt_of_le hs0 (below_regrown w1 dq osq).size
          clear c12 c21 c11 c23 c13 ca cb co z00 z01 z02 z10 z11 z12 z20 z21 z22 k00 k01 k02 k10 k11 k12 k20 k21 k22 hl1 hs0
          generalize grow (redrawn w1 dq) osq = U at *
          go_wp2_with fail
          refine (Asks_is _ q p HQ.out HP.out _).mono ?_
          rintro e w2 ⟨rfl, hb2⟩
          have u0 := cell_at hb2 u0 hsU
          have u1 := cell_at hb2 u1 hsU
          have u2 := cell_at hb2 u2 hsU
          have hl2 := hlU.trans hb2
          have hs2 := Nat.lt_of_lt_of_le hsU hb2.size
          clear hb2 hlU hsU
          go_wp2_with fail
          refine (Allows_is _ _ _ _ _ HYA.out _).mono ?_
          rintro e w3 ⟨rfl, hb3⟩
          have u0 := cell_at hb3 u0 hs2
          have u1 := cell_at hb3 u1 hs2
          have u2 := cell_at hb3 u2 hs2
          have hl3 := hl2.trans hb3
          have hs3 := Nat.lt_of_lt_of_le hs2 hb3.size
          clear hb3 hl2 hs2
          cases p
          · first
              | (exfalso; have l4 := L4.out; revert l4; simp; done)
              | (have l4 := L4.out
                 simp only [Bool.false_and] at l4
                 go_wp2_with fail
                 go_ret
                 exact ⟨by first | rfl | (rw [l4]; rfl), hl3⟩)
          · go_wp2_with fail
            refine (Right_is _ _ _ o HO.out _).mono ?_
            rintro e w4 ⟨rfl, hb4⟩
            have u0 := cell_at hb4 u0 hs3
            have u1 := cell_at hb4 u1 hs3
            have u2 := cell_at hb4 u2 hs3
            have hl4 := hl3.trans hb4
            cases o
            · first
                | (exfalso; have l4 := L4.out; revert l4; simp; done)
                | (have l4 := L4.out
                   simp only [Bool.false_and, Bool.and_false] at l4
                   go_wp2_with fail
                   go_ret
                   exact ⟨by first | rfl | (rw [l4]; rfl), hl4⟩)
            · have l4 := L4.out
              simp only [Bool.true_and] at l4
              have L5 := Lib.hid l4.symm
              clear l4
              go_wp2_with fail
              go_ret
              exact ⟨congrArg (fun b => Ending.returned (Value.bool b)) (by have := L5.out; first | (simp only [this]; done) | (simp only [this]; rfl)), hl4⟩
    · obtain ⟨rfl, rfl, rfl⟩ := L2.out rfl rfl
      obtain rfl : o = true := H11.out.symm.trans H12.out
      cases ya
      · cases x23
        · try clear hy
          try clear hz
          refine wp_region_quiet_below mixed (by kernel_rfl) ?_
          repeat (quiet_step (first | with_reducible exact c12 _ _ | with_reducible exact c11 _ _ | with_reducible exact co _ _ | with_reducible exact c21 _ _ | with_reducible exact c23 _ _ | with_reducible exact c13 _ _ | with_reducible exact ca _ _ | with_reducible exact cb _ _))
          refine wpQuiet_nil ?_
          intro _ hw'
          obtain ⟨⟨dq, osq⟩, hw''⟩ := hw'
          subst hw''
          have u0 := cell_regrown k00 dq osq
          have u1 := cell_regrown k01 dq osq
          have u2 := cell_regrown k02 dq osq
          have hlU : Later w (grow (redrawn w1 dq) osq) := hl1.trans (below_regrown w1 dq osq)
          have hsU : w.heap.size < (grow (redrawn w1 dq) osq).heap.size := Nat.lt_of_lt_of_le hs0 (below_regrown w1 dq osq).size
          clear c12 c21 c11 c23 c13 ca cb co z00 z01 z02 z10 z11 z12 z20 z21 z22 k00 k01 k02 k10 k11 k12 k20 k21 k22 hl1 hs0
          generalize grow (redrawn w1 dq) osq = U at *
          go_wp2_with fail
          refine (Asks_is _ q p HQ.out HP.out _).mono ?_
          rintro e w2 ⟨rfl, hb2⟩
          have u0 := cell_at hb2 u0 hsU
          have u1 := cell_at hb2 u1 hsU
          have u2 := cell_at hb2 u2 hsU
          have hl2 := hlU.trans hb2
          have hs2 := Nat.lt_of_lt_of_le hsU hb2.size
          clear hb2 hlU hsU
          go_wp2_with fail
          refine (Allows_is _ _ _ _ _ HYA.out _).mono ?_
          rintro e w3 ⟨rfl, hb3⟩
          have u0 := cell_at hb3 u0 hs2
          have u1 := cell_at hb3 u1 hs2
          have u2 := cell_at hb3 u2 hs2
          have hl3 := hl2.trans hb3
          have hs3 := Nat.lt_of_lt_of_le hs2 hb3.size
          clear hb3 hl2 hs2
          cases p
          · first
              | (exfalso; have l4 := L4.out; revert l4; simp; done)
              | (have l4 := L4.out
                 simp only [Bool.false_and] at l4
                 go_wp2_with fail
                 go_ret
                 exact ⟨by first | rfl | (rw [l4]; rfl), hl3⟩)
          · go_wp2_with fail
            refine (Right_is _ _ _ true HO.out _).mono ?_
            rintro e w4 ⟨rfl, hb4⟩
            have u0 := cell_at hb4 u0 hs3
            have u1 := cell_at hb4 u1 hs3
            have u2 := cell_at hb4 u2 hs3
            have hl4 := hl3.trans hb4
            · skip
              have l4 := L4.out
              simp only [Bool.true_and] at l4
              have l5 := l4.symm
              clear l4
              go_wp2_with fail
              go_ret
              exact ⟨by first | rfl | simp, hl4⟩
        · obtain rfl := hz rfl
          try clear hy
          try clear hz
          refine wp_region_quiet_below mixed (by kernel_rfl) ?_
          repeat (quiet_step (first | with_reducible exact c12 _ _ | with_reducible exact c11 _ _ | with_reducible exact co _ _ | with_reducible exact c21 _ _ | with_reducible exact c23 _ _ | with_reducible exact c13 _ _ | with_reducible exact ca _ _ | with_reducible exact cb _ _))
          refine wpQuiet_nil ?_
          intro _ hw'
          obtain ⟨⟨dq, osq⟩, hw''⟩ := hw'
          subst hw''
          have u0 := cell_regrown k00 dq osq
          have u1 := cell_regrown k01 dq osq
          have u2 := cell_regrown k02 dq osq
          have hlU : Later w (grow (redrawn w1 dq) osq) := hl1.trans (below_regrown w1 dq osq)
          have hsU : w.heap.size < (grow (redrawn w1 dq) osq).heap.size := Nat.lt_of_lt_of_le hs0 (below_regrown w1 dq osq).size
          clear c12 c21 c11 c23 c13 ca cb co z00 z01 z02 z10 z11 z12 z20 z21 z22 k00 k01 k02 k10 k11 k12 k20 k21 k22 hl1 hs0
          generalize grow (redrawn w1 dq) osq = U at *
          go_wp2_with fail
          refine (Asks_is _ q p HQ.out HP.out _).mono ?_
          rintro e w2 ⟨rfl, hb2⟩
          have u0 := cell_at hb2 u0 hsU
          have u1 := cell_at hb2 u1 hsU
          have u2 := cell_at hb2 u2 hsU
          have hl2 := hlU.trans hb2
          have hs2 := Nat.lt_of_lt_of_le hsU hb2.size
          clear hb2 hlU hsU
          go_wp2_with fail
          refine (Allows_is _ _ _ _ _ HYA.out _).mono ?_
          rintro e w3 ⟨rfl, hb3⟩
          have u0 := cell_at hb3 u0 hs2
          have u1 := cell_at hb3 u1 hs2
          have u2 := cell_at hb3 u2 hs2
          have hl3 := hl2.trans hb3
          have hs3 := Nat.lt_of_lt_of_le hs2 hb3.size
          clear hb3 hl2 hs2
          cases p
          · first
              | (exfalso; have l4 := L4.out; revert l4; simp; done)
              | (have l4 := L4.out
                 simp only [Bool.false_and] at l4
                 go_wp2_with fail
                 go_ret
                 exact ⟨by first | rfl | (rw [l4]; rfl), hl3⟩)
          · go_wp2_with fail
            refine (Right_is _ _ _ true HO.out _).mono ?_
            rintro e w4 ⟨rfl, hb4⟩
            have u0 := cell_at hb4 u0 hs3
            have u1 := cell_at hb4 u1 hs3
            have u2 := cell_at hb4 u2 hs3
            have hl4 := hl3.trans hb4
            · skip
              have l4 := L4.out
              simp only [Bool.true_and] at l4
              have l5 := l4.symm
              clear l4
              go_wp2_with fail
              go_ret
              exact ⟨by first | rfl | simp, hl4⟩
      · obtain rfl := hy rfl
        cases x23
        · try clear hy
          try clear hz
          refine wp_region_quiet_below mixed (by kernel_rfl) ?_
          repeat (quiet_step (first | with_reducible exact c12 _ _ | with_reducible exact c11 _ _ | with_reducible exact co _ _ | with_reducible exact c21 _ _ | with_reducible exact c23 _ _ | with_reducible exact c13 _ _ | with_reducible exact ca _ _ | with_reducible exact cb _ _))
          refine wpQuiet_nil ?_
          intro _ hw'
          obtain ⟨⟨dq, osq⟩, hw''⟩ := hw'
          subst hw''
          have u0 := cell_regrown k00 dq osq
          have u1 := cell_regrown k01 dq osq
          have u2 := cell_regrown k02 dq osq
          have hlU : Later w (grow (redrawn w1 dq) osq) := hl1.trans (below_regrown w1 dq osq)
          have hsU : w.heap.size < (grow (redrawn w1 dq) osq).heap.size := Nat.lt_of_lt_of_le hs0 (below_regrown w1 dq osq).size
          clear c12 c21 c11 c23 c13 ca cb co z00 z01 z02 z10 z11 z12 z20 z21 z22 k00 k01 k02 k10 k11 k12 k20 k21 k22 hl1 hs0
          generalize grow (redrawn w1 dq) osq = U at *
          go_wp2_with fail
          refine (Asks_is _ q p HQ.out HP.out _).mono ?_
          rintro e w2 ⟨rfl, hb2⟩
          have u0 := cell_at hb2 u0 hsU
          have u1 := cell_at hb2 u1 hsU
          have u2 := cell_at hb2 u2 hsU
          have hl2 := hlU.trans hb2
          have hs2 := Nat.lt_of_lt_of_le hsU hb2.size
          clear hb2 hlU hsU
          go_wp2_with fail
          refine (Allows_is _ _ _ _ _ HYA.out _).mono ?_
          rintro e w3 ⟨rfl, hb3⟩
          have u0 := cell_at hb3 u0 hs2
          have u1 := cell_at hb3 u1 hs2
          have u2 := cell_at hb3 u2 hs2
          have hl3 := hl2.trans hb3
          have hs3 := Nat.lt_of_lt_of_le hs2 hb3.size
          clear hb3 hl2 hs2
          cases p
          · first
              | (exfalso; have l4 := L4.out; revert l4; simp; done)
              | (have l4 := L4.out
                 simp only [Bool.false_and] at l4
                 go_wp2_with fail
                 go_ret
                 exact ⟨by first | rfl | (rw [l4]; rfl), hl3⟩)
          · go_wp2_with fail
            refine (Right_is _ _ _ true HO.out _).mono ?_
            rintro e w4 ⟨rfl, hb4⟩
            have u0 := cell_at hb4 u0 hs3
            have u1 := cell_at hb4 u1 hs3
            have u2 := cell_at hb4 u2 hs3
            have hl4 := hl3.trans hb4
            · skip
              have l4 := L4.out
              simp only [Bool.true_and] at l4
              have L5 := Lib.hid l4.symm
              clear l4
              go_wp2_with fail
              go_ret
              exact ⟨congrArg (fun b => Ending.returned (Value.bool b)) (by have := L5.out; first | (simp only [this]; done) | (simp only [this]; rfl)), hl4⟩
        · obtain rfl := hz rfl
          try clear hy
          try clear hz
          refine wp_region_quiet_below mixed (by kernel_rfl) ?_
          repeat (quiet_step (first | with_reducible exact c12 _ _ | with_reducible exact c11 _ _ | with_reducible exact co _ _ | with_reducible exact c21 _ _ | with_reducible exact c23 _ _ | with_reducible exact c13 _ _ | with_reducible exact ca _ _ | with_reducible exact cb _ _))
          refine wpQuiet_nil ?_
          intro _ hw'
          obtain ⟨⟨dq, osq⟩, hw''⟩ := hw'
          subst hw''
          have u0 := cell_regrown k00 dq osq
          have u1 := cell_regrown k01 dq osq
          have u2 := cell_regrown k02 dq osq
          have hlU : Later w (grow (redrawn w1 dq) osq) := hl1.trans (below_regrown w1 dq osq)
          have hsU : w.heap.size < (grow (redrawn w1 dq) osq).heap.size := Nat.lt_of_lt_of_le hs0 (below_regrown w1 dq osq).size
          clear c12 c21 c11 c23 c13 ca cb co z00 z01 z02 z10 z11 z12 z20 z21 z22 k00 k01 k02 k10 k11 k12 k20 k21 k22 hl1 hs0
          generalize grow (redrawn w1 dq) osq = U at *
          go_wp2_with fail
          refine (Asks_is _ q p HQ.out HP.out _).mono ?_
          rintro e w2 ⟨rfl, hb2⟩
          have u0 := cell_at hb2 u0 hsU
          have u1 := cell_at hb2 u1 hsU
          have u2 := cell_at hb2 u2 hsU
          have hl2 := hlU.trans hb2
          have hs2 := Nat.lt_of_lt_of_le hsU hb2.size
          clear hb2 hlU hsU
          go_wp2_with fail
          refine (Allows_is _ _ _ _ _ HYA.out _).mono ?_
          rintro e w3 ⟨rfl, hb3⟩
          have u0 := cell_at hb3 u0 hs2
          have u1 := cell_at hb3 u1 hs2
          have u2 := cell_at hb3 u2 hs2
          have hl3 := hl2.trans hb3
          have hs3 := Nat.lt_of_lt_of_le hs2 hb3.size
          clear hb3 hl2 hs2
          cases p
          · first
              | (exfalso; have l4 := L4.out; revert l4; simp; done)
              | (have l4 := L4.out
                 simp only [Bool.false_and] at l4
                 go_wp2_with fail
                 go_ret
                 exact ⟨by first | rfl | (rw [l4]; rfl), hl3⟩)
          · go_wp2_with fail
            refine (Right_is _ _ _ true HO.out _).mono ?_
            rintro e w4 ⟨rfl, hb4⟩
            have u0 := cell_at hb4 u0 hs3
            have u1 := cell_at hb4 u1 hs3
            have u2 := cell_at hb4 u2 hs3
            have hl4 := hl3.trans hb4
            · skip
              have l4 := L4.out
              simp only [Bool.true_and] at l4
              have L5 := Lib.hid l4.symm
              clear l4
              go_wp2_with fail
              go_ret
              exact ⟨congrArg (fun b => Ending.returned (Value.bool b)) (by have := L5.out; first | (simp only [this]; done) | (simp only [this]; rfl)), hl4⟩
end Go.Proofs.YtpfnccjfmbecfaaDoor
