/-
  The reference's Show. Conditions: the numbers are within their types.
-/
import Derived.Test.YtpfnccjfmbecfaaDoorH
namespace Go.Proofs.YtpfnccjfmbecfaaDoor
open Go.RowKit Go.Sort Go.Lib

theorem refShow_no (t g r : Int) (w : World) (r0 : 0 ≤ r) (r1 : r ≤ 255) (ho : okH t g r = false) :
    Calls Tryd.prog 26 #[.agg #[.int .i64 t, .int .u32 g, .int .u8 r]] w fun e w' => e = .returned (.tuple #[.string ⟨#[]⟩, .int .i64 4]) ∧ Later w w' := by
  have HO := Lib.hid ho
  clear ho
  go_enter Tryd.func26, Tryd.ntmps26
  go_wp2_with fail
  refine (refRight_is _ _ _ _ r0 r1 HO.out _).mono ?_
  rintro e w1 ⟨rfl, hb1⟩
  go_wp2_with fail
  go_ret2
  exact ⟨rfl, by repeat (first | exact Later.refl _ | assumption | apply Later.alloc | apply Later.drew | apply Later.drewN | refine Later.trans ?_ (by assumption))⟩
set_option maxRecDepth 100000 in
set_option maxHeartbeats 6400000 in
theorem refShow_yes (t g : Nat) (r : Int) (w : World) (ho : okH t g r = true) (hg : g ≤ 4294967295) :
    Calls Tryd.prog 26 #[.agg #[.int .i64 t, .int .u32 g, .int .u8 r]] w fun e w' => e = .returned (.tuple #[.string ⟨(showH t g r).toArray⟩, .int .i64 0]) ∧ Later w w' := by
  have hr := (okH_iff _ _ _).1 ho
  have hNt : ∀ w1, Calls Tryd.prog 42 #[.int .i64 t] w1 fun e w' => e = .returned (.string ⟨(Lib.decDigits t).toArray⟩) ∧ Later w1 w' := fun w1 => number_is t (by omega) w1
  have hNg : ∀ w1, Calls Tryd.prog 42 #[.int .i64 g] w1 fun e w' => e = .returned (.string ⟨(Lib.decDigits g).toArray⟩) ∧ Later w1 w' := fun w1 => number_is g (by omega) w1
  have HO := Lib.hid ho
  have l1 := digits_le t (by omega)
  have l2 := digits_le g (by omega)
  obtain ⟨r1, r7⟩ := hr.2.2
  obtain ⟨x, hx⟩ : ∃ x : Int, x = (t : Int) := ⟨_, rfl⟩
  obtain ⟨y, hy⟩ : ∃ y : Int, y = (g : Int) := ⟨_, rfl⟩
  rw [← hx, ← hy] at HO ⊢
  rw [← hx] at hNt
  rw [← hy] at hNg
  have y0 : 0 ≤ y := by omega
  have y1 : y ≤ 4294967295 := by omega
  have hwr : IntKind.i64.wrap y = y := IntWalk.i64_in _ (by omega)
  obtain ⟨A, hA⟩ : ∃ A : ByteArray, A = ⟨(Lib.decDigits t).toArray⟩ := ⟨_, rfl⟩
  obtain ⟨B, hB⟩ : ∃ B : ByteArray, B = ⟨(Lib.decDigits g).toArray⟩ := ⟨_, rfl⟩
  rw [← hA] at hNt
  rw [← hB] at hNg
  have a1 : A.size ≤ 20 := by rw [hA]; exact l1
  have b1 : B.size ≤ 20 := by rw [hB]; exact l2
  have hbase : A ++ ⟨#[46]⟩ ++ B ++ ⟨#[46]⟩ = (⟨(Lib.decDigits t ++ (46 :: (Lib.decDigits g ++ [46]))).toArray⟩ : ByteArray) := by
    rw [hA, hB]
    apply ByteArray.ext
    simp
  have q1 : ¬ 9223372036854775807 < A.size + 1 := by omega
  have q2 : ¬ 9223372036854775807 < A.size + 1 + B.size := by omega
  have q3 : ¬ 9223372036854775807 < A.size + 1 + B.size + 1 := by omega
  rw [← hwr] at hNg
  have HBASE := Lib.hid hbase
  have HLEN := Lib.hid (show (Lib.decDigits t).length + (Lib.decDigits g).length ≤ 40 by omega)
  clear hwr hx hy hr ho hg l1 l2 hA hB hbase
  go_enter Tryd.func26, Tryd.ntmps26
  go_wp2_with fail
  refine (refRight_is _ _ _ _ (by omega) (by omega) HO.out _).mono ?_
  rintro e w1 ⟨rfl, hb1⟩
  have k0 := cell_at hb1 (p := ⟨w.heap.size, 0, none⟩) (v := .int .i64 x) (by go_cell) (by simp)
  have k1 := cell_at hb1 (p := ⟨w.heap.size, 1, none⟩) (v := .int .u32 y) (by go_cell) (by simp)
  have k2 := cell_at hb1 (p := ⟨w.heap.size, 2, none⟩) (v := .int .u8 r) (by go_cell) (by simp)
  have hl1 : Later w w1 := ((Later.refl w).alloc _).trans hb1
  have hws : w.heap.size < w1.heap.size := Nat.lt_of_lt_of_le (by simp) hb1.size
  clear hb1
  go_wp2_with fail
  have z0 := cell_regrown k0
  have z1 := cell_regrown k1
  have cA := fun d os => quiet_later (hNt (grow (redrawn w1 d) os))
  have cB := fun d os => quiet_later (hNg (grow (redrawn w1 d) os))
  have mixed : Tryd.prog.follows .mixedOrders = true := by kernel_rfl
  refine wp_region_quiet_below mixed (by kernel_rfl) ?_
  repeat (quiet_step (first | with_reducible exact cA _ _ | with_reducible exact cB _ _))
  refine wpQuiet_nil ?_
  intro _ hw'
  obtain ⟨⟨dq, osq⟩, hw''⟩ := hw'
  subst hw''
  have u2 := cell_regrown k2 dq osq
  have hlU : Later w (grow (redrawn w1 dq) osq) := hl1.trans (below_regrown w1 dq osq)
  clear z0 z1 cA cB hl1 hws k0 k1 k2
  generalize grow (redrawn w1 dq) osq = U at *
  rw [HBASE.out]
  go_wp2_with fail
  have HR := Lib.hid (And.intro r1 r7)
  have sl0 : ∀ W : World, (Instr.sliceAt 9 (.string ⟨#[114, 119, 115]⟩) (some (.int .i64 0)) (some (.int .i64 1)) none).run Tryd.prog W = .ok (.string ⟨#[114]⟩) W := fun W => by kernel_rfl
  have sl1 : ∀ W : World, (Instr.sliceAt 9 (.string ⟨#[114, 119, 115]⟩) (some (.int .i64 1)) (some (.int .i64 2)) none).run Tryd.prog W = .ok (.string ⟨#[119]⟩) W := fun W => by kernel_rfl
  have sl2 : ∀ W : World, (Instr.sliceAt 9 (.string ⟨#[114, 119, 115]⟩) (some (.int .i64 2)) (some (.int .i64 3)) none).run Tryd.prog W = .ok (.string ⟨#[115]⟩) W := fun W => by kernel_rfl
  have r0 : 0 ≤ r := by omega
  have r255 : r ≤ 255 := by omega
  clear r1 r7 q1 q2 q3 y0 y1 a1 b1 hNt hNg
  obtain ⟨base, hbase⟩ : ∃ base, base = Lib.decDigits t ++ (46 :: (Lib.decDigits g ++ [46])) := ⟨_, rfl⟩
  rw [← hbase]
  have HB := Lib.hid hbase
  have HL := Lib.hid (show base.length ≤ 50 by have := HLEN.out; rw [hbase]; simp; omega)
  clear hbase
  go_loop [4, 6] (fun s i => ∃ k : Nat, k ≤ 3 ∧ i = .int .i64 k ∧ s = .string ⟨(base ++ lettersK r k).toArray⟩) (fun _ i => 3 - (RowKit.intOf i).toNat)
  case atStart => exact ⟨0, by omega, rfl, by simp [lettersK]⟩
  case round =>
    obtain ⟨k, hk, rfl, rfl⟩ := hrel
    obtain ⟨C, hC⟩ : ∃ C : ByteArray, C = ⟨(base ++ lettersK r k).toArray⟩ := ⟨_, rfl⟩
    have hcat : ¬ 9223372036854775807 < C.size + 1 := by
      have h1 := HL.out
      have h2 := lettersK_len r k
      have : C.size = base.length + (lettersK r k).length := by rw [hC]; simp [ByteArray.size]
      omega
    rw [← hC]
    have HC := Lib.hid hC
    clear hC
    have hk' : k = 0 ∨ k = 1 ∨ k = 2 ∨ k = 3 := by omega
    rcases hk' with rfl | rfl | rfl | rfl
    · obtain ⟨b, hb⟩ : ∃ b, (r % 2 == 1) = b := ⟨_, rfl⟩
      have HPB := Lib.hid hb
      cases b
      · go_wp2_with fail
        go_round
        case rel =>
          refine ⟨1, by omega, rfl, ?_⟩
          have e : lettersK r 1 = lettersK r 0 := by
            have hx := HPB.out
            have := of_decide_eq_false ((beq_dec _ _).symm.trans hx)
            simp [lettersK, this]
          rw [e, HC.out]
        case measure => simp [RowKit.intOf]
      · go_wp2_with fail
        go_round
        case rel =>
          refine ⟨1, by omega, rfl, ?_⟩
          have e : lettersK r 1 = lettersK r 0 ++ [114] := by
            have hx := HPB.out
            have := of_decide_eq_true ((beq_dec _ _).symm.trans hx)
            simp [lettersK, this]
          rw [e, HC.out]
          rw [← List.append_assoc]
          exact congrArg Value.string (str_app (base ++ lettersK r 0) [114])
        case measure => simp [RowKit.intOf]
    · obtain ⟨b, hb⟩ : ∃ b, (r / 2 % 2 == 1) = b := ⟨_, rfl⟩
      have HPB := Lib.hid hb
      cases b
      · go_wp2_with fail
        go_round
        case rel =>
          refine ⟨2, by omega, rfl, ?_⟩
          have e : lettersK r 2 = lettersK r 1 := by
            have hx := HPB.out
            have := of_decide_eq_false ((beq_dec _ _).symm.trans hx)
            simp [lettersK, this]
          rw [e, HC.out]
        case measure => simp [RowKit.intOf]
      · go_wp2_with fail
        go_round
        case rel =>
          refine ⟨2, by omega, rfl, ?_⟩
          have e : lettersK r 2 = lettersK r 1 ++ [119] := by
            have hx := HPB.out
            have := of_decide_eq_true ((beq_dec _ _).symm.trans hx)
            simp [lettersK, this]
          rw [e, HC.out]
          rw [← List.append_assoc]
          exact congrArg Value.string (str_app (base ++ lettersK r 1) [119])
        case measure => simp [RowKit.intOf]
    · obtain ⟨b, hb⟩ : ∃ b, (r / 4 % 2 == 1) = b := ⟨_, rfl⟩
      have HPB := Lib.hid hb
      cases b
      · go_wp2_with fail
        go_round
        case rel =>
          refine ⟨3, by omega, rfl, ?_⟩
          have e : lettersK r 3 = lettersK r 2 := by
            have hx := HPB.out
            have := of_decide_eq_false ((beq_dec _ _).symm.trans hx)
            simp [lettersK, this]
          rw [e, HC.out]
        case measure => simp [RowKit.intOf]
      · go_wp2_with fail
        go_round
        case rel =>
          refine ⟨3, by omega, rfl, ?_⟩
          have e : lettersK r 3 = lettersK r 2 ++ [115] := by
            have hx := HPB.out
            have := of_decide_eq_true ((beq_dec _ _).symm.trans hx)
            simp [lettersK, this]
          rw [e, HC.out]
          rw [← List.append_assoc]
          exact congrArg Value.string (str_app (base ++ lettersK r 2) [115])
        case measure => simp [RowKit.intOf]
    · go_wp2_with fail
      go_ret2
      refine ⟨?_, hlU⟩
      rw [HC.out, HB.out]
      simp [showH, lettersK, lettersR]
end Go.Proofs.YtpfnccjfmbecfaaDoor
