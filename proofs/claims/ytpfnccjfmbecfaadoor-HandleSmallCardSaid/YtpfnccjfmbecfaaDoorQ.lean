/-
  same and the law HandleTells, walked. Conditions: the numbers are within their types; the listed variables read as laid.
-/
import Derived.Test.YtpfnccjfmbecfaaDoorN
namespace Go.Proofs.YtpfnccjfmbecfaaDoor
open Go.RowKit Go.Sort Go.Lib

/-- Show and the reference's Show end alike -/
theorem shows_any (t g r : Int) (g0 : 0 ≤ g) (g1 : g ≤ 4294967295) (r0 : 0 ≤ r) (r1 : r ≤ 255) : ∃ (T : ByteArray) (k : Int),
    (∀ w, Laid w → Calls Tryd.prog 11 #[.agg #[.int .i64 t, .int .u32 g, .int .u8 r]] w fun e w' => e = .returned (.tuple #[.string T, .int .i64 k]) ∧ Later w w') ∧
    (∀ w, Calls Tryd.prog 26 #[.agg #[.int .i64 t, .int .u32 g, .int .u8 r]] w fun e w' => e = .returned (.tuple #[.string T, .int .i64 k]) ∧ Later w w') := by
  cases ho : okH t g r
  · exact ⟨⟨#[]⟩, 4, fun w _ => Show_no t g r w ho, fun w => refShow_no t g r w r0 r1 ho⟩
  · have h := (okH_iff _ _ _).1 ho
    obtain ⟨tn, rfl⟩ : ∃ n : Nat, t = n := ⟨t.toNat, by omega⟩
    obtain ⟨gn, rfl⟩ : ∃ n : Nat, g = n := ⟨g.toNat, by omega⟩
    exact ⟨_, 0, fun w hw => Show_yes tn gn r w ho (by omega) hw.1, fun w => refShow_yes tn gn r w ho (by omega)⟩

set_option maxRecDepth 100000 in
set_option maxHeartbeats 64000000 in
theorem same_is (t g r t' g' r' d : Int) (g0 : 0 ≤ g) (g1 : g ≤ 4294967295) (r0 : 0 ≤ r) (r1 : r ≤ 255) (s0 : 0 ≤ r') (s1 : r' ≤ 255) (w : World) (hw : Laid w) :
    Calls Tryd.prog 14 #[.agg #[.int .i64 t, .int .u32 g, .int .u8 r], .agg #[.int .i64 t', .int .u32 g', .int .u8 r'], .int .i64 d] w fun e w' => e = .returned (.bool true) ∧ Later w w' := by
  obtain ⟨T, k, hS, hF⟩ := shows_any t g r g0 g1 r0 r1
  obtain ⟨x12, h12⟩ : ∃ b, withinH t g r t' g' r' = b := ⟨_, rfl⟩
  obtain ⟨x21, h21⟩ : ∃ b, withinH t' g' r' t g r = b := ⟨_, rfl⟩
  obtain ⟨o, ho⟩ : ∃ b, okH t g r = b := ⟨_, rfl⟩
  obtain ⟨ya, hya⟩ : ∃ b, allowsH t g r d = b := ⟨_, rfl⟩
  obtain ⟨q, hq⟩ : ∃ q, askR d = q := ⟨_, rfl⟩
  obtain ⟨p, hp⟩ : ∃ p, decide (0 < q) = p := ⟨_, rfl⟩
  have hwq : IntKind.i64.wrap q = q := by
    have := askR_cases d
    rw [hq] at this
    exact IntWalk.i64_in _ (by omega)
  have H12 := Lib.hid h12
  have H21 := Lib.hid h21
  have HO := Lib.hid ho
  have HYA := Lib.hid hya
  have HQ := Lib.hid hq
  have HP := Lib.hid hp
  clear h12 h21 ho hya hq g0 g1
  go_enter Tryd.func14, Tryd.ntmps14
  go_wp2_with fail
  refine (Asks_is _ q p HQ.out HP.out _).mono ?_
  rintro e w1 ⟨rfl, hb1⟩
  have k00 := cell_at hb1 (p := ⟨w.heap.size, 0, none⟩) (v := .int .i64 t) (by go_cell) (by simp <;> omega)
  have k01 := cell_at hb1 (p := ⟨w.heap.size, 1, none⟩) (v := .int .u32 g) (by go_cell) (by simp <;> omega)
  have k02 := cell_at hb1 (p := ⟨w.heap.size, 2, none⟩) (v := .int .u8 r) (by go_cell) (by simp <;> omega)
  have k10 := cell_at hb1 (p := ⟨w.heap.size + 1, 0, none⟩) (v := .int .i64 t') (by go_cell) (by simp <;> omega)
  have k11 := cell_at hb1 (p := ⟨w.heap.size + 1, 1, none⟩) (v := .int .u32 g') (by go_cell) (by simp <;> omega)
  have k12 := cell_at hb1 (p := ⟨w.heap.size + 1, 2, none⟩) (v := .int .u8 r') (by go_cell) (by simp <;> omega)
  have hl1 : Later w w1 := (((Later.refl w).alloc _).alloc _).trans hb1
  have hs1 : w.heap.size + 1 < w1.heap.size := Nat.lt_of_lt_of_le (by simp) hb1.size
  have ht1 : w.heap.size < w1.heap.size := by omega
  clear hb1
  go_wp2_with fail
  refine (hS _ (hw.later hl1)).mono ?_
  rintro e w2 ⟨rfl, hb2⟩
  have k00 := cell_at hb2 k00 ht1
  have k01 := cell_at hb2 k01 ht1
  have k02 := cell_at hb2 k02 ht1
  have k10 := cell_at hb2 k10 hs1
  have k11 := cell_at hb2 k11 hs1
  have k12 := cell_at hb2 k12 hs1
  have hl2 := hl1.trans hb2
  have hs2 := Nat.lt_of_lt_of_le hs1 hb2.size
  have ht2 := Nat.lt_of_lt_of_le ht1 hb2.size
  clear hb2 hl1 hs1 ht1
  go_wp2_with fail
  refine (hF _).mono ?_
  rintro e w3 ⟨rfl, hb3⟩
  have k00 := cell_at hb3 k00 ht2
  have k01 := cell_at hb3 k01 ht2
  have k02 := cell_at hb3 k02 ht2
  have k10 := cell_at hb3 k10 hs2
  have k11 := cell_at hb3 k11 hs2
  have k12 := cell_at hb3 k12 hs2
  have hl3 := hl2.trans hb3
  clear hb3 hl2 hs2 ht2 hS hF
  go_wp2_with fail
  have c12 := fun d' os => quiet_later (Within_is t g r t' g' r' x12 H12.out (grow (redrawn w3 d') os))
  have c21 := fun d' os => quiet_later (Within_is t' g' r' t g r x21 H21.out (grow (redrawn w3 d') os))
  have e12 := fun d' os => quiet_later (refWithin_is t g r t' g' r' x12 r0 r1 s0 s1 H12.out (grow (redrawn w3 d') os))
  have e21 := fun d' os => quiet_later (refWithin_is t' g' r' t g r x21 s0 s1 r0 r1 H21.out (grow (redrawn w3 d') os))
  have ca := fun d' os => quiet_later (Allows_is t g r d ya HYA.out (grow (redrawn w3 d') os))
  have ea := fun d' os => quiet_later (refAllows_is t g r d ya r0 r1 HYA.out (grow (redrawn w3 d') os))
  have co := fun d' os => quiet_later (Right_is t g r o HO.out (grow (redrawn w3 d') os))
  have eo := fun d' os => quiet_later (refRight_is t g r o r0 r1 HO.out (grow (redrawn w3 d') os))
  have eq := fun d' os => quiet_later ((refAsks_is d q HQ.out (grow (redrawn w3 d') os)).mono fun e w' h => ⟨h.1, by rw [h.2]; exact Later.refl _⟩)
  have z00 := cell_regrown k00
  have z01 := cell_regrown k01
  have z02 := cell_regrown k02
  have z10 := cell_regrown k10
  have z11 := cell_regrown k11
  have z12 := cell_regrown k12
  have mixed : Tryd.prog.follows .mixedOrders = true := by kernel_rfl
  refine wp_region_quiet_below mixed (by kernel_rfl) ?_
  repeat (quiet_step (first | with_reducible exact c12 _ _ | with_reducible exact c21 _ _ | with_reducible exact e12 _ _ | with_reducible exact e21 _ _ | with_reducible exact ca _ _ | with_reducible exact ea _ _ | with_reducible exact co _ _ | with_reducible exact eo _ _ | with_reducible exact eq _ _))
  refine wpQuiet_nil ?_
  intro _ hw'
  obtain ⟨⟨dq, osq⟩, hw''⟩ := hw'
  subst hw''
  have hl4 := hl3.trans (below_regrown w3 dq osq)
  go_wp2_with fail
  go_ret
  exact ⟨rfl, hl4⟩
end Go.Proofs.YtpfnccjfmbecfaaDoor
