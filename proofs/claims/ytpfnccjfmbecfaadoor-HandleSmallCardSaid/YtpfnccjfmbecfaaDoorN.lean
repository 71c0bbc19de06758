/-
  handle.Read at every short text; awake, the example. Conditions: the listed variables read as laid.
-/
import Derived.Test.YtpfnccjfmbecfaaDoorM
namespace Go.Proofs.YtpfnccjfmbecfaaDoor
open Go.RowKit Go.Sort Go.Lib

theorem Read_is (l : List UInt8) (hl : l.length ≤ 1000) (x y z k : Int) (hE : ReadEnd l x y z k) (w : World) (hw : Laid w) :
    Calls Tryd.prog 13 #[.string ⟨l.toArray⟩] w fun e w' => e = .returned (.tuple #[.agg #[.int .i64 x, .int .u32 y, .int .u8 z], .int .i64 k]) ∧ Later w w' := by
  by_cases h : l.count 46 = 2
  · obtain ⟨a, b, c, rfl, ha, hb, hc⟩ := three_parts l h
    exact Read_parts a b c ha hb hc hl x y z k hE w hw
  · obtain ⟨rfl, rfl, rfl, rfl⟩ := hE.of_not (fun t g r _ _ e => h (by rw [e]; exact showH_count t g r))
    exact Read_not l hl h w hw

theorem not_parts (a b c : List UInt8) (ha : (46 : UInt8) ∉ a) (hb : (46 : UInt8) ∉ b) (h : ∀ (t : Nat) (r : Int), 1 ≤ t → t ≤ 16 → 1 ≤ r → r ≤ 7 → a = Lib.decDigits t → c ≠ lettersR r) : ReadEnd (a ++ 46 :: (b ++ 46 :: c)) 0 0 0 7 :=
  .inr ⟨rfl, rfl, rfl, rfl, fun t g r ho hg e => by
    have h1 := (okH_iff _ _ _).1 ho
    obtain ⟨e1, e2, e3⟩ := parts_inj ha hb (decDigits_no t 46 (by decide)) (decDigits_no g 46 (by decide)) e
    exact h t r (by omega) (by omega) h1.2.2.1 h1.2.2.2 e1 e3⟩
theorem of_dig (a : List UInt8) (v t : Nat) (hp : Lib.parseUintB 8 a = .ok v) (ht : t ≤ 255) (h : a = Lib.decDigits t) : t = v := by
  rw [h, pb_digits8 t ht] at hp
  injection hp
theorem wrong0 : ReadEnd [51, 46, 50, 46] 0 0 0 7 := not_parts [51] [50] [] (by decide) (by decide) fun t r t1 t2 r1 r7 h e => by
  have := rK_letters r ⟨r1, r7⟩
  rw [← e, show rK [] 3 = 0 by decide] at this
  omega
theorem wrong1 : ReadEnd [48, 51, 46, 50, 46, 114] 0 0 0 7 := not_parts [48, 51] [50] [114] (by decide) (by decide) fun t r t1 t2 r1 r7 h e => by
  have := of_dig _ 3 t (by decide) (by omega) h
  subst this
  rw [Lib.decDigits_one (by omega)] at h
  revert h
  decide
theorem wrong2 : ReadEnd [51, 46, 50, 46, 115, 114] 0 0 0 7 := not_parts [51] [50] [115, 114] (by decide) (by decide) fun t r t1 t2 r1 r7 h e => by
  have h5 := rK_letters r ⟨r1, r7⟩
  rw [← e, show rK [115, 114] 3 = 5 by decide] at h5
  subst h5
  revert e
  decide
theorem wrong3 : ReadEnd [49, 55, 46, 49, 46, 114] 0 0 0 7 := not_parts [49, 55] [49] [114] (by decide) (by decide) fun t r t1 t2 r1 r7 h e => by
  have := of_dig _ 17 t (by decide) (by omega) h
  omega
theorem show325 : showH 3 2 5 = [51, 46, 50, 46, 114, 115] := by
  rw [showH, Lib.decDigits_one (by omega), Lib.decDigits_one (by omega)]
  decide
theorem right0 : ReadEnd [51, 46, 50, 46, 114, 115] 3 2 5 0 := .inl ⟨3, 2, rfl, rfl, by decide, by omega, show325.symm, rfl⟩

/-- what awake's loop keeps: the two handles' cells and the wrong texts -/
def AInv (w V : World) (R G L : Nat) : Prop :=
  Later w V ∧ (R < V.heap.size ∧ G < V.heap.size ∧ L < V.heap.size) ∧ (V.cell? ⟨R, 0, none⟩ = some (.int .i64 3) ∧ V.cell? ⟨R, 1, none⟩ = some (.int .u32 2) ∧ V.cell? ⟨R, 2, none⟩ = some (.int .u8 5)) ∧
  (V.cell? ⟨G, 0, none⟩ = some (.int .i64 3) ∧ V.cell? ⟨G, 1, none⟩ = some (.int .u32 2) ∧ V.cell? ⟨G, 2, none⟩ = some (.int .u8 5)) ∧
  (V.cell? ⟨L, 0, none⟩ = some (.string ⟨#[51, 46, 50, 46]⟩) ∧ V.cell? ⟨L, 1, none⟩ = some (.string ⟨#[48, 51, 46, 50, 46, 114]⟩) ∧ V.cell? ⟨L, 2, none⟩ = some (.string ⟨#[51, 46, 50, 46, 115, 114]⟩) ∧ V.cell? ⟨L, 3, none⟩ = some (.string ⟨#[49, 55, 46, 49, 46, 114]⟩))
theorem AInv.later {w V U : World} {R G L : Nat} (h : AInv w V R G L) (hl : Later V U) : AInv w U R G L := by
  obtain ⟨h1, ⟨h2, h3, h4⟩, ⟨a0, a1, a2⟩, ⟨b0, b1, b2⟩, ⟨c0, c1, c2, c3⟩⟩ := h
  exact ⟨h1.trans hl, ⟨Nat.lt_of_lt_of_le h2 hl.size, Nat.lt_of_lt_of_le h3 hl.size, Nat.lt_of_lt_of_le h4 hl.size⟩, ⟨cell_at hl a0 h2, cell_at hl a1 h2, cell_at hl a2 h2⟩, ⟨cell_at hl b0 h3, cell_at hl b1 h3, cell_at hl b2 h3⟩, ⟨cell_at hl c0 h4, cell_at hl c1 h4, cell_at hl c2 h4, cell_at hl c3 h4⟩⟩

set_option maxRecDepth 100000 in
set_option maxHeartbeats 6400000 in
theorem awake_is (w : World) (hw : Laid w) : Calls Tryd.prog 9 #[] w fun e w' => e = .returned (.bool true) ∧ Later w w' := by
  have hS := fun w1 (h1 : Laid w1) => Show_yes 3 2 5 w1 (by decide) (by omega) h1.1
  rw [show325] at hS
  have hR := fun w1 (h1 : Laid w1) => Read_is [51, 46, 50, 46, 114, 115] (by decide) _ _ _ _ right0 w1 h1
  have hR0 := fun w1 (h1 : Laid w1) => Read_is [51, 46, 50, 46] (by decide) _ _ _ _ wrong0 w1 h1
  have hR1 := fun w1 (h1 : Laid w1) => Read_is [48, 51, 46, 50, 46, 114] (by decide) _ _ _ _ wrong1 w1 h1
  have hR2 := fun w1 (h1 : Laid w1) => Read_is [51, 46, 50, 46, 115, 114] (by decide) _ _ _ _ wrong2 w1 h1
  have hR3 := fun w1 (h1 : Laid w1) => Read_is [49, 55, 46, 49, 46, 114] (by decide) _ _ _ _ wrong3 w1 h1
  go_enter Tryd.func9, Tryd.ntmps9
  go_wp2_with fail
  refine (hS _ (hw.later ((Later.refl w).alloc _))).mono ?_
  rintro e w1 ⟨rfl, hb1⟩
  have k0 := cell_at hb1 (p := ⟨w.heap.size, 0, none⟩) (v := .int .i64 3) (by go_cell) (by simp)
  have k1 := cell_at hb1 (p := ⟨w.heap.size, 1, none⟩) (v := .int .u32 2) (by go_cell) (by simp)
  have k2 := cell_at hb1 (p := ⟨w.heap.size, 2, none⟩) (v := .int .u8 5) (by go_cell) (by simp)
  have hl1 : Later w w1 := ((Later.refl w).alloc _).trans hb1
  have hR1' : w.heap.size < w1.heap.size := Nat.lt_of_lt_of_le (by simp) hb1.size
  clear hb1
  go_wp2_with fail
  refine (hR _ (hw.later hl1)).mono ?_
  rintro e w2 ⟨rfl, hb2⟩
  have k0 := cell_at hb2 k0 hR1'
  have k1 := cell_at hb2 k1 hR1'
  have k2 := cell_at hb2 k2 hR1'
  have hl2 := hl1.trans hb2
  have hR2' := Nat.lt_of_lt_of_le hR1' hb2.size
  clear hb2 hl1 hR1'
  go_wp2_with fail
  obtain ⟨W3, hW3⟩ : ∃ W3, (w2.alloc (Obj.cells #[Value.int IntKind.i64 3, Value.int IntKind.u32 2, Value.int IntKind.u8 5] 27)).alloc (Obj.cells #[Value.string { data := #[51, 46, 50, 46] }, Value.string { data := #[48, 51, 46, 50, 46, 114] }, Value.string { data := #[51, 46, 50, 46, 115, 114] }, Value.string { data := #[49, 55, 46, 49, 46, 114] }] 9) = W3 := ⟨_, rfl⟩
  obtain ⟨G, hG⟩ : ∃ G, w2.heap.size = G := ⟨_, rfl⟩
  obtain ⟨L, hL⟩ : ∃ L, w2.heap.size + 1 = L := ⟨_, rfl⟩
  have hL' : (w2.alloc (Obj.cells #[Value.int IntKind.i64 3, Value.int IntKind.u32 2, Value.int IntKind.u8 5] 27)).heap.size = L := by rw [← hL]; simp
  obtain ⟨R, hR⟩ : ∃ R, w.heap.size = R := ⟨_, rfl⟩
  have hI0 : AInv w W3 R G L := by
    have hV' : Later w2 W3 := by rw [← hW3]; exact ((Later.refl w2).alloc _).alloc _
    rw [← hR]
    refine ⟨hl2.trans hV', ⟨Nat.lt_of_lt_of_le hR2' hV'.size, ?_, ?_⟩, ⟨cell_at hV' k0 hR2', cell_at hV' k1 hR2', cell_at hV' k2 hR2'⟩, ⟨?_, ?_, ?_⟩, ⟨?_, ?_, ?_, ?_⟩⟩
    · rw [← hW3, ← hG]; simp <;> omega
    · rw [← hW3, ← hL]; simp <;> omega
    · rw [← hW3, ← hG]; exact cell_at ((Later.refl _).alloc _) (by simp) (by simp)
    · rw [← hW3, ← hG]; exact cell_at ((Later.refl _).alloc _) (by simp) (by simp)
    · rw [← hW3, ← hG]; exact cell_at ((Later.refl _).alloc _) (by simp) (by simp)
    · rw [← hW3, ← hL']; exact World.cell?_alloc_new _ _ _ _
    · rw [← hW3, ← hL']; exact World.cell?_alloc_new _ _ _ _
    · rw [← hW3, ← hL']; exact World.cell?_alloc_new _ _ _ _
    · rw [← hW3, ← hL']; exact World.cell?_alloc_new _ _ _ _
  rw [hW3, hL, hG, hR]
  clear k0 k1 k2 hl2 hR2' hW3 hG hL hL' hR
  have HW := Lib.hid hw
  clear hw
  go_loopw [7] (fun i wr => ∃ j : Nat, j ≤ 4 ∧ i = .int .i64 j ∧ AInv w wr R G L) (fun i _ => 4 - (RowKit.intOf i).toNat)
  case atStart => exact ⟨0, by omega, rfl, hI0⟩
  case round =>
    obtain ⟨j, hj, rfl, hI⟩ := hrel
    rename World => wk
    clear hI0
    have hI' := hI
    obtain ⟨h1, ⟨h2, h3, h4⟩, ⟨a0, a1, a2⟩, ⟨b0, b1, b2⟩, ⟨c0, c1, c2, c3⟩⟩ := hI'
    have hj' : j = 0 ∨ j = 1 ∨ j = 2 ∨ j = 3 ∨ j = 4 := by omega
    rcases hj' with rfl | rfl | rfl | rfl | rfl
    · go_wp2_with fail
      refine (hR0 _ (HW.out.later h1)).mono ?_
      rintro e w3 ⟨rfl, hb3⟩
      go_wp2_with fail
      go_roundw
      case rel => exact ⟨1, by omega, rfl, hI.later (hb3.alloc _)⟩
      case measure => simp [RowKit.intOf]
    · go_wp2_with fail
      refine (hR1 _ (HW.out.later h1)).mono ?_
      rintro e w3 ⟨rfl, hb3⟩
      go_wp2_with fail
      go_roundw
      case rel => exact ⟨2, by omega, rfl, hI.later (hb3.alloc _)⟩
      case measure => simp [RowKit.intOf]
    · go_wp2_with fail
      refine (hR2 _ (HW.out.later h1)).mono ?_
      rintro e w3 ⟨rfl, hb3⟩
      go_wp2_with fail
      go_roundw
      case rel => exact ⟨3, by omega, rfl, hI.later (hb3.alloc _)⟩
      case measure => simp [RowKit.intOf]
    · go_wp2_with fail
      refine (hR3 _ (HW.out.later h1)).mono ?_
      rintro e w3 ⟨rfl, hb3⟩
      go_wp2_with fail
      go_roundw
      case rel => exact ⟨4, by omega, rfl, hI.later (hb3.alloc _)⟩
      case measure => simp [RowKit.intOf]
    · go_wp2_with fail
      refine (Allows_is 3 2 5 1 true (by decide) _).mono ?_
      rintro e w3 ⟨rfl, hb3⟩
      have e10 := cell_at hb3 a0 h2
      have e11 := cell_at hb3 a1 h2
      have e12 := cell_at hb3 a2 h2
      have hs3 := Nat.lt_of_lt_of_le h2 hb3.size
      go_wp2_with fail
      refine (Allows_is 3 2 5 5 true (by decide) _).mono ?_
      rintro e w4 ⟨rfl, hb4⟩
      have e20 := cell_at hb4 e10 hs3
      have e21 := cell_at hb4 e11 hs3
      have e22 := cell_at hb4 e12 hs3
      have hs4 := Nat.lt_of_lt_of_le hs3 hb4.size
      go_wp2_with fail
      refine (Allows_is 3 2 5 6 true (by decide) _).mono ?_
      rintro e w5 ⟨rfl, hb5⟩
      have e30 := cell_at hb5 e20 hs4
      have e31 := cell_at hb5 e21 hs4
      have e32 := cell_at hb5 e22 hs4
      have hs5 := Nat.lt_of_lt_of_le hs4 hb5.size
      go_wp2_with fail
      refine (Allows_is 3 2 5 2 false (by decide) _).mono ?_
      rintro e w6 ⟨rfl, hb6⟩
      go_wp2_with fail
      go_ret
      exact ⟨rfl, (((h1.trans hb3).trans hb4).trans hb5).trans hb6⟩
end Go.Proofs.YtpfnccjfmbecfaaDoor
