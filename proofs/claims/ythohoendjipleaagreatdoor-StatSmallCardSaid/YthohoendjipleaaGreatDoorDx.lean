/-
  The reference's order of numbers as lists of digits, walked. Conditions: numbers of at most 30 digits.
-/
import Derived.Test.YthohoendjipleaaGreatDoorDw
namespace Go.Proofs.YthohoendjipleaaGreatDoor
open Go.RowKit Go.Lib
set_option linter.unusedSimpArgs false
set_option linter.unusedVariables false

theorem dg_eq_len {A B : Nat} (h : A = B) : (dg A).length = (dg B).length := by rw [h]
set_option maxRecDepth 100000 in
set_option maxHeartbeats 8000000 in
theorem less25_is (A B : Nat) (va vb : Value) (w : World) (hA : Dig w va A) (hB : Dig w vb B) (hb : A < 10 ^ 30) (hb2 : B < 10 ^ 30) : Calls Tryz.prog 27 #[va, vb] w fun e w' => e = .returned (.bool (decide (A < B))) ∧ Later w w' := by
  have hlA := dg_len_le A 30 hb
  have hlB := dg_len_le B 30 hb2
  obtain ⟨pa, ca, rfl, hca, hcA⟩ := hA
  obtain ⟨pb, cb, rfl, hcb, hcB⟩ := hB
  obtain ⟨la, hla⟩ : ∃ la, (dg A).length = la := ⟨_, rfl⟩
  obtain ⟨lb, hlb⟩ : ∃ lb, (dg B).length = lb := ⟨_, rfl⟩
  by_cases hne : la = lb
  · subst hne
    have hga : ∀ i, i < la → ∃ g, pa = some ⟨g, 0, none⟩ ∧ g < w.heap.size ∧ w.cell? ⟨g, i, none⟩ = some (.int .i64 ((A / 10 ^ i % 10 : Nat) : Int)) := fun i hi => hcA i _ (dg_get (by omega))
    have hgb : ∀ i, i < la → ∃ g, pb = some ⟨g, 0, none⟩ ∧ g < w.heap.size ∧ w.cell? ⟨g, i, none⟩ = some (.int .i64 ((B / 10 ^ i % 10 : Nat) : Int)) := fun i hi => hcB i _ (dg_get (by omega))
    have htop : A / 10 ^ la = B / 10 ^ la := by
      rw [Nat.div_eq_of_lt (by rw [← hla]; exact (dg_len A).1), Nat.div_eq_of_lt (by rw [← hlb]; exact (dg_len B).1)]
    rw [hla] at hca hlA ⊢
    rw [hlb] at hcb ⊢
    have HG := Lib.hid (And.intro hga hgb)
    have HT := Lib.hid htop
    have d0 : ((la : Int) != (la : Int)) = false := by simp
    clear hcA hcB hla hlb hga hgb htop hb hb2 hlB
    go_enter Tryz.func27, Tryz.ntmps27
    go_wp2_with fail
    go_loopw [5] (fun s5 wr => ∃ k : Nat, k ≤ la ∧ s5 = .int .i64 ((k : Int) - 1) ∧ Hid (A / 10 ^ k = B / 10 ^ k) ∧ Later w wr) (fun s5 _ => (RowKit.intOf s5 + 1).toNat)
    case atStart => exact ⟨la, Nat.le_refl _, rfl, HT, Later.refl _⟩
    case round =>
      obtain ⟨k, hk, rfl, hkk, hl⟩ := hrel
      rename World => wk
      cases k with
      | zero =>
        have hab : decide (A < B) = false := by
          have h := hkk.out
          simp only [Nat.pow_zero, Nat.div_one] at h
          simp [h]
        have HAB := Lib.hid hab
        have HL := Lib.hid hl
        have h00 : ((0 : Nat) : Int) - 1 = -1 := by omega
        rw [h00]
        clear hkk hl hab h00
        go_wp2_with fail
        go_ret
        exact ⟨by rw [HAB.out]; rfl, HL.out⟩
      | succ j =>
        have hjj : ((j + 1 : Nat) : Int) - 1 = (j : Int) := by omega
        rw [hjj]
        obtain ⟨ga, rfl, ga2, ka⟩ := HG.out.1 j (by omega)
        obtain ⟨gb, rfl, gb2, kb⟩ := HG.out.2 j (by omega)
        have ka := cell_at hl ka ga2
        have kb := cell_at hl kb gb2
        obtain ⟨x, hx⟩ : ∃ x, A / 10 ^ j % 10 = x := ⟨_, rfl⟩
        obtain ⟨y, hy⟩ : ∃ y, B / 10 ^ j % 10 = y := ⟨_, rfl⟩
        have hless := dg_less (a := A) (b := B) (i := j) hkk.out
        have hstep : x = y → A / 10 ^ j = B / 10 ^ j := fun h => by
          have h1 := hkk.out
          rw [div_pow_succ, div_pow_succ] at h1
          omega
        rw [hx, hy] at hless
        rw [hx] at ka
        rw [hy] at kb
        have i0 : (0 : Int) ≤ (j : Int) := by omega
        have i1 : (j : Int) < (la : Int) := by omega
        have d1 : decide (0 ≤ (j : Int)) = true := by simp
        have HL := Lib.hid hl
        have HXY := Lib.hid (And.intro hless hstep)
        clear hx hy hless hstep hkk hl hjj
        by_cases hxy : x = y
        · subst hxy
          have HST := Lib.hid (HXY.out.2 rfl)
          have e1 : ((x : Int) != (x : Int)) = false := by simp
          go_wp2_with fail
          go_region
          go_wp2_with fail
          go_roundw
          case rel => exact ⟨j, by omega, rfl, HST, HL.out.drew⟩
          case measure => simp [RowKit.intOf] <;> omega
        · have e1 : ((x : Int) != (y : Int)) = true := by rw [bne_iff_ne]; omega
          have hr : decide (x < y) = decide (A < B) := by
            have h := HXY.out.1 hxy
            by_cases hab : A < B
            · have := h.1 hab
              rw [decide_eq_true hab]; simp; omega
            · have h2 : ¬ x < y := fun k => hab (h.2 k)
              rw [decide_eq_false hab, decide_eq_false h2]
          obtain ⟨r, hrr⟩ : ∃ r, decide (A < B) = r := ⟨_, rfl⟩
          rw [hrr] at hr
          have HR := Lib.hid (And.intro hrr hr)
          clear hrr hr
          go_wp2_with fail
          go_region
          go_wp2_with fail
          go_region
          go_wp2_with fail
          go_ret
          exact ⟨by rw [HR.out.1, ← HR.out.2]; rfl, HL.out.drew.drew⟩
  · have d0 : ((la : Int) != (lb : Int)) = true := by rw [bne_iff_ne]; omega
    have hr : decide (la < lb) = decide (A < B) := by
      by_cases h : la < lb
      · rw [decide_eq_true (show A < B from dg_len_lt (by omega)), decide_eq_true h]
      · have h2 : B < A := dg_len_lt (by omega)
        rw [decide_eq_false (show ¬ A < B by omega), decide_eq_false h]
    rw [hla] at hca ⊢
    rw [hlb] at hcb ⊢
    obtain ⟨r, hrr⟩ : ∃ r, decide (A < B) = r := ⟨_, rfl⟩
    rw [hrr] at hr
    have HR := Lib.hid (And.intro hrr hr)
    clear hr hrr hcA hcB hla hlb hne hb hb2
    go_enter Tryz.func27, Tryz.ntmps27
    go_wp2_with fail
    go_ret
    exact ⟨by rw [HR.out.1, ← HR.out.2]; rfl, Later.refl _⟩
end Go.Proofs.YthohoendjipleaaGreatDoor
