/-
  Package stat: the counters' pointers; Rate. Conditions: the numbers are words.
-/
import Derived.Test.YthohoendjipleaaGreatDoorR
import Derived.BigRegion
namespace Go.Proofs.YthohoendjipleaaGreatDoor
open Go.RowKit

/-- the pointers to the counters -/
def CtrPost (S : Nat) (w : World) (e : Ending) (w' : World) : Prop :=
  ∃ C, w.heap.size ≤ C ∧ C < w'.heap.size ∧ e = .returned (.slice (some ⟨C, 0, none⟩) 8 8) ∧ Later w w' ∧ (∀ j, j < 8 → w'.cell? ⟨C, j, none⟩ = some (.pointer (some ⟨S, 2 + j, none⟩)))
theorem ctrPost_mk (S : Nat) (w : World) (w' : World) (h : w' = (w.alloc (.cells #[.pointer (some ⟨S, 2, none⟩), .pointer (some ⟨S, 3, none⟩), .pointer (some ⟨S, 4, none⟩), .pointer (some ⟨S, 5, none⟩), .pointer (some ⟨S, 6, none⟩), .pointer (some ⟨S, 7, none⟩), .pointer (some ⟨S, 8, none⟩), .pointer (some ⟨S, 9, none⟩)] 63)).drew) :
    CtrPost S w (.returned (.slice (some ⟨w.heap.size, 0, none⟩) 8 8)) w' := by
  subst h
  refine ⟨w.heap.size, Nat.le_refl _, by simp, rfl, ((Later.refl w).alloc _).drew, fun j hj => ?_⟩
  have : j = 0 ∨ j = 1 ∨ j = 2 ∨ j = 3 ∨ j = 4 ∨ j = 5 ∨ j = 6 ∨ j = 7 := by omega
  rcases this with rfl | rfl | rfl | rfl | rfl | rfl | rfl | rfl <;> go_cell
theorem counters_is (S : Nat) (w : World) : Calls Tryz.prog 21 #[.pointer (some ⟨S, 0, none⟩)] w (CtrPost S w) := by
  go_enter Tryz.func21, Tryz.ntmps21
  go_wp2_with fail
  go_region
  go_wp2_with fail
  go_ret
  exact ctrPost_mk S w _ rfl

/-- a counter as a natural number; the sum of the first k counters of deeds -/
def nX (x : Nat → Int) (j : Nat) : Nat := (x j).toNat
def sumX (x : Nat → Int) : Nat → Nat
  | 0 => 0
  | k + 1 => sumX x k + nX x (2 + k)
theorem sumX_le (x : Nat → Int) (h : ∀ j, 0 ≤ x j ∧ x j ≤ 18446744073709551615) : ∀ k, sumX x k ≤ k * 18446744073709551615 := by
  intro k
  induction k with
  | zero => simp [sumX]
  | succ k ih =>
    have h1 := h (2 + k)
    have h2 : nX x (2 + k) ≤ 18446744073709551615 := by unfold nX; omega
    rw [sumX, Nat.succ_mul]
    omega

/-- what Rate keeps in its first loop: the Stat (block S), the sum (blocks S + 1 and S + 2), the pointers (block C) -/
def HI (w V : World) (S C : Nat) (x : Nat → Int) (T : Nat) : Prop :=
  Later w V ∧ (w.heap.size ≤ S ∧ S + 2 < C ∧ C < V.heap.size) ∧ (∀ j, j < 10 → V.cell? ⟨S, j, none⟩ = some (.int .u64 (x j))) ∧
  (V.cell? ⟨S + 1, 0, none⟩ = some (.int .u64 ((T / 18446744073709551616 : Nat) : Int)) ∧ V.frozen? ⟨S + 1, 0, none⟩ = false) ∧ (V.cell? ⟨S + 2, 0, none⟩ = some (.int .u64 ((T % 18446744073709551616 : Nat) : Int)) ∧ V.frozen? ⟨S + 2, 0, none⟩ = false) ∧
  (∀ j, j < 8 → V.cell? ⟨C, j, none⟩ = some (.pointer (some ⟨S, 2 + j, none⟩)))

theorem setO (V : World) (S j b o : Nat) (v : Value) (h : b ≠ S) : (V.setCell ⟨S, j, none⟩ v).cell? ⟨b, o, none⟩ = V.cell? ⟨b, o, none⟩ :=
  World.cell?_setCell_other V _ _ _ (by intro h'; injection h' with h'; exact h h'.symm)
theorem HI.add {w V : World} {S C : Nat} {x : Nat → Int} {T : Nat} (h : HI w V S C x T) (T' : Nat) (a b : Int) (ha : a = ((T' % 18446744073709551616 : Nat) : Int)) (hb : b = ((T' / 18446744073709551616 : Nat) : Int)) :
    HI w (((V.setCell ⟨S + 1 + 1, 0, none⟩ (.int .u64 a)).setCell ⟨S + 1, 0, none⟩ (.int .u64 b)).drew) S C x T' := by
  obtain ⟨h1, ⟨h2, h3, h4⟩, hs, ⟨p1, f1⟩, ⟨p2, f2⟩, hc⟩ := h
  subst ha hb
  have e : ∀ (p : Addr), (((V.setCell ⟨S + 1 + 1, 0, none⟩ (.int .u64 ((T' % 18446744073709551616 : Nat) : Int))).setCell ⟨S + 1, 0, none⟩ (.int .u64 ((T' / 18446744073709551616 : Nat) : Int))).drew).cell? p = ((V.setCell ⟨S + 1 + 1, 0, none⟩ (.int .u64 ((T' % 18446744073709551616 : Nat) : Int))).setCell ⟨S + 1, 0, none⟩ (.int .u64 ((T' / 18446744073709551616 : Nat) : Int))).cell? p := fun p => by simp
  refine ⟨((h1.setCell _ _ (by show w.heap.size ≤ S + 1 + 1; omega)).setCell _ _ (by show w.heap.size ≤ S + 1; omega)).drew, ⟨h2, h3, by simpa using h4⟩, fun j hj => ?_, ⟨?_, by simpa using f1⟩, ⟨?_, by simpa using f2⟩, fun j hj => ?_⟩
  · rw [e, setO _ _ _ _ _ _ (by omega), setO _ _ _ _ _ _ (by omega)]; exact hs j hj
  · rw [e]
    exact World.cell?_setCell_same _ _ _ (by rw [setO _ _ _ _ _ _ (by omega)]; exact p1)
  · rw [e, setO _ _ _ _ _ _ (by omega)]
    exact World.cell?_setCell_same _ _ _ p2
  · rw [e, setO _ _ _ _ _ _ (by omega), setO _ _ _ _ _ _ (by omega)]; exact hc j hj
/-- the search behind n steps -/
def kR (T H n : Nat) : Nat := (stepsR.take n).foldl (stepR T H) 0
def KIs (T H n k : Nat) : Prop := kR T H n = k
theorem stepR_le (T H k s : Nat) (h : k ≤ 1000) : stepR T H k s ≤ 1000 := by unfold stepR; split <;> omega
theorem kR_le (T H n : Nat) : kR T H n ≤ 1000 := by
  have : ∀ (l : List Nat) k, k ≤ 1000 → l.foldl (stepR T H) k ≤ 1000 := by
    intro l
    induction l with
    | nil => exact fun k h => h
    | cons s r ih => exact fun k h => ih _ (stepR_le T H k s h)
  exact this _ 0 (by omega)
theorem kR_next (T H n s k : Nat) (hn : stepsR[n]? = some s) (h : KIs T H n k) : KIs T H (n + 1) (stepR T H k s) := by
  unfold KIs kR at *
  have hl : n < stepsR.length := by
    rw [List.getElem?_eq_some_iff] at hn
    exact hn.1
  rw [List.take_succ_eq_append_getElem hl, List.foldl_append, h]
  rw [List.getElem?_eq_getElem hl] at hn
  injection hn with hn
  rw [hn]; rfl
def StIs (n : Nat) (s : Int) : Prop := (n = 0 ∧ s = 512) ∨ (n = 1 ∧ s = 256) ∨ (n = 2 ∧ s = 128) ∨ (n = 3 ∧ s = 64) ∨ (n = 4 ∧ s = 32) ∨ (n = 5 ∧ s = 16) ∨ (n = 6 ∧ s = 8) ∨ (n = 7 ∧ s = 4) ∨ (n = 8 ∧ s = 2) ∨ (n = 9 ∧ s = 1) ∨ (n = 10 ∧ s = 0)

/-- the rate of a Stat's counters -/
def rateX (x : Nat → Int) : Nat := if sumX x 5 = 0 then 0 else rateN (sumX x 5) (nX x 7)

set_option maxRecDepth 100000 in
set_option maxHeartbeats 6400000 in
theorem Rate_is (x : Nat → Int) (hx : ∀ j, 0 ≤ x j ∧ x j ≤ 18446744073709551615) (a b : Nat) (w : World) :
    Calls Tryz.prog 9 #[.agg #[.int .u64 (x 0), .int .u64 (x 1), .int .u64 (x 2), .int .u64 (x 3), .int .u64 (x 4), .int .u64 (x 5), .int .u64 (x 6), .int .u64 (x 7), .int .u64 (x 8), .int .u64 (x 9), .complex .f64 a b]] w fun e w' => e = .returned (.int .i64 (rateX x : Nat)) ∧ Later w w' := by
  have HX := Lib.hid hx
  clear hx
  go_enter Tryz.func9, Tryz.ntmps9
  go_wp2_with fail
  refine (counters_is _ _).mono ?_
  rintro e w1 hpost
  obtain ⟨C, hC1, hC2, rfl, hb1, hC⟩ := hpost
  have hI0 : HI w w1 w.heap.size C x 0 := by
    refine ⟨(((Later.refl w).alloc _).alloc _).alloc _ |>.trans hb1, ⟨Nat.le_refl _, by simp at hC1; omega, hC2⟩, fun j hj => ?_, ⟨?_, ?_⟩, ⟨?_, ?_⟩, hC⟩
    · have : j = 0 ∨ j = 1 ∨ j = 2 ∨ j = 3 ∨ j = 4 ∨ j = 5 ∨ j = 6 ∨ j = 7 ∨ j = 8 ∨ j = 9 := by omega
      rcases this with rfl | rfl | rfl | rfl | rfl | rfl | rfl | rfl | rfl | rfl <;> exact cell_at hb1 (by go_cell) (by simp <;> omega)
    · exact cell_at hb1 (by go_cell) (by simp <;> omega)
    · exact frz_at hb1 (by go_cell) (by simp <;> omega)
    · exact cell_at hb1 (by go_cell) (by simp <;> omega)
    · exact frz_at hb1 (by go_cell) (by simp <;> omega)
  obtain ⟨S, hS⟩ : ∃ S, w.heap.size = S := ⟨_, rfl⟩
  rw [hS] at hI0 ⊢
  clear hC1 hC2 hb1 hC hS
  go_wp2_with fail
  go_loopw [6, 7, 16] (fun _ _ v16 wr => ∃ i : Nat, i ≤ 5 ∧ v16 = .int .i64 i ∧ HI w wr S C x (sumX x i)) (fun _ _ v16 _ => 5 - (RowKit.intOf v16).toNat)
  case atStart => exact ⟨0, by omega, rfl, hI0⟩
  case round =>
    obtain ⟨i, hi, rfl, hI⟩ := hrel
    rename World => wk
    clear hI0
    by_cases hi5 : i < 5
    · have hd5 : decide ((i : Int) < 5) = true := by simp; omega
      obtain ⟨T, hT⟩ : ∃ T, sumX x i = T := ⟨_, rfl⟩
      have hTs : sumX x (i + 1) = T + nX x (2 + i) := by rw [sumX, hT]
      obtain ⟨X, hX⟩ : ∃ X, nX x (2 + i) = X := ⟨_, rfl⟩
      have hXi : x (2 + i) = (X : Int) := by have := HX.out (2 + i); rw [← hX, nX]; omega
      have hX1 : X ≤ 18446744073709551615 := by have := HX.out (2 + i); rw [← hX, nX]; omega
      have hTb : T ≤ 92233720368547758075 := by rw [← hT]; exact Nat.le_trans (sumX_le x HX.out i) (by omega)
      rw [hT] at hI
      rw [hX] at hTs
      have HTS := Lib.hid hTs
      clear hTs hT
      obtain ⟨h1, ⟨h2, h3, h4⟩, hs, ⟨p1, f1⟩, ⟨p2, f2⟩, hc⟩ := hI
      have hsx := hs (2 + i) (by omega)
      rw [hXi] at hsx
      have hcx := hc i (by omega)
      have HI' := Lib.hid (show HI w wk S C x T from ⟨h1, ⟨h2, h3, h4⟩, hs, ⟨p1, f1⟩, ⟨p2, f2⟩, hc⟩)
      obtain ⟨lo, hlo⟩ : ∃ lo, T % 18446744073709551616 = lo := ⟨_, rfl⟩
      obtain ⟨hi', hhi⟩ : ∃ hi', T / 18446744073709551616 = hi' := ⟨_, rfl⟩
      rw [hlo] at p2
      rw [hhi] at p1
      obtain ⟨lo2, hlo2⟩ : ∃ lo2, (T + X) % 18446744073709551616 = lo2 := ⟨_, rfl⟩
      obtain ⟨ca, hca⟩ : ∃ ca, (lo + X) / 18446744073709551616 = ca := ⟨_, rfl⟩
      have hhi2 : (T + X) / 18446744073709551616 = hi' + ca := by omega
      have hlo3 : (lo + X) % 18446744073709551616 = lo2 := by omega
      have hca1 : ca ≤ 1 := by omega
      have hhi1 : hi' ≤ 4 := by omega
      have hadd : ∀ W : World, (callFunc 22 #[.int .u64 (lo : Int), .int .u64 (X : Int), .int .u64 0]).run Tryz.prog W = .ok (.value (.tuple #[.int .u64 (lo2 : Int), .int .u64 (ca : Int)])) W := fun W => by
        rw [add64_run lo X 0 (by omega) (by omega) (by omega) (by omega) W, show ((lo : Int) + X + 0) % 18446744073709551616 = (lo2 : Int) by omega, show ((lo : Int) + X + 0) / 18446744073709551616 = (ca : Int) by omega]
      have HQ := Lib.hid (And.intro hhi2 hlo2)
      clear hs hc hlo hhi hlo2 hca hhi2 hlo3 hXi hX hTb
      have p2' : wk.cell? ⟨S + 1 + 1, 0, none⟩ = some (.int .u64 (lo : Int)) := p2
      have f2' : wk.frozen? ⟨S + 1 + 1, 0, none⟩ = false := f2
      clear p2 f2
      go_wp2_with fail
      go_region
      go_wp2_with fail
      go_roundw
      case rel => exact ⟨i + 1, by omega, by go_num, by rw [HTS.out]; exact HI'.out.add _ _ _ (by rw [HQ.out.2]) (by rw [HQ.out.1]; simp)⟩
      case measure => simp [RowKit.intOf]; omega
    · have hd5 : decide ((i : Int) < 5) = false := by simp; omega
      rw [show i = 5 by omega] at hI
      clear hi5
      obtain ⟨T, hT⟩ : ∃ T, sumX x 5 = T := ⟨_, rfl⟩
      have hTb : T ≤ 92233720368547758075 := by rw [← hT]; exact Nat.le_trans (sumX_le x HX.out 5) (by omega)
      rw [hT] at hI
      have HT := Lib.hid hT
      clear hT
      obtain ⟨h1, ⟨h2, h3, h4⟩, hs, ⟨p1, f1⟩, ⟨p2, f2⟩, hc⟩ := hI
      have p2' : wk.cell? ⟨S + 1 + 1, 0, none⟩ = some (.int .u64 ((T % 18446744073709551616 : Nat) : Int)) := p2
      by_cases hT0 : T = 0
      · have q1 : wk.cell? ⟨S + 1, 0, none⟩ = some (.int .u64 0) := by rw [p1, hT0]; rfl
        have q2 : wk.cell? ⟨S + 1 + 1, 0, none⟩ = some (.int .u64 0) := by rw [p2', hT0]; rfl
        have HT0 := Lib.hid hT0
        clear p1 p2 p2' hs hc hT0
        go_wp2_with fail
        go_ret
        exact ⟨by rw [show rateX x = 0 from by rw [rateX, if_pos (HT.out.trans HT0.out)]]; rfl, h1⟩
      · obtain ⟨hh, hhh⟩ : ∃ hh, nX x 7 = hh := ⟨_, rfl⟩
        have hX7 : x 7 = (hh : Int) := by have := HX.out 7; rw [← hhh, nX]; omega
        have hh1 : hh ≤ 18446744073709551615 := by have := HX.out 7; rw [← hhh, nX]; omega
        have s7 := hs 7 (by omega)
        rw [hX7] at s7
        have HR := Lib.hid (show rateX x = rateN T hh from by rw [rateX, HT.out, if_neg hT0, hhh])
        have hM := fun W => Tryz.bits_Mul64 hh 1000 (by omega) (by omega) W
        rw [Nat.mul_comm hh 1000] at hM
        have HM := Lib.hid hM
        clear hM
        obtain ⟨lo, hlo⟩ : ∃ lo : Nat, T % 18446744073709551616 = lo := ⟨_, rfl⟩
        obtain ⟨hi', hhi⟩ : ∃ hi' : Nat, T / 18446744073709551616 = hi' := ⟨_, rfl⟩
        have q1 : wk.cell? ⟨S + 1, 0, none⟩ = some (.int .u64 (hi' : Int)) := by rw [← hhi]; exact p1
        have q2 : wk.cell? ⟨S + 1 + 1, 0, none⟩ = some (.int .u64 (lo : Int)) := by rw [← hlo]; exact p2'
        have hz : hi' = 0 → ((lo : Int) == 0) = false := fun h => by simp; omega
        have HP := Lib.hid (And.intro p2' p1)
        clear p1 p2 p2' f1 f2 hs hc
        have hz2 : (((hi' : Int) == 0) = false) ∨ (((hi' : Int) == 0) = true ∧ ((lo : Int) == 0) = false) := by
          by_cases hq : hi' = 0
          · exact .inr ⟨by simp [hq], hz hq⟩
          · exact .inl (by simp; omega)
        have HLH := Lib.hid (And.intro hlo hhi)
        clear hz hlo hhi hT0
        rcases hz2 with hz2 | ⟨hz2, hz3⟩
        all_goals
          go_wp2_with fail
          refine (HM.out _).mono ?_
          rintro e w5 ⟨rfl, rfl⟩
          go_wp2_with fail
          obtain ⟨V, hV⟩ : ∃ V, (w5.alloc (Obj.cells #[Value.int IntKind.u64 (1000 * (hh : Int) / 18446744073709551616)] 24)).alloc (Obj.cells #[Value.int IntKind.u64 (1000 * (hh : Int) % 18446744073709551616)] 24) = V := ⟨_, rfl⟩
          obtain ⟨B0, hB0⟩ : ∃ B0, w5.heap.size = B0 := ⟨_, rfl⟩
          have hlq : Later w5 V := by rw [← hV]; exact ((Later.refl w5).alloc _).alloc _
          have g3 : V.cell? ⟨B0, 0, none⟩ = some (.int .u64 ((1000 * hh / 18446744073709551616 : Nat) : Int)) := by rw [← hV, ← hB0]; simp
          have g4 : V.cell? ⟨B0 + 1, 0, none⟩ = some (.int .u64 ((1000 * hh % 18446744073709551616 : Nat) : Int)) := by rw [← hV, ← hB0]; simp
          have HC := Lib.hid (And.intro (cell_at hlq HP.out.1 (by show S + 1 + 1 < w5.heap.size; omega)) (And.intro (cell_at hlq HP.out.2 (by show S + 1 < w5.heap.size; omega)) (And.intro g3 g4)))
          have hlV := h1.trans hlq
          rw [hV, hB0]
          clear hV hB0 hlq g3 g4 q1 q2 s7 hz2 HM
          go_loop [11, 12] (fun v11 v12 => ∃ (n k : Nat) (s : Int), n ≤ 10 ∧ v11 = .int .i64 k ∧ v12 = .int .i64 s ∧ KIs T hh n k ∧ StIs n s) (fun _ v12 => (RowKit.intOf v12).toNat)
          case atStart => exact ⟨0, 0, 512, by omega, rfl, rfl, rfl, .inl ⟨rfl, rfl⟩⟩
          case round =>
            obtain ⟨n, k, s, hn, rfl, rfl, hK, hS⟩ := hrel
            have hk1 : k ≤ 1000 := by
              have := kR_le T hh n
              unfold KIs at hK
              omega
            have HK := Lib.hid hK
            clear hK
            rcases hS with ⟨rfl, rfl⟩ | ⟨rfl, rfl⟩ | ⟨rfl, rfl⟩ | ⟨rfl, rfl⟩ | ⟨rfl, rfl⟩ | ⟨rfl, rfl⟩ | ⟨rfl, rfl⟩ | ⟨rfl, rfl⟩ | ⟨rfl, rfl⟩ | ⟨rfl, rfl⟩ | ⟨rfl, rfl⟩
            · have hnx := kR_next T hh 0 512 k rfl HK.out
              by_cases hle : k + 512 ≤ 1000
              · obtain ⟨r, hr⟩ : ∃ r, decide (T * (k + 512) ≤ 1000 * hh) = r := ⟨_, rfl⟩
                have HF := Lib.hid (fits_is T hh (k + 512) hTb hh1 hle (S + 1 + 1) (S + 1) B0 (B0 + 1) r hr V HC.out.1 HC.out.2.1 HC.out.2.2.1 HC.out.2.2.2)
                have hst : KIs T hh 1 (if r then k + 512 else k) := by
                  rw [show stepR T hh k 512 = (if r then k + 512 else k) from by
                    unfold stepR
                    rw [← hr]
                    by_cases hc : T * (k + 512) ≤ 1000 * hh
                    · rw [if_pos ⟨hle, hc⟩]; simp [hc]
                    · rw [if_neg (fun h => hc h.2)]; simp [hc]] at hnx
                  exact hnx
                have HST := Lib.hid hst
                clear hnx hst hr
                have hle' : (k : Int) + 512 ≤ 1000 := by omega
                cases r
                all_goals
                  go_wp2_with fail
                  refine ((show Calls Tryz.prog 24 #[.int .i64 ((k : Int) + 512), .pointer (some ⟨S + 1 + 1, 0, none⟩), .pointer (some ⟨S + 1, 0, none⟩), .pointer (some ⟨B0, 0, none⟩), .pointer (some ⟨B0 + 1, 0, none⟩)] V _ from HF.out)).mono ?_
                  rintro e w9 ⟨rfl, rfl⟩
                  go_wp2_with fail
                  go_round
                  case rel => exact ⟨1, _, 256, by omega, rfl, rfl, HST.out, by unfold StIs; omega⟩
                  case measure => simp [RowKit.intOf]
              · rw [show stepR T hh k 512 = k from by unfold stepR; rw [if_neg (fun h => hle h.1)]] at hnx
                have HST := Lib.hid hnx
                clear hnx
                have hle' : ¬ (k : Int) + 512 ≤ 1000 := by omega
                go_wp2_with fail
                go_round
                case rel => exact ⟨1, k, 256, by omega, rfl, rfl, HST.out, by unfold StIs; omega⟩
                case measure => simp [RowKit.intOf]
            · have hnx := kR_next T hh 1 256 k rfl HK.out
              by_cases hle : k + 256 ≤ 1000
              · obtain ⟨r, hr⟩ : ∃ r, decide (T * (k + 256) ≤ 1000 * hh) = r := ⟨_, rfl⟩
                have HF := Lib.hid (fits_is T hh (k + 256) hTb hh1 hle (S + 1 + 1) (S + 1) B0 (B0 + 1) r hr V HC.out.1 HC.out.2.1 HC.out.2.2.1 HC.out.2.2.2)
                have hst : KIs T hh 2 (if r then k + 256 else k) := by
                  rw [show stepR T hh k 256 = (if r then k + 256 else k) from by
                    unfold stepR
                    rw [← hr]
                    by_cases hc : T * (k + 256) ≤ 1000 * hh
                    · rw [if_pos ⟨hle, hc⟩]; simp [hc]
                    · rw [if_neg (fun h => hc h.2)]; simp [hc]] at hnx
                  exact hnx
                have HST := Lib.hid hst
                clear hnx hst hr
                have hle' : (k : Int) + 256 ≤ 1000 := by omega
                cases r
                all_goals
                  go_wp2_with fail
                  refine ((show Calls Tryz.prog 24 #[.int .i64 ((k : Int) + 256), .pointer (some ⟨S + 1 + 1, 0, none⟩), .pointer (some ⟨S + 1, 0, none⟩), .pointer (some ⟨B0, 0, none⟩), .pointer (some ⟨B0 + 1, 0, none⟩)] V _ from HF.out)).mono ?_
                  rintro e w9 ⟨rfl, rfl⟩
                  go_wp2_with fail
                  go_round
                  case rel => exact ⟨2, _, 128, by omega, rfl, rfl, HST.out, by unfold StIs; omega⟩
                  case measure => simp [RowKit.intOf]
              · rw [show stepR T hh k 256 = k from by unfold stepR; rw [if_neg (fun h => hle h.1)]] at hnx
                have HST := Lib.hid hnx
                clear hnx
                have hle' : ¬ (k : Int) + 256 ≤ 1000 := by omega
                go_wp2_with fail
                go_round
                case rel => exact ⟨2, k, 128, by omega, rfl, rfl, HST.out, by unfold StIs; omega⟩
                case measure => simp [RowKit.intOf]
            · have hnx := kR_next T hh 2 128 k rfl HK.out
              by_cases hle : k + 128 ≤ 1000
              · obtain ⟨r, hr⟩ : ∃ r, decide (T * (k + 128) ≤ 1000 * hh) = r := ⟨_, rfl⟩
                have HF := Lib.hid (fits_is T hh (k + 128) hTb hh1 hle (S + 1 + 1) (S + 1) B0 (B0 + 1) r hr V HC.out.1 HC.out.2.1 HC.out.2.2.1 HC.out.2.2.2)
                have hst : KIs T hh 3 (if r then k + 128 else k) := by
                  rw [show stepR T hh k 128 = (if r then k + 128 else k) from by
                    unfold stepR
                    rw [← hr]
                    by_cases hc : T * (k + 128) ≤ 1000 * hh
                    · rw [if_pos ⟨hle, hc⟩]; simp [hc]
                    · rw [if_neg (fun h => hc h.2)]; simp [hc]] at hnx
                  exact hnx
                have HST := Lib.hid hst
                clear hnx hst hr
                have hle' : (k : Int) + 128 ≤ 1000 := by omega
                cases r
                all_goals
                  go_wp2_with fail
                  refine ((show Calls Tryz.prog 24 #[.int .i64 ((k : Int) + 128), .pointer (some ⟨S + 1 + 1, 0, none⟩), .pointer (some ⟨S + 1, 0, none⟩), .pointer (some ⟨B0, 0, none⟩), .pointer (some ⟨B0 + 1, 0, none⟩)] V _ from HF.out)).mono ?_
                  rintro e w9 ⟨rfl, rfl⟩
                  go_wp2_with fail
                  go_round
                  case rel => exact ⟨3, _, 64, by omega, rfl, rfl, HST.out, by unfold StIs; omega⟩
                  case measure => simp [RowKit.intOf]
              · rw [show stepR T hh k 128 = k from by unfold stepR; rw [if_neg (fun h => hle h.1)]] at hnx
                have HST := Lib.hid hnx
                clear hnx
                have hle' : ¬ (k : Int) + 128 ≤ 1000 := by omega
                go_wp2_with fail
                go_round
                case rel => exact ⟨3, k, 64, by omega, rfl, rfl, HST.out, by unfold StIs; omega⟩
                case measure => simp [RowKit.intOf]
            · have hnx := kR_next T hh 3 64 k rfl HK.out
              by_cases hle : k + 64 ≤ 1000
              · obtain ⟨r, hr⟩ : ∃ r, decide (T * (k + 64) ≤ 1000 * hh) = r := ⟨_, rfl⟩
                have HF := Lib.hid (fits_is T hh (k + 64) hTb hh1 hle (S + 1 + 1) (S + 1) B0 (B0 + 1) r hr V HC.out.1 HC.out.2.1 HC.out.2.2.1 HC.out.2.2.2)
                have hst : KIs T hh 4 (if r then k + 64 else k) := by
                  rw [show stepR T hh k 64 = (if r then k + 64 else k) from by
                    unfold stepR
                    rw [← hr]
                    by_cases hc : T * (k + 64) ≤ 1000 * hh
                    · rw [if_pos ⟨hle, hc⟩]; simp [hc]
                    · rw [if_neg (fun h => hc h.2)]; simp [hc]] at hnx
                  exact hnx
                have HST := Lib.hid hst
                clear hnx hst hr
                have hle' : (k : Int) + 64 ≤ 1000 := by omega
                cases r
                all_goals
                  go_wp2_with fail
                  refine ((show Calls Tryz.prog 24 #[.int .i64 ((k : Int) + 64), .pointer (some ⟨S + 1 + 1, 0, none⟩), .pointer (some ⟨S + 1, 0, none⟩), .pointer (some ⟨B0, 0, none⟩), .pointer (some ⟨B0 + 1, 0, none⟩)] V _ from HF.out)).mono ?_
                  rintro e w9 ⟨rfl, rfl⟩
                  go_wp2_with fail
                  go_round
                  case rel => exact ⟨4, _, 32, by omega, rfl, rfl, HST.out, by unfold StIs; omega⟩
                  case measure => simp [RowKit.intOf]
              · rw [show stepR T hh k 64 = k from by unfold stepR; rw [if_neg (fun h => hle h.1)]] at hnx
                have HST := Lib.hid hnx
                clear hnx
                have hle' : ¬ (k : Int) + 64 ≤ 1000 := by omega
                go_wp2_with fail
                go_round
                case rel => exact ⟨4, k, 32, by omega, rfl, rfl, HST.out, by unfold StIs; omega⟩
                case measure => simp [RowKit.intOf]
            · have hnx := kR_next T hh 4 32 k rfl HK.out
              by_cases hle : k + 32 ≤ 1000
              · obtain ⟨r, hr⟩ : ∃ r, decide (T * (k + 32) ≤ 1000 * hh) = r := ⟨_, rfl⟩
                have HF := Lib.hid (fits_is T hh (k + 32) hTb hh1 hle (S + 1 + 1) (S + 1) B0 (B0 + 1) r hr V HC.out.1 HC.out.2.1 HC.out.2.2.1 HC.out.2.2.2)
                have hst : KIs T hh 5 (if r then k + 32 else k) := by
                  rw [show stepR T hh k 32 = (if r then k + 32 else k) from by
                    unfold stepR
                    rw [← hr]
                    by_cases hc : T * (k + 32) ≤ 1000 * hh
                    · rw [if_pos ⟨hle, hc⟩]; simp [hc]
                    · rw [if_neg (fun h => hc h.2)]; simp [hc]] at hnx
                  exact hnx
                have HST := Lib.hid hst
                clear hnx hst hr
                have hle' : (k : Int) + 32 ≤ 1000 := by omega
                cases r
                all_goals
                  go_wp2_with fail
                  refine ((show Calls Tryz.prog 24 #[.int .i64 ((k : Int) + 32), .pointer (some ⟨S + 1 + 1, 0, none⟩), .pointer (some ⟨S + 1, 0, none⟩), .pointer (some ⟨B0, 0, none⟩), .pointer (some ⟨B0 + 1, 0, none⟩)] V _ from HF.out)).mono ?_
                  rintro e w9 ⟨rfl, rfl⟩
                  go_wp2_with fail
                  go_round
                  case rel => exact ⟨5, _, 16, by omega, rfl, rfl, HST.out, by unfold StIs; omega⟩
                  case measure => simp [RowKit.intOf]
              · rw [show stepR T hh k 32 = k from by unfold stepR; rw [if_neg (fun h => hle h.1)]] at hnx
                have HST := Lib.hid hnx
                clear hnx
                have hle' : ¬ (k : Int) + 32 ≤ 1000 := by omega
                go_wp2_with fail
                go_round
                case rel => exact ⟨5, k, 16, by omega, rfl, rfl, HST.out, by unfold StIs; omega⟩
                case measure => simp [RowKit.intOf]
            · have hnx := kR_next T hh 5 16 k rfl HK.out
              by_cases hle : k + 16 ≤ 1000
              · obtain ⟨r, hr⟩ : ∃ r, decide (T * (k + 16) ≤ 1000 * hh) = r := ⟨_, rfl⟩
                have HF := Lib.hid (fits_is T hh (k + 16) hTb hh1 hle (S + 1 + 1) (S + 1) B0 (B0 + 1) r hr V HC.out.1 HC.out.2.1 HC.out.2.2.1 HC.out.2.2.2)
                have hst : KIs T hh 6 (if r then k + 16 else k) := by
                  rw [show stepR T hh k 16 = (if r then k + 16 else k) from by
                    unfold stepR
                    rw [← hr]
                    by_cases hc : T * (k + 16) ≤ 1000 * hh
                    · rw [if_pos ⟨hle, hc⟩]; simp [hc]
                    · rw [if_neg (fun h => hc h.2)]; simp [hc]] at hnx
                  exact hnx
                have HST := Lib.hid hst
                clear hnx hst hr
                have hle' : (k : Int) + 16 ≤ 1000 := by omega
                cases r
                all_goals
                  go_wp2_with fail
                  refine ((show Calls Tryz.prog 24 #[.int .i64 ((k : Int) + 16), .pointer (some ⟨S + 1 + 1, 0, none⟩), .pointer (some ⟨S + 1, 0, none⟩), .pointer (some ⟨B0, 0, none⟩), .pointer (some ⟨B0 + 1, 0, none⟩)] V _ from HF.out)).mono ?_
                  rintro e w9 ⟨rfl, rfl⟩
                  go_wp2_with fail
                  go_round
                  case rel => exact ⟨6, _, 8, by omega, rfl, rfl, HST.out, by unfold StIs; omega⟩
                  case measure => simp [RowKit.intOf]
              · rw [show stepR T hh k 16 = k from by unfold stepR; rw [if_neg (fun h => hle h.1)]] at hnx
                have HST := Lib.hid hnx
                clear hnx
                have hle' : ¬ (k : Int) + 16 ≤ 1000 := by omega
                go_wp2_with fail
                go_round
                case rel => exact ⟨6, k, 8, by omega, rfl, rfl, HST.out, by unfold StIs; omega⟩
                case measure => simp [RowKit.intOf]
            · have hnx := kR_next T hh 6 8 k rfl HK.out
              by_cases hle : k + 8 ≤ 1000
              · obtain ⟨r, hr⟩ : ∃ r, decide (T * (k + 8) ≤ 1000 * hh) = r := ⟨_, rfl⟩
                have HF := Lib.hid (fits_is T hh (k + 8) hTb hh1 hle (S + 1 + 1) (S + 1) B0 (B0 + 1) r hr V HC.out.1 HC.out.2.1 HC.out.2.2.1 HC.out.2.2.2)
                have hst : KIs T hh 7 (if r then k + 8 else k) := by
                  rw [show stepR T hh k 8 = (if r then k + 8 else k) from by
                    unfold stepR
                    rw [← hr]
                    by_cases hc : T * (k + 8) ≤ 1000 * hh
                    · rw [if_pos ⟨hle, hc⟩]; simp [hc]
                    · rw [if_neg (fun h => hc h.2)]; simp [hc]] at hnx
                  exact hnx
                have HST := Lib.hid hst
                clear hnx hst hr
                have hle' : (k : Int) + 8 ≤ 1000 := by omega
                cases r
                all_goals
                  go_wp2_with fail
                  refine ((show Calls Tryz.prog 24 #[.int .i64 ((k : Int) + 8), .pointer (some ⟨S + 1 + 1, 0, none⟩), .pointer (some ⟨S + 1, 0, none⟩), .pointer (some ⟨B0, 0, none⟩), .pointer (some ⟨B0 + 1, 0, none⟩)] V _ from HF.out)).mono ?_
                  rintro e w9 ⟨rfl, rfl⟩
                  go_wp2_with fail
                  go_round
                  case rel => exact ⟨7, _, 4, by omega, rfl, rfl, HST.out, by unfold StIs; omega⟩
                  case measure => simp [RowKit.intOf]
              · rw [show stepR T hh k 8 = k from by unfold stepR; rw [if_neg (fun h => hle h.1)]] at hnx
                have HST := Lib.hid hnx
                clear hnx
                have hle' : ¬ (k : Int) + 8 ≤ 1000 := by omega
                go_wp2_with fail
                go_round
                case rel => exact ⟨7, k, 4, by omega, rfl, rfl, HST.out, by unfold StIs; omega⟩
                case measure => simp [RowKit.intOf]
            · have hnx := kR_next T hh 7 4 k rfl HK.out
              by_cases hle : k + 4 ≤ 1000
              · obtain ⟨r, hr⟩ : ∃ r, decide (T * (k + 4) ≤ 1000 * hh) = r := ⟨_, rfl⟩
                have HF := Lib.hid (fits_is T hh (k + 4) hTb hh1 hle (S + 1 + 1) (S + 1) B0 (B0 + 1) r hr V HC.out.1 HC.out.2.1 HC.out.2.2.1 HC.out.2.2.2)
                have hst : KIs T hh 8 (if r then k + 4 else k) := by
                  rw [show stepR T hh k 4 = (if r then k + 4 else k) from by
                    unfold stepR
                    rw [← hr]
                    by_cases hc : T * (k + 4) ≤ 1000 * hh
                    · rw [if_pos ⟨hle, hc⟩]; simp [hc]
                    · rw [if_neg (fun h => hc h.2)]; simp [hc]] at hnx
                  exact hnx
                have HST := Lib.hid hst
                clear hnx hst hr
                have hle' : (k : Int) + 4 ≤ 1000 := by omega
                cases r
                all_goals
                  go_wp2_with fail
                  refine ((show Calls Tryz.prog 24 #[.int .i64 ((k : Int) + 4), .pointer (some ⟨S + 1 + 1, 0, none⟩), .pointer (some ⟨S + 1, 0, none⟩), .pointer (some ⟨B0, 0, none⟩), .pointer (some ⟨B0 + 1, 0, none⟩)] V _ from HF.out)).mono ?_
                  rintro e w9 ⟨rfl, rfl⟩
                  go_wp2_with fail
                  go_round
                  case rel => exact ⟨8, _, 2, by omega, rfl, rfl, HST.out, by unfold StIs; omega⟩
                  case measure => simp [RowKit.intOf]
              · rw [show stepR T hh k 4 = k from by unfold stepR; rw [if_neg (fun h => hle h.1)]] at hnx
                have HST := Lib.hid hnx
                clear hnx
                have hle' : ¬ (k : Int) + 4 ≤ 1000 := by omega
                go_wp2_with fail
                go_round
                case rel => exact ⟨8, k, 2, by omega, rfl, rfl, HST.out, by unfold StIs; omega⟩
                case measure => simp [RowKit.intOf]
            · have hnx := kR_next T hh 8 2 k rfl HK.out
              by_cases hle : k + 2 ≤ 1000
              · obtain ⟨r, hr⟩ : ∃ r, decide (T * (k + 2) ≤ 1000 * hh) = r := ⟨_, rfl⟩
                have HF := Lib.hid (fits_is T hh (k + 2) hTb hh1 hle (S + 1 + 1) (S + 1) B0 (B0 + 1) r hr V HC.out.1 HC.out.2.1 HC.out.2.2.1 HC.out.2.2.2)
                have hst : KIs T hh 9 (if r then k + 2 else k) := by
                  rw [show stepR T hh k 2 = (if r then k + 2 else k) from by
                    unfold stepR
                    rw [← hr]
                    by_cases hc : T * (k + 2) ≤ 1000 * hh
                    · rw [if_pos ⟨hle, hc⟩]; simp [hc]
                    · rw [if_neg (fun h => hc h.2)]; simp [hc]] at hnx
                  exact hnx
                have HST := Lib.hid hst
                clear hnx hst hr
                have hle' : (k : Int) + 2 ≤ 1000 := by omega
                cases r
                all_goals
                  go_wp2_with fail
                  refine ((show Calls Tryz.prog 24 #[.int .i64 ((k : Int) + 2), .pointer (some ⟨S + 1 + 1, 0, none⟩), .pointer (some ⟨S + 1, 0, none⟩), .pointer (some ⟨B0, 0, none⟩), .pointer (some ⟨B0 + 1, 0, none⟩)] V _ from HF.out)).mono ?_
                  rintro e w9 ⟨rfl, rfl⟩
                  go_wp2_with fail
                  go_round
                  case rel => exact ⟨9, _, 1, by omega, rfl, rfl, HST.out, by unfold StIs; omega⟩
                  case measure => simp [RowKit.intOf]
              · rw [show stepR T hh k 2 = k from by unfold stepR; rw [if_neg (fun h => hle h.1)]] at hnx
                have HST := Lib.hid hnx
                clear hnx
                have hle' : ¬ (k : Int) + 2 ≤ 1000 := by omega
                go_wp2_with fail
                go_round
                case rel => exact ⟨9, k, 1, by omega, rfl, rfl, HST.out, by unfold StIs; omega⟩
                case measure => simp [RowKit.intOf]
            · have hnx := kR_next T hh 9 1 k rfl HK.out
              by_cases hle : k + 1 ≤ 1000
              · obtain ⟨r, hr⟩ : ∃ r, decide (T * (k + 1) ≤ 1000 * hh) = r := ⟨_, rfl⟩
                have HF := Lib.hid (fits_is T hh (k + 1) hTb hh1 hle (S + 1 + 1) (S + 1) B0 (B0 + 1) r hr V HC.out.1 HC.out.2.1 HC.out.2.2.1 HC.out.2.2.2)
                have hst : KIs T hh 10 (if r then k + 1 else k) := by
                  rw [show stepR T hh k 1 = (if r then k + 1 else k) from by
                    unfold stepR
                    rw [← hr]
                    by_cases hc : T * (k + 1) ≤ 1000 * hh
                    · rw [if_pos ⟨hle, hc⟩]; simp [hc]
                    · rw [if_neg (fun h => hc h.2)]; simp [hc]] at hnx
                  exact hnx
                have HST := Lib.hid hst
                clear hnx hst hr
                have hle' : (k : Int) + 1 ≤ 1000 := by omega
                cases r
                all_goals
                  go_wp2_with fail
                  refine ((show Calls Tryz.prog 24 #[.int .i64 ((k : Int) + 1), .pointer (some ⟨S + 1 + 1, 0, none⟩), .pointer (some ⟨S + 1, 0, none⟩), .pointer (some ⟨B0, 0, none⟩), .pointer (some ⟨B0 + 1, 0, none⟩)] V _ from HF.out)).mono ?_
                  rintro e w9 ⟨rfl, rfl⟩
                  go_wp2_with fail
                  go_round
                  case rel => exact ⟨10, _, 0, by omega, rfl, rfl, HST.out, by unfold StIs; omega⟩
                  case measure => simp [RowKit.intOf]
              · rw [show stepR T hh k 1 = k from by unfold stepR; rw [if_neg (fun h => hle h.1)]] at hnx
                have HST := Lib.hid hnx
                clear hnx
                have hle' : ¬ (k : Int) + 1 ≤ 1000 := by omega
                go_wp2_with fail
                go_round
                case rel => exact ⟨10, k, 0, by omega, rfl, rfl, HST.out, by unfold StIs; omega⟩
                case measure => simp [RowKit.intOf]
            · go_wp2_with fail
              go_ret
              exact ⟨by rw [HR.out, show rateN T hh = k from HK.out]; rfl, hlV⟩
end Go.Proofs.YthohoendjipleaaGreatDoor
