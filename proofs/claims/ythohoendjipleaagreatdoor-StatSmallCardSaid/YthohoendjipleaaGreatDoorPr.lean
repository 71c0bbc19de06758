/-
  stat.Parse, walked, where the words are 23 and 'load' stands at its place. Conditions: the text has at most 100000 bytes; the listed variables read as laid.
-/
import Derived.Test.YthohoendjipleaaGreatDoorPq
namespace Go.Proofs.YthohoendjipleaaGreatDoor
open Go.RowKit Go.Sort Go.Lib
set_option linter.unusedSimpArgs false
set_option linter.unusedVariables false

/-- what Parse keeps: the result (block R), the words (B), the names (N), the Stat (S), the pointers (C) -/
def PI (w V : World) (R B N S C : Nat) (ws : List (List UInt8)) (k : Nat) : Prop :=
  (Later w V ∧ w.heap.size ≤ R ∧ R < B ∧ B < N ∧ N < S ∧ S < C ∧ C < V.heap.size) ∧ V.heap[R]? = some (.cells (xRow xZ0 0 0) 27 (0, 0)) ∧ V.heap[B]? = some (.cells (wsC ws).toArray 9 (0, 0)) ∧
  (∀ j, j < 10 → V.cell? ⟨N, j, none⟩ = some (.string ⟨(nm j).toArray⟩)) ∧ (∀ j, j < 10 → V.cell? ⟨C, j, none⟩ = some (.pointer (some ⟨S, j, none⟩))) ∧ V.heap[S]? = some (.cells (xRow (ltX (pX ws) k) 0 0) 27 (0, 0))
theorem PI.later {w V U : World} {R B N S C : Nat} {ws : List (List UInt8)} {k : Nat} (h : PI w V R B N S C ws k) (hl : Later V U) : PI w U R B N S C ws k := by
  obtain ⟨⟨h1, h2, h3, h4, h5, h6, h7⟩, hR, hB, hN, hC, hS⟩ := h
  have hs := hl.size
  exact ⟨⟨h1.trans hl, h2, h3, h4, h5, h6, by omega⟩, (Below.block hl R (by omega)).trans hR, (Below.block hl B (by omega)).trans hB, fun j hj => cell_at hl (hN j hj) (by show N < _; omega), fun j hj => cell_at hl (hC j hj) (by show C < _; omega), (Below.block hl S (by omega)).trans hS⟩
theorem setCell_other {V : World} {S j : Nat} {v : Value} {k : Nat} (h : k ≠ S) : (V.setCell ⟨S, j, none⟩ v).heap[k]? = V.heap[k]? := by
  unfold World.setCell
  simp [Array.getElem?_modify, Ne.symm h]
theorem PI.store {w V : World} {R B N S C : Nat} {ws : List (List UInt8)} {k : Nat} (h : PI w V R B N S C ws k) (hk : k < 10) {v : Int} (hv : pX ws k = v) : PI w (V.setCell ⟨S, k, none⟩ (.int .u64 v)) R B N S C ws (k + 1) := by
  obtain ⟨⟨h1, h2, h3, h4, h5, h6, h7⟩, hR, hB, hN, hC, hS⟩ := h
  refine ⟨⟨h1.setCell _ _ (by show w.heap.size ≤ S; omega), h2, h3, h4, h5, h6, by simpa using h7⟩, (setCell_other (by omega)).trans hR, (setCell_other (by omega)).trans hB, fun j hj => ?_, fun j hj => ?_, ?_⟩
  · exact (World.cell?_setCell_other V _ _ _ (by intro h; injection h with h; omega)).trans (hN j hj)
  · exact (World.cell?_setCell_other V _ _ _ (by intro h; injection h with h; omega)).trans (hC j hj)
  · rw [setCell_eq_setRow V S k _ 27 (0, 0) _ hS, setRow_heap V S _ _ 27 (0, 0) hS, xRow_set _ k hk v hv]
/-- no digits, or too many; a number -/
theorem nrAll_numD {w : List UInt8} (h : nrAll w = none) : numD w = none := by
  unfold nrAll at h
  split at h
  · rename_i hw; exact numD_none (.inl hw)
  · exact numD_none (.inr h)
theorem nrAll_some {w : List UInt8} {u : Nat} (h : nrAll w = some u) : u < 18446744073709551616 ∧ ((Lib.decDigits u = w ∧ numD w = some u) ∨ (Lib.decDigits u ≠ w ∧ numD w = none)) := by
  unfold nrAll at h
  split at h
  · cases h
  · rename_i hw
    have := nr_le h (by omega)
    exact ⟨by omega, numD_iff hw h⟩

theorem both_small {a b : Nat} (h : Both a b false) (ha : a ≤ W2) (hb : b ≤ W2) : False := by
  have key : ∀ c, c ≤ W2 → ¬ Bad c := fun c hc h => by
    have h : FloatKind.f64.format.order c 0 = none ∨ FloatKind.f64.format.order c 0 = some .lt ∨ (FloatKind.f64.format.order c 0 = some .gt ∧ FloatKind.f64.format.order c 4611686018427387904 = some .gt) := h
    have h0 := ord_zero c hc
    have h2 := ord_two c hc
    rcases h with h | h | ⟨_, h⟩
    · rw [h] at h0; rcases h0 with h0 | h0 <;> cases h0
    · rw [h] at h0; rcases h0 with h0 | h0 <;> cases h0
    · rw [h] at h2; rcases h2 with h2 | h2 <;> cases h2
  rcases h with ⟨h, _⟩ | ⟨_, h⟩ | ⟨_, _, h⟩
  · cases h
  · exact key a ha h
  · exact key b hb h
theorem val_big {a b : Nat} (h : Both a b true) (hb : ¬ b ≤ W2) : b = 9223372036854775808 := by
  rcases h with ⟨_, _, y, h⟩ | ⟨h, _⟩ | ⟨h, _⟩
  · exact signed_val_zero h hb
  · cases h
  · cases h
theorem val_bigA {a b : Nat} (h : Both a b true) (ha : ¬ a ≤ W2) : a = 9223372036854775808 := by
  rcases h with ⟨_, ⟨x, h⟩, _⟩ | ⟨h, _⟩ | ⟨h, _⟩
  · exact signed_val_zero h ha
  · cases h
  · cases h

set_option maxRecDepth 100000 in
set_option maxHeartbeats 16000000 in
theorem Parse_main (l : List UInt8) (hl : l.length ≤ 100000) (ws : List (List UInt8)) (hws : spl l = ws) (hh : headOK ws) (hshort : ∀ j, (wrd ws j).length ≤ 100000) (w : World) (hE : EnvP w) :
    Calls Tryz.prog 12 #[.string ⟨l.toArray⟩] w fun e w' => e = .returned (.tuple #[statV (prX ws) (prA ws) (prB ws), .int .i64 (prC ws)]) ∧ Later w w' := by
  obtain ⟨T, hT⟩ : ∃ T : ByteArray, T = ⟨l.toArray⟩ := ⟨_, rfl⟩
  have hsp := fun w1 (h1 : EnvP w1) => split_is l hl w1 h1
  rw [← hT] at hsp ⊢
  rw [hws, hh.1] at hsp
  clear hT hl hws
  have HSP := Lib.hid hsp
  have HE := Lib.hid hE
  have HH := Lib.hid hh
  have HSH := Lib.hid hshort
  clear hsp hE hh hshort
  go_enter Tryz.func12, Tryz.ntmps12
  go_wp2_with fail
  refine (HSP.out _ (HE.out.later ((Later.refl w).alloc _))).mono ?_
  rintro e w1 ⟨rfl, hw1⟩
  have hR1 : w1.heap[w.heap.size]? = some (.cells (xRow xZ0 0 0) 27 (0, 0)) := by
    rw [hw1]; exact (Below.heap_alloc _ _ _ (by simp)).trans (MapKept.heap_alloc w _).1
  have hB1 : w1.heap[w.heap.size + 1]? = some (.cells (wsC ws).toArray 9 (0, 0)) := by
    rw [hw1]
    have := (MapKept.heap_alloc (w.alloc (.cells (xRow xZ0 0 0) 27)) (.cells (wsC ws).toArray 9)).1
    rwa [show (w.alloc (.cells (xRow xZ0 0 0) 27)).heap.size = w.heap.size + 1 by simp] at this
  have hl1 : Later w w1 := by rw [hw1]; exact ((Later.refl w).alloc _).alloc _
  have hz1 : w1.heap.size = w.heap.size + 1 + 1 := by rw [hw1]; simp
  clear hw1
  go_wp2_with fail
  refine (names_is _).mono ?_
  rintro e w2 ⟨N, hN1, hN2, rfl, hl2, hN⟩
  have hR2 := (Below.block hl2 w.heap.size (by omega)).trans hR1
  have hB2 := (Below.block hl2 (w.heap.size + 1) (by omega)).trans hB1
  have hl12 := hl1.trans hl2
  have hw20 := wrd_cell hB2 20 (by rw [HH.out.1]; omega)
  have hst := str_eqL (wrd ws 20) ldW true (by simp [HH.out.2])
  obtain ⟨A, hA⟩ : ∃ A : ByteArray, (⟨(wrd ws 20).toArray⟩ : ByteArray) = A := ⟨_, rfl⟩
  rw [hA] at hst hw20
  have hst : (A.toList == [108, 111, 97, 100]) = true := hst
  have HN := Lib.hid (And.intro hN1 (And.intro hN2 (And.intro hz1 (And.intro hR2 (And.intro hB2 (And.intro hN hl12))))))
  clear hA hN1 hN2 hz1 hR1 hB1 hR2 hB2 hN hl1 hl2 hl12
  go_wp2_with fail
  refine (fields_is _ _).mono ?_
  rintro e w4 ⟨C, cap, hC1, hC2, rfl, hl4, hC⟩
  have hI0 : PI w w4 w.heap.size (w.heap.size + 1) N w2.heap.size C ws 0 := by
    obtain ⟨hN1, hN2, hz1, hR2, hB2, hN, hl12⟩ := HN.out
    have hl24 := ((Later.refl w2).alloc (.cells (xRow xZ0 0 0) 27)).trans hl4
    have hsz := hl24.size
    have hsz2 : w2.heap.size + 1 ≤ C := by simpa using hC1
    refine ⟨⟨hl12.trans hl24, Nat.le_refl _, by omega, by omega, by omega, by omega, by omega⟩, (Below.block hl24 _ (by omega)).trans hR2, (Below.block hl24 _ (by omega)).trans hB2, fun j hj => cell_at hl24 (hN j hj) (by show N < _; omega), hC, ?_⟩
    rw [xRow_zero]
    exact (Below.block hl4 w2.heap.size (by simp)).trans (MapKept.heap_alloc w2 _).1
  obtain ⟨S, hS⟩ : ∃ S, w2.heap.size = S := ⟨_, rfl⟩
  obtain ⟨B, hB⟩ : ∃ B, w.heap.size + 1 = B := ⟨_, rfl⟩
  obtain ⟨R, hR⟩ : ∃ R, w.heap.size = R := ⟨_, rfl⟩
  rw [hS, hB, hR] at hI0
  try rw [hS]
  try rw [hB]
  try rw [hR]
  clear hS hB hR hC hC1 hC2 hl4 HN hw20 hst HSP
  go_wp2_with fail
  go_loopw [7, 8, 9, 10, 37] (fun _ _ _ _ s37 wr => ∃ j : Nat, j ≤ 10 ∧ s37 = .int .i64 (j : Int) ∧ PI w wr R B N S C ws j ∧ Hid (∀ i, i < j → fieldOK ws i)) (fun _ _ _ _ s37 _ => 10 - (RowKit.intOf s37).toNat)
  case atStart => exact ⟨0, by omega, rfl, hI0, Lib.hid (fun i hi => by omega)⟩
  case round =>
    obtain ⟨j, hj, rfl, hI, hF⟩ := hrel
    rename World => wk
    clear hI0
    by_cases hlt : j < 10
    · have hd1 : decide ((j : Int) < 10) = true := by simp; omega
      have hd2 : decide (j < 10) = true := by simpa using hlt
      have cb0 := wrd_cell hI.2.2.1 (2 * j) (by rw [HH.out.1]; omega)
      have cb1 := wrd_cell hI.2.2.1 (2 * j + 1) (by rw [HH.out.1]; omega)
      have cn := hI.2.2.2.1 j hlt
      have cc := hI.2.2.2.2.1 j hlt
      have HI := Lib.hid hI
      clear hI
      -- ROUND
      have hPU := parse10_any ⟨(wrd ws (2 * j + 1)).toArray⟩ (by rw [size_mk]; have := HSH.out (2 * j + 1); omega) wk (HE.out.later HI.out.1.1).2.1
      have hdat : (ByteArray.data ⟨(wrd ws (2 * j + 1)).toArray⟩).toList = wrd ws (2 * j + 1) := rfl
      rw [hdat] at hPU
      clear hdat
      have hnm : ∃ r, r = decide (wrd ws (2 * j) = nm j) := ⟨_, rfl⟩
      obtain ⟨r, hr⟩ := hnm
      have hst := str_eq (wrd ws (2 * j)) (nm j) r hr
      cases hnr : nrAll (wrd ws (2 * j + 1)) with
      | none =>
        rw [hnr] at hPU
        have HNO := Lib.hid (nrAll_numD hnr)
        obtain ⟨D, hD⟩ : ∃ D : ByteArray, (⟨(wrd ws (2 * j + 1)).toArray⟩ : ByteArray) = D := ⟨_, rfl⟩
        obtain ⟨X, hX⟩ : ∃ X : ByteArray, (⟨(wrd ws (2 * j)).toArray⟩ : ByteArray) = X := ⟨_, rfl⟩
        obtain ⟨Y, hY⟩ : ∃ Y : ByteArray, (⟨(nm j).toArray⟩ : ByteArray) = Y := ⟨_, rfl⟩
        rw [hD] at hPU cb1
        rw [hX] at cb0 hst
        rw [hY] at cn hst
        clear hD hX hY hnr hr
        have HPU := Lib.hid hPU
        clear hPU
        go_wp2_with fail
        refine (HPU.out).mono ?_
        rintro e w3 ⟨⟨n, v, _, _, _, rfl⟩, hl3⟩
        have hI3 := HI.out.later hl3
        have cb0 := cell_at hl3 cb0 (by show B < _; have := HI.out.1; omega)
        have cb1 := cell_at hl3 cb1 (by show B < _; have := HI.out.1; omega)
        have cn := cell_at hl3 cn (by show N < _; have := HI.out.1; omega)
        have hne : ∀ W : World, (binOp .neq 77 (.iface 125 v) .nilIface).run Tryz.prog W = .ok (.bool true) W := fun W => by rfl
        have HI3 := Lib.hid hI3
        clear hI3 hl3 cc HPU
        go_wp2_with fail
        obtain ⟨p, hp⟩ : ∃ p, 2 * j = p := ⟨_, rfl⟩
        obtain ⟨q, hq⟩ : ∃ q, 2 * j + 1 = q := ⟨_, rfl⟩
        have ix0 : (0 : Int) ≤ (p : Int) := by omega
        have ix1 : (p : Int) < 23 := by omega
        have ix2 : (0 : Int) ≤ (j : Int) := by omega
        have ix3 : (j : Int) < 10 := by omega
        have ix4 : (0 : Int) ≤ (q : Int) := by omega
        have ix5 : (q : Int) < 23 := by omega
        have iw0 : IntKind.i64.wrap (2 * (j : Int)) = (p : Int) := by rw [IntKind.wrap_i64]; omega
        have iw1 : IntKind.i64.wrap ((p : Int) + 1) = (q : Int) := by rw [IntKind.wrap_i64]; omega
        rw [hq] at cb1
        rw [hp] at cb0
        clear hp hq
        have kb0 := cell_regrown cb0
        have kb1 := cell_regrown cb1
        have kn := cell_regrown cn

        cases r with
        | false =>
          refine wp_region_quiet_below mixed (by kernel_rfl) ?_
          repeat ((with_reducible refine wpQuiet_step (fun K hK => ?_)); go_simp; first | ((with_reducible refine hK _ ?_); clear hK K))
          with_reducible refine wpQuiet_nil ?_

          intro w5 hw5
          have hl5 : Later w3 w5 := by obtain ⟨p, rfl⟩ := hw5; exact below_regrown w3 p.d p.os
          have hI5 := HI3.out.later hl5
          clear hw5 hl5 kb0 kb1 kn ix0 ix1 ix2 ix3 ix4 ix5 iw0 iw1

          have HEQ := Lib.hid (show prX ws = xZ0 ∧ prA ws = 0 ∧ prB ws = 0 ∧ prC ws = 7 from by
            have hc := prC_syn (ws := ws) (fun h => by obtain ⟨u, hu⟩ := (h.2.1 j hlt).2; rw [HNO.out] at hu; cases hu)
            obtain ⟨h1, h2, h3⟩ := pr_bad (ws := ws) (by rw [hc]; decide)
            exact ⟨h1, h2, h3, hc⟩)

          have HRR := Lib.hid hI5.2.1
          have HEND := Lib.hid (EndR.mk (x := xZ0) (a := 0) (b := 0) hI5.1.1 hI5.1.2.1 hI5.2.1)
          clear hI5 HI3 HI

          go_wp2_with (first | (refine wpList_store_rowTo rfl 27 (.tmp 2) (.tmp 77) rfl rfl R (xRow xZ0 0 0) rfl rfl 27 (xRow xZ0 0 0) HRR.out (by kernel_rfl) rfl (by kernel_rfl) ?_))
          have hend := HEND.out
          generalize w5.setRow R (xRow xZ0 0 0) = w8 at hend ⊢
          obtain ⟨⟨u0, u1, u2, u3, u4, u5⟩, u6, u7, u8, u9, u10⟩ := setRow_cellsR hend.2
          exact bodyPost_ret (v := .tuple #[statV xZ0 0 0, .int .i64 7]) (by simp [results, Tryz.results12, go_sem, statV, u0, u1, u2, u3, u4, u5, u6, u7, u8, u9, u10]) rfl ⟨by rw [HEQ.out.1, HEQ.out.2.1, HEQ.out.2.2.1, HEQ.out.2.2.2], hend.1⟩
        | true =>
          refine wp_region_quiet_below mixed (by kernel_rfl) ?_
          repeat ((with_reducible refine wpQuiet_step (fun K hK => ?_)); go_simp; first | ((with_reducible refine hK _ ?_); clear hK K))
          with_reducible refine wpQuiet_nil ?_

          intro w5 hw5
          have hl5 : Later w3 w5 := by obtain ⟨p, rfl⟩ := hw5; exact below_regrown w3 p.d p.os
          have hI5 := HI3.out.later hl5
          clear hw5 hl5 kb0 kb1 kn ix0 ix1 ix2 ix3 ix4 ix5 iw0 iw1

          have HEQ := Lib.hid (show prX ws = xZ0 ∧ prA ws = 0 ∧ prB ws = 0 ∧ prC ws = 7 from by
            have hc := prC_syn (ws := ws) (fun h => by obtain ⟨u, hu⟩ := (h.2.1 j hlt).2; rw [HNO.out] at hu; cases hu)
            obtain ⟨h1, h2, h3⟩ := pr_bad (ws := ws) (by rw [hc]; decide)
            exact ⟨h1, h2, h3, hc⟩)

          have HRR := Lib.hid hI5.2.1
          have HEND := Lib.hid (EndR.mk (x := xZ0) (a := 0) (b := 0) hI5.1.1 hI5.1.2.1 hI5.2.1)
          clear hI5 HI3 HI

          go_wp2_with (first | (refine wpList_store_rowTo rfl 27 (.tmp 2) (.tmp 77) rfl rfl R (xRow xZ0 0 0) rfl rfl 27 (xRow xZ0 0 0) HRR.out (by kernel_rfl) rfl (by kernel_rfl) ?_))
          have hend := HEND.out
          generalize w5.setRow R (xRow xZ0 0 0) = w8 at hend ⊢
          obtain ⟨⟨u0, u1, u2, u3, u4, u5⟩, u6, u7, u8, u9, u10⟩ := setRow_cellsR hend.2
          exact bodyPost_ret (v := .tuple #[statV xZ0 0 0, .int .i64 7]) (by simp [results, Tryz.results12, go_sem, statV, u0, u1, u2, u3, u4, u5, u6, u7, u8, u9, u10]) rfl ⟨by rw [HEQ.out.1, HEQ.out.2.1, HEQ.out.2.2.1, HEQ.out.2.2.2], hend.1⟩
      | some u =>
        obtain ⟨hu64, hcan⟩ := nrAll_some hnr
        have HNR := Lib.hid (And.intro hr hcan)
        rw [hnr] at hPU
        have hF := fun W hW => formatUint_any u hu64 W hW
        have hst2 : ∃ s, s = decide (Lib.decDigits u = wrd ws (2 * j + 1)) := ⟨_, rfl⟩
        obtain ⟨s, hs⟩ := hst2
        have hst3 := str_eq (Lib.decDigits u) (wrd ws (2 * j + 1)) s hs
        have HS := Lib.hid hs
        obtain ⟨D, hD⟩ : ∃ D : ByteArray, (⟨(wrd ws (2 * j + 1)).toArray⟩ : ByteArray) = D := ⟨_, rfl⟩
        obtain ⟨X, hX⟩ : ∃ X : ByteArray, (⟨(wrd ws (2 * j)).toArray⟩ : ByteArray) = X := ⟨_, rfl⟩
        obtain ⟨Y, hY⟩ : ∃ Y : ByteArray, (⟨(nm j).toArray⟩ : ByteArray) = Y := ⟨_, rfl⟩
        obtain ⟨Z, hZ⟩ : ∃ Z : ByteArray, (⟨(Lib.decDigits u).toArray⟩ : ByteArray) = Z := ⟨_, rfl⟩
        rw [hD] at hPU cb1 hst3
        rw [hX] at cb0 hst
        rw [hY] at cn hst
        rw [hZ] at hF hst3
        clear hD hX hY hZ hnr hr hs hcan
        have HPU := Lib.hid hPU
        clear hPU
        go_wp2_with fail
        refine (HPU.out).mono ?_
        rintro e w3 ⟨rfl, hl3⟩
        have hI3 := HI.out.later hl3
        have cb0 := cell_at hl3 cb0 (by show B < _; have := HI.out.1; omega)
        have cb1 := cell_at hl3 cb1 (by show B < _; have := HI.out.1; omega)
        have cn := cell_at hl3 cn (by show N < _; have := HI.out.1; omega)
        have hne : ∀ W : World, (binOp .neq 77 .nilIface .nilIface).run Tryz.prog W = .ok (.bool false) W := fun W => by rfl
        have hTab := (HE.out.later hI3.1.1).1.1
        have c1 := fun d os => quiet_later (hF (grow (redrawn w3 d) os) (hTab.later (below_regrown w3 d os)))
        have HI3 := Lib.hid hI3
        clear hI3 hl3 cc HPU hF hTab
        go_wp2_with fail
        obtain ⟨p, hp⟩ : ∃ p, 2 * j = p := ⟨_, rfl⟩
        obtain ⟨q, hq⟩ : ∃ q, 2 * j + 1 = q := ⟨_, rfl⟩
        have ix0 : (0 : Int) ≤ (p : Int) := by omega
        have ix1 : (p : Int) < 23 := by omega
        have ix2 : (0 : Int) ≤ (j : Int) := by omega
        have ix3 : (j : Int) < 10 := by omega
        have ix4 : (0 : Int) ≤ (q : Int) := by omega
        have ix5 : (q : Int) < 23 := by omega
        have iw0 : IntKind.i64.wrap (2 * (j : Int)) = (p : Int) := by rw [IntKind.wrap_i64]; omega
        have iw1 : IntKind.i64.wrap ((p : Int) + 1) = (q : Int) := by rw [IntKind.wrap_i64]; omega
        rw [hq] at cb1
        rw [hp] at cb0
        clear hp hq
        have kb0 := cell_regrown cb0
        have kb1 := cell_regrown cb1
        have kn := cell_regrown cn

        cases r with
        | false =>
          refine wp_region_quiet_below mixed (by kernel_rfl) ?_
          repeat ((with_reducible refine wpQuiet_step (fun K hK => ?_)); go_simp; first | ((with_reducible refine hK _ ?_); clear hK K) | (apply Exists.intro; refine ⟨fun _ => ?_, hK _ ?_⟩; (with_reducible exact c1 _ _); clear hK K))
          with_reducible refine wpQuiet_nil ?_

          intro w5 hw5
          have hl5 : Later w3 w5 := by obtain ⟨p, rfl⟩ := hw5; exact below_regrown w3 p.d p.os
          have hI5 := HI3.out.later hl5
          clear hw5 hl5 kb0 kb1 kn ix0 ix1 ix2 ix3 ix4 ix5 iw0 iw1
          clear c1

          have HEQ := Lib.hid (show prX ws = xZ0 ∧ prA ws = 0 ∧ prB ws = 0 ∧ prC ws = 7 from by
            have hc := prC_syn (ws := ws) (fun h => by have h1 := (h.2.1 j hlt).1; have h2 := HNR.out.1; rw [h1] at h2; simp at h2)
            obtain ⟨h1, h2, h3⟩ := pr_bad (ws := ws) (by rw [hc]; decide)
            exact ⟨h1, h2, h3, hc⟩)

          have HRR := Lib.hid hI5.2.1
          have HEND := Lib.hid (EndR.mk (x := xZ0) (a := 0) (b := 0) hI5.1.1 hI5.1.2.1 hI5.2.1)
          clear hI5 HI3 HI

          go_wp2_with (first | (refine wpList_store_rowTo rfl 27 (.tmp 2) (.tmp 77) rfl rfl R (xRow xZ0 0 0) rfl rfl 27 (xRow xZ0 0 0) HRR.out (by kernel_rfl) rfl (by kernel_rfl) ?_))
          have hend := HEND.out
          generalize w5.setRow R (xRow xZ0 0 0) = w8 at hend ⊢
          obtain ⟨⟨u0, u1, u2, u3, u4, u5⟩, u6, u7, u8, u9, u10⟩ := setRow_cellsR hend.2
          exact bodyPost_ret (v := .tuple #[statV xZ0 0 0, .int .i64 7]) (by simp [results, Tryz.results12, go_sem, statV, u0, u1, u2, u3, u4, u5, u6, u7, u8, u9, u10]) rfl ⟨by rw [HEQ.out.1, HEQ.out.2.1, HEQ.out.2.2.1, HEQ.out.2.2.2], hend.1⟩
        | true =>
          cases s with
          | false =>
            refine wp_region_quiet_below mixed (by kernel_rfl) ?_
            repeat ((with_reducible refine wpQuiet_step (fun K hK => ?_)); go_simp; first | ((with_reducible refine hK _ ?_); clear hK K) | (apply Exists.intro; refine ⟨fun _ => ?_, hK _ ?_⟩; (with_reducible exact c1 _ _); clear hK K))
            with_reducible refine wpQuiet_nil ?_

            intro w5 hw5
            have hl5 : Later w3 w5 := by obtain ⟨p, rfl⟩ := hw5; exact below_regrown w3 p.d p.os
            have hI5 := HI3.out.later hl5
            clear hw5 hl5 kb0 kb1 kn ix0 ix1 ix2 ix3 ix4 ix5 iw0 iw1
            clear c1

            have HEQ := Lib.hid (show prX ws = xZ0 ∧ prA ws = 0 ∧ prB ws = 0 ∧ prC ws = 7 from by
              have hc := prC_syn (ws := ws) (fun h => by
                obtain ⟨v, hv⟩ := (h.2.1 j hlt).2
                rcases HNR.out.2 with ⟨h1, h2⟩ | ⟨h1, h2⟩
                · have h3 := HS.out; rw [h1] at h3; simp at h3
                · rw [h2] at hv; cases hv)
              obtain ⟨h1, h2, h3⟩ := pr_bad (ws := ws) (by rw [hc]; decide)
              exact ⟨h1, h2, h3, hc⟩)

            have HRR := Lib.hid hI5.2.1
            have HEND := Lib.hid (EndR.mk (x := xZ0) (a := 0) (b := 0) hI5.1.1 hI5.1.2.1 hI5.2.1)
            clear hI5 HI3 HI

            go_wp2_with (first | (refine wpList_store_rowTo rfl 27 (.tmp 2) (.tmp 77) rfl rfl R (xRow xZ0 0 0) rfl rfl 27 (xRow xZ0 0 0) HRR.out (by kernel_rfl) rfl (by kernel_rfl) ?_))
            have hend := HEND.out
            generalize w5.setRow R (xRow xZ0 0 0) = w8 at hend ⊢
            obtain ⟨⟨u0, u1, u2, u3, u4, u5⟩, u6, u7, u8, u9, u10⟩ := setRow_cellsR hend.2
            exact bodyPost_ret (v := .tuple #[statV xZ0 0 0, .int .i64 7]) (by simp [results, Tryz.results12, go_sem, statV, u0, u1, u2, u3, u4, u5, u6, u7, u8, u9, u10]) rfl ⟨by rw [HEQ.out.1, HEQ.out.2.1, HEQ.out.2.2.1, HEQ.out.2.2.2], hend.1⟩
          | true =>
            refine wp_region_quiet_below mixed (by kernel_rfl) ?_
            repeat ((with_reducible refine wpQuiet_step (fun K hK => ?_)); go_simp; first | ((with_reducible refine hK _ ?_); clear hK K) | (apply Exists.intro; refine ⟨fun _ => ?_, hK _ ?_⟩; (with_reducible exact c1 _ _); clear hK K))
            with_reducible refine wpQuiet_nil ?_

            intro w5 hw5
            have hl5 : Later w3 w5 := by obtain ⟨p, rfl⟩ := hw5; exact below_regrown w3 p.d p.os
            have hI5 := HI3.out.later hl5
            clear hw5 hl5 kb0 kb1 kn ix0 ix1 ix2 ix3 ix4 ix5 iw0 iw1
            clear c1
            have hfield : fieldOK ws j ∧ pX ws j = (u : Int) := by
              have h3 := HS.out
              have h4 := HNR.out.1
              rcases HNR.out.2 with ⟨h1, h2⟩ | ⟨h1, h2⟩
              · exact ⟨⟨by simpa using h4, u, h2⟩, pX_some h2⟩
              · exact absurd (by simpa using h3) h1
            have hnext := hI5.store hlt hfield.2
            have hF' : ∀ i, i < j + 1 → fieldOK ws i := fun i hi => by
              by_cases h : i < j
              · exact hF.out i h
              · obtain rfl : i = j := by omega
                exact hfield.1
            have HNEXT := Lib.hid hnext
            have HF' := Lib.hid hF'
            have hcs : ∃ v, w5.cell? ⟨S, j, none⟩ = some v := by
              obtain ⟨⟨u0, u1, u2, u3, u4, u5⟩, u6, u7, u8, u9, u10⟩ := setRow_cellsR hI5.2.2.2.2.2
              have : j = 0 ∨ j = 1 ∨ j = 2 ∨ j = 3 ∨ j = 4 ∨ j = 5 ∨ j = 6 ∨ j = 7 ∨ j = 8 ∨ j = 9 := by omega
              rcases this with rfl | rfl | rfl | rfl | rfl | rfl | rfl | rfl | rfl | rfl
              · exact ⟨_, u0⟩
              · exact ⟨_, u1⟩
              · exact ⟨_, u2⟩
              · exact ⟨_, u3⟩
              · exact ⟨_, u4⟩
              · exact ⟨_, u5⟩
              · exact ⟨_, u6⟩
              · exact ⟨_, u7⟩
              · exact ⟨_, u8⟩
              · exact ⟨_, u9⟩
            obtain ⟨v0, hv0⟩ := hcs
            have hz0 : w5.frozen? ⟨S, j, none⟩ = false := by simp [World.frozen?, hI5.2.2.2.2.2]
            clear hnext hfield hF' hF hI5 HI3 HI hu64 HNR HS hst hst3 cb0 cb1 cn hne
            go_wp2_with fail
            go_roundw
            case rel => exact ⟨j + 1, by omega, by go_num, HNEXT.out, HF'⟩
            case measure => simp [RowKit.intOf]; omega
    · obtain rfl : j = 10 := by omega
      -- TAIL
      have hF10 := hF.out
      have cw1 := wrd_cell hI.2.2.1 21 (by rw [HH.out.1]; omega)
      have cw2 := wrd_cell hI.2.2.1 22 (by rw [HH.out.1]; omega)
      have hP1 := fun W (hW : Errs W) => part_is ⟨(wrd ws 21).toArray⟩ (by rw [size_mk]; have := HSH.out 21; omega) W hW
      have hP2 := fun W (hW : Errs W) => part_is ⟨(wrd ws 22).toArray⟩ (by rw [size_mk]; have := HSH.out 22; omega) W hW
      have e1 : (ByteArray.data ⟨(wrd ws 21).toArray⟩).toList = wrd ws 21 := rfl
      have e2 : (ByteArray.data ⟨(wrd ws 22).toArray⟩).toList = wrd ws 22 := rfl
      rw [e1] at hP1
      rw [e2] at hP2
      obtain ⟨D1, hD1⟩ : ∃ D : ByteArray, (⟨(wrd ws 21).toArray⟩ : ByteArray) = D := ⟨_, rfl⟩
      obtain ⟨D2, hD2⟩ : ∃ D : ByteArray, (⟨(wrd ws 22).toArray⟩ : ByteArray) = D := ⟨_, rfl⟩
      rw [hD1] at hP1 cw1
      rw [hD2] at hP2 cw2
      have HP1 := Lib.hid hP1
      have HP2 := Lib.hid hP2
      have HF10 := Lib.hid hF10
      have HI := Lib.hid hI
      clear e1 e2 hD1 hD2 hP1 hP2 hF10 hF hI
      go_wp2_with fail
      refine (HP1.out _ (HE.out.later HI.out.1.1).2.1).mono ?_
      rintro e w3 ⟨he3, hl3⟩
      have hI3 := HI.out.later hl3
      have cw2 := cell_at hl3 cw2 (by show B < _; have := HI.out.1; omega)
      have HI3 := Lib.hid hI3
      clear hI3 hl3 HI
      cases hx1 : hexD (wrd ws 21) with
      | none =>
        rw [hx1] at he3
        have HX1 := Lib.hid hx1
        clear hx1
        obtain ⟨f, rfl⟩ := he3
        go_wp2_with fail
        refine (HP2.out _ (HE.out.later HI3.out.1.1).2.1).mono ?_
        rintro e w5 ⟨he5, hl5⟩
        have hI5 := HI3.out.later hl5
        have he5 : ∃ (f2 : Nat) (b2 : Bool), e = .returned (.tuple #[.float .f64 f2, .bool b2]) := by
          cases hx2 : hexD (wrd ws 22) with
          | none => rw [hx2] at he5; obtain ⟨f2, rfl⟩ := he5; exact ⟨f2, false, rfl⟩
          | some u2 => rw [hx2] at he5; exact ⟨u2, true, he5⟩
        obtain ⟨f2, b2, rfl⟩ := he5
        clear hl5
        have HEQ := Lib.hid (show prX ws = xZ0 ∧ prA ws = 0 ∧ prB ws = 0 ∧ prC ws = 7 from by
          have hc := prC_syn (ws := ws) (fun h => by obtain ⟨u, hu⟩ := h.2.2.1; rw [HX1.out] at hu; cases hu)
          obtain ⟨h1, h2, h3⟩ := pr_bad (ws := ws) (by rw [hc]; decide)
          exact ⟨h1, h2, h3, hc⟩)

        have HRR := Lib.hid hI5.2.1
        have HEND := Lib.hid (EndR.mk (x := xZ0) (a := 0) (b := 0) hI5.1.1 hI5.1.2.1 hI5.2.1)
        clear hI5 HI3 cw2

        go_wp2_with (first | (refine wpList_store_rowTo rfl 27 (.tmp 2) (.tmp 110) rfl rfl R (xRow xZ0 0 0) rfl rfl 27 (xRow xZ0 0 0) HRR.out (by kernel_rfl) rfl (by kernel_rfl) ?_))
        have hend := HEND.out
        generalize w5.setRow R (xRow xZ0 0 0) = w8 at hend ⊢
        obtain ⟨⟨u0, u1, u2, u3, u4, u5⟩, u6, u7, u8, u9, u10⟩ := setRow_cellsR hend.2
        exact bodyPost_ret (v := .tuple #[statV xZ0 0 0, .int .i64 7]) (by simp [results, Tryz.results12, go_sem, statV, u0, u1, u2, u3, u4, u5, u6, u7, u8, u9, u10]) rfl ⟨by rw [HEQ.out.1, HEQ.out.2.1, HEQ.out.2.2.1, HEQ.out.2.2.2], hend.1⟩
      | some a =>
        rw [hx1] at he3
        have ha := hexD_lt hx1
        have hpa : pA ws = a := by unfold pA; rw [hx1]; rfl
        have HX1 := Lib.hid hx1
        clear hx1
        cases he3
        go_wp2_with fail
        refine (HP2.out _ (HE.out.later HI3.out.1.1).2.1).mono ?_
        rintro e w5 ⟨he5, hl5⟩
        have hI5 := HI3.out.later hl5
        clear hl5
        cases hx2 : hexD (wrd ws 22) with
        | none =>
          rw [hx2] at he5
          have HX2 := Lib.hid hx2
          clear hx2 hpa ha
          obtain ⟨f, rfl⟩ := he5
          have HEQ := Lib.hid (show prX ws = xZ0 ∧ prA ws = 0 ∧ prB ws = 0 ∧ prC ws = 7 from by
            have hc := prC_syn (ws := ws) (fun h => by obtain ⟨u, hu⟩ := h.2.2.2; rw [HX2.out] at hu; cases hu)
            obtain ⟨h1, h2, h3⟩ := pr_bad (ws := ws) (by rw [hc]; decide)
            exact ⟨h1, h2, h3, hc⟩)

          have HRR := Lib.hid hI5.2.1
          have HEND := Lib.hid (EndR.mk (x := xZ0) (a := 0) (b := 0) hI5.1.1 hI5.1.2.1 hI5.2.1)
          clear hI5 HI3 cw2

          go_wp2_with (first | (refine wpList_store_rowTo rfl 27 (.tmp 2) (.tmp 110) rfl rfl R (xRow xZ0 0 0) rfl rfl 27 (xRow xZ0 0 0) HRR.out (by kernel_rfl) rfl (by kernel_rfl) ?_))
          have hend := HEND.out
          generalize w5.setRow R (xRow xZ0 0 0) = w8 at hend ⊢
          obtain ⟨⟨u0, u1, u2, u3, u4, u5⟩, u6, u7, u8, u9, u10⟩ := setRow_cellsR hend.2
          exact bodyPost_ret (v := .tuple #[statV xZ0 0 0, .int .i64 7]) (by simp [results, Tryz.results12, go_sem, statV, u0, u1, u2, u3, u4, u5, u6, u7, u8, u9, u10]) rfl ⟨by rw [HEQ.out.1, HEQ.out.2.1, HEQ.out.2.2.1, HEQ.out.2.2.2], hend.1⟩
        | some b =>
          rw [hx2] at he5
          have hb := hexD_lt hx2
          have hpb : pB ws = b := by unfold pB; rw [hx2]; rfl
          have HOK := Lib.hid (show okW ws from ⟨HH.out, fun i hi => HF10.out i hi, ⟨a, HX1.out⟩, ⟨b, hx2⟩⟩)
          have HPP := Lib.hid (And.intro hpa (And.intro hpb (And.intro ha hb)))
          clear hx2
          cases he5
          obtain ⟨r, hr⟩ := both_ex a b ha hb
          obtain ⟨y, hy⟩ : ∃ y, pX ws = y := ⟨_, rfl⟩
          have HY := Lib.hid hy
          have hS5 := hI5.2.2.2.2.2
          have hrow : (w5.setCell ⟨S, 10, none⟩ (.complex .f64 a b)).heap[S]? = some (.cells (xRow y a b) 27 (0, 0)) := by
            rw [setCell_eq_setRow w5 S 10 _ 27 (0, 0) _ hS5, setRow_heap w5 S _ _ 27 (0, 0) hS5, hy]
            simp [xRow, ltX]
          have hR6 := (setCell_other (V := w5) (S := S) (j := 10) (v := .complex .f64 a b) (k := R) (by have := hI5.1; omega)).trans hI5.2.1
          have hl6 : Later w (w5.setCell ⟨S, 10, none⟩ (.complex .f64 a b)) := hI5.1.1.setCell _ _ (by show w.heap.size ≤ S; have := hI5.1; omega)
          have hz6 : R < (w5.setCell ⟨S, 10, none⟩ (.complex .f64 a b)).heap.size ∧ S < (w5.setCell ⟨S, 10, none⟩ (.complex .f64 a b)).heap.size ∧ w.heap.size ≤ R := by have := hI5.1; simp; omega
          have kc : w5.cell? ⟨S, 10, none⟩ = some (.complex .f64 0 0) := by rw [Lib.cell_of_heap hS5]; rfl
          have kf : w5.frozen? ⟨S, 10, none⟩ = false := by simp [World.frozen?, hS5]
          have hst := run_store_complex Tryz.prog
          have HR6 := Lib.hid hR6
          have HL6 := Lib.hid hl6
          have HZ6 := Lib.hid hz6
          have HROW := Lib.hid hrow
          have HB := Lib.hid hr
          clear hpa hpb ha hb hy hS5 hI5 hR6 hl6 hz6 HI3 cw2 hr hrow
          go_upto_region 19 with fail
          obtain ⟨w6, hw6⟩ : ∃ w6, w5.setCell ⟨S, 10, none⟩ (.complex .f64 a b) = w6 := ⟨_, rfl⟩
          rw [hw6] at HR6 HL6 HZ6 HROW ⊢
          clear hw6 kc kf hst
          have HRG := Lib.hid (rangeAt_block (w := w6) (cs := [.int .u64 (y 0), .int .u64 (y 1), .int .u64 (y 2), .int .u64 (y 3), .int .u64 (y 4), .int .u64 (y 5), .int .u64 (y 6), .int .u64 (y 7), .int .u64 (y 8), .int .u64 (y 9), .complex .f64 a b]) HROW.out)
          go_wp2_with (first | (refine wpList_load_mid rfl 27 (.tmp 6) rfl S 0 rfl [.int .u64 (y 0), .int .u64 (y 1), .int .u64 (y 2), .int .u64 (y 3), .int .u64 (y 4), .int .u64 (y 5), .int .u64 (y 6), .int .u64 (y 7), .int .u64 (y 8), .int .u64 (y 9), .complex .f64 a b] _ HRG.out Tryz.underlying27 rfl (by kernel_rfl) ?_))
          refine (statIs_both _ _ _ _ _ _ _ _ _ _ HB.out _).mono ?_
          rintro e w7 ⟨rfl, hl7⟩
          have HRR := Lib.hid ((Below.block hl7 R HZ6.out.1).trans HR6.out)
          have HL7 := Lib.hid (HL6.out.trans hl7)
          have HROW7 := Lib.hid ((Below.block hl7 S HZ6.out.2.1).trans HROW.out)
          clear hl7 HRG HR6 HL6 HROW
          cases r with
          | false =>
            have HEQ := Lib.hid (show prX ws = xZ0 ∧ prA ws = 0 ∧ prB ws = 0 ∧ prC ws = 4 from by
              have hc := prC_shp HOK.out (fun h => both_small HB.out (HPP.out.1 ▸ h.1) (HPP.out.2.1 ▸ h.2))
              obtain ⟨h1, h2, h3⟩ := pr_bad (ws := ws) (by rw [hc]; decide)
              exact ⟨h1, h2, h3, hc⟩)
            have HEND := Lib.hid (EndR.mk (x := xZ0) (a := 0) (b := 0) HL7.out HZ6.out.2.2 HRR.out)
            clear HB

            go_wp2_with (first | (refine wpList_store_rowTo rfl 27 (.tmp 2) (.tmp 126) rfl rfl R (xRow xZ0 0 0) rfl rfl 27 (xRow xZ0 0 0) HRR.out (by kernel_rfl) rfl (by kernel_rfl) ?_))
            have hend := HEND.out
            generalize w7.setRow R (xRow xZ0 0 0) = w8 at hend ⊢
            obtain ⟨⟨u0, u1, u2, u3, u4, u5⟩, u6, u7, u8, u9, u10⟩ := setRow_cellsR hend.2
            exact bodyPost_ret (v := .tuple #[statV xZ0 0 0, .int .i64 4]) (by simp [results, Tryz.results12, go_sem, statV, u0, u1, u2, u3, u4, u5, u6, u7, u8, u9, u10]) rfl ⟨by rw [HEQ.out.1, HEQ.out.2.1, HEQ.out.2.2.1, HEQ.out.2.2.2], hend.1⟩
          | true =>
            have hsa := signbit_is a HPP.out.2.2.1
            have hsb := signbit_is b HPP.out.2.2.2
            by_cases hal : a ≤ W2
            · have hd : decide (9223372036854775808 ≤ a) = false := by unfold W2 at hal; simp; omega
              rw [hd] at hsa
              have HSA := Lib.hid hsa
              have HAL := Lib.hid hal
              clear hsa hd hal
              by_cases hbl : b ≤ W2
              · have hd : decide (9223372036854775808 ≤ b) = false := by unfold W2 at hbl; simp; omega
                rw [hd] at hsb
                have HSB := Lib.hid hsb
                have HEQ := Lib.hid (show prX ws = y ∧ prA ws = a ∧ prB ws = b ∧ prC ws = 0 from by
                  have hc := prC_ok HOK.out ⟨HPP.out.1 ▸ HAL.out, HPP.out.2.1 ▸ hbl⟩
                  obtain ⟨h1, h2, h3⟩ := pr_ok hc
                  exact ⟨h1.trans HY.out, h2.trans HPP.out.1, h3.trans HPP.out.2.1, hc⟩)
                have HEND := Lib.hid (EndR.mk (x := y) (a := a) (b := b) HL7.out HZ6.out.2.2 HRR.out)
                have HRG := Lib.hid (rangeAt_block (w := w7) (cs := [.int .u64 (y 0), .int .u64 (y 1), .int .u64 (y 2), .int .u64 (y 3), .int .u64 (y 4), .int .u64 (y 5), .int .u64 (y 6), .int .u64 (y 7), .int .u64 (y 8), .int .u64 (y 9), .complex .f64 a b]) HROW7.out)
                clear hsb hd hbl HB
                go_wp2_with fail
                refine (HSA.out _).mono ?_
                rintro e w8 ⟨rfl, rfl⟩
                go_wp2_with fail
                refine (HSB.out _).mono ?_
                rintro e w8 ⟨rfl, rfl⟩
                go_wp2_with (first | (refine wpList_load_mid rfl 27 (.tmp 6) rfl S 0 rfl [.int .u64 (y 0), .int .u64 (y 1), .int .u64 (y 2), .int .u64 (y 3), .int .u64 (y 4), .int .u64 (y 5), .int .u64 (y 6), .int .u64 (y 7), .int .u64 (y 8), .int .u64 (y 9), .complex .f64 a b] _ HRG.out Tryz.underlying27 rfl (by kernel_rfl) ?_) | (refine wpList_store_rowTo rfl 27 (.tmp 2) (.tmp 127) rfl rfl R (xRow y a b) rfl rfl 27 (xRow xZ0 0 0) HRR.out (by kernel_rfl) rfl (by kernel_rfl) ?_))
                have hend := HEND.out
                generalize w7.setRow R (xRow y a b) = w8 at hend ⊢
                obtain ⟨⟨u0, u1, u2, u3, u4, u5⟩, u6, u7, u8, u9, u10⟩ := setRow_cellsR hend.2
                exact bodyPost_ret (v := .tuple #[statV y a b, .int .i64 0]) (by simp [results, Tryz.results12, go_sem, statV, u0, u1, u2, u3, u4, u5, u6, u7, u8, u9, u10]) rfl ⟨by rw [HEQ.out.1, HEQ.out.2.1, HEQ.out.2.2.1, HEQ.out.2.2.2], hend.1⟩
              · have hbz := val_big HB.out hbl
                have hd : decide (9223372036854775808 ≤ b) = true := by rw [hbz]; rfl
                rw [hd] at hsb
                have HSB := Lib.hid hsb
                have HEQ := Lib.hid (show prX ws = xZ0 ∧ prA ws = 0 ∧ prB ws = 0 ∧ prC ws = 4 from by
                  have hc := prC_shp HOK.out (fun h => hbl (HPP.out.2.1 ▸ h.2))
                  obtain ⟨h1, h2, h3⟩ := pr_bad (ws := ws) (by rw [hc]; decide)
                  exact ⟨h1, h2, h3, hc⟩)
                have HEND := Lib.hid (EndR.mk (x := xZ0) (a := 0) (b := 0) HL7.out HZ6.out.2.2 HRR.out)
                clear hsb hd hbl hbz HB
                go_wp2_with fail
                refine (HSA.out _).mono ?_
                rintro e w8 ⟨rfl, rfl⟩
                go_wp2_with fail
                refine (HSB.out _).mono ?_
                rintro e w8 ⟨rfl, rfl⟩

                go_wp2_with (first | (refine wpList_store_rowTo rfl 27 (.tmp 2) (.tmp 126) rfl rfl R (xRow xZ0 0 0) rfl rfl 27 (xRow xZ0 0 0) HRR.out (by kernel_rfl) rfl (by kernel_rfl) ?_))
                have hend := HEND.out
                generalize w7.setRow R (xRow xZ0 0 0) = w8 at hend ⊢
                obtain ⟨⟨u0, u1, u2, u3, u4, u5⟩, u6, u7, u8, u9, u10⟩ := setRow_cellsR hend.2
                exact bodyPost_ret (v := .tuple #[statV xZ0 0 0, .int .i64 4]) (by simp [results, Tryz.results12, go_sem, statV, u0, u1, u2, u3, u4, u5, u6, u7, u8, u9, u10]) rfl ⟨by rw [HEQ.out.1, HEQ.out.2.1, HEQ.out.2.2.1, HEQ.out.2.2.2], hend.1⟩
            · have haz := val_bigA HB.out hal
              have hd : decide (9223372036854775808 ≤ a) = true := by rw [haz]; rfl
              rw [hd] at hsa
              have HSA := Lib.hid hsa
              have HEQ := Lib.hid (show prX ws = xZ0 ∧ prA ws = 0 ∧ prB ws = 0 ∧ prC ws = 4 from by
                have hc := prC_shp HOK.out (fun h => hal (HPP.out.1 ▸ h.1))
                obtain ⟨h1, h2, h3⟩ := pr_bad (ws := ws) (by rw [hc]; decide)
                exact ⟨h1, h2, h3, hc⟩)
              have HEND := Lib.hid (EndR.mk (x := xZ0) (a := 0) (b := 0) HL7.out HZ6.out.2.2 HRR.out)
              clear hsa hsb hd hal haz HB
              go_wp2_with fail
              refine (HSA.out _).mono ?_
              rintro e w8 ⟨rfl, rfl⟩

              go_wp2_with (first | (refine wpList_store_rowTo rfl 27 (.tmp 2) (.tmp 126) rfl rfl R (xRow xZ0 0 0) rfl rfl 27 (xRow xZ0 0 0) HRR.out (by kernel_rfl) rfl (by kernel_rfl) ?_))
              have hend := HEND.out
              generalize w7.setRow R (xRow xZ0 0 0) = w8 at hend ⊢
              obtain ⟨⟨u0, u1, u2, u3, u4, u5⟩, u6, u7, u8, u9, u10⟩ := setRow_cellsR hend.2
              exact bodyPost_ret (v := .tuple #[statV xZ0 0 0, .int .i64 4]) (by simp [results, Tryz.results12, go_sem, statV, u0, u1, u2, u3, u4, u5, u6, u7, u8, u9, u10]) rfl ⟨by rw [HEQ.out.1, HEQ.out.2.1, HEQ.out.2.2.1, HEQ.out.2.2.2], hend.1⟩
end Go.Proofs.YthohoendjipleaaGreatDoor
