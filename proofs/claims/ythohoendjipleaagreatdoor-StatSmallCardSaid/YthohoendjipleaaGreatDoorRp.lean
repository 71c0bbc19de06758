/-
  The reference's Parse, walked. Conditions: the text has at most 100000 bytes.
-/
import Derived.Test.YthohoendjipleaaGreatDoorPr
import Derived.Test.YthohoendjipleaaGreatDoorRn
namespace Go.Proofs.YthohoendjipleaaGreatDoor
open Go.RowKit Go.Sort Go.Lib
set_option linter.unusedSimpArgs false
set_option linter.unusedVariables false

theorem refNames_is (w : World) : Calls Tryz.prog 42 #[] w (NmsPost w) := by
  go_enter Tryz.func42, Tryz.ntmps42
  go_wp2_with fail
  go_ret
  refine ⟨w.heap.size, Nat.le_refl _, by simp, rfl, by repeat (first | exact Later.refl _ | assumption | apply Later.alloc | apply Later.drew | apply Later.drewN | refine Later.trans ?_ (by assumption)), fun j hj => ?_⟩
  have : j = 0 ∨ j = 1 ∨ j = 2 ∨ j = 3 ∨ j = 4 ∨ j = 5 ∨ j = 6 ∨ j = 7 ∨ j = 8 ∨ j = 9 := by omega
  rcases this with rfl | rfl | rfl | rfl | rfl | rfl | rfl | rfl | rfl | rfl <;> (rw [World.cell?_alloc_new]; rfl)
theorem info24 : (Tryz.prog.info? 24).map (fun i => (i.zero, i.size, i.bytes)) = some (some (.int .u64 0), 1, 8) := by kernel_rfl
/-- the numbers read so far -/
def lsC (ws : List (List UInt8)) (k : Nat) : List Value := (List.range k).map fun i => Value.int .u64 (pX ws i)
theorem lsC_succ (ws : List (List UInt8)) (k : Nat) : lsC ws (k + 1) = lsC ws k ++ [.int .u64 (pX ws k)] := by
  simp [lsC, List.range_succ]
theorem lsC_get (ws : List (List UInt8)) {k j : Nat} (h : j < k) : (lsC ws k)[j]? = some (.int .u64 (pX ws j)) := by
  simp [lsC, List.getElem?_map, List.getElem?_range h]
/-- what it keeps: the result (block R), the words (B), the names (N), the numbers -/
def RI (w V : World) (R B N M : Nat) (ws : List (List UInt8)) (k : Nat) (v : Value) : Prop :=
  (Later w V ∧ w.heap.size ≤ R ∧ R < M ∧ B < M ∧ N < M ∧ M ≤ V.heap.size) ∧ V.heap[R]? = some (.cells (xRow xZ0 0 0) 27 (0, 0)) ∧
  (∀ j, j < 23 → V.cell? ⟨B, j, none⟩ = some (.string ⟨(wrd ws j).toArray⟩)) ∧ (∀ j, j < 10 → V.cell? ⟨N, j, none⟩ = some (.string ⟨(nm j).toArray⟩)) ∧ V.ownsRow M 24 1 v k (lsC ws k)
theorem RI.below {w V U : World} {R B N M : Nat} {ws : List (List UInt8)} {k k' : Nat} {v v' : Value} (h : RI w V R B N M ws k v) (hl : Below M V U) (hl' : Later w U) (ho : U.ownsRow M 24 1 v' k' (lsC ws k')) : RI w U R B N M ws k' v' := by
  obtain ⟨⟨h1, h2, h3, h4, h5, h6⟩, hR, hB, hN, hO⟩ := h
  have hs := hl.size
  exact ⟨⟨hl', h2, h3, h4, h5, by omega⟩, (Below.block hl R h3).trans hR, fun j hj => (Below.cell hl (show (⟨B, j, none⟩ : Addr).block < M from h4)).trans (hB j hj), fun j hj => (Below.cell hl (show (⟨N, j, none⟩ : Addr).block < M from h5)).trans (hN j hj), ho⟩
theorem RI.later {w V U : World} {R B N M : Nat} {ws : List (List UInt8)} {k : Nat} {v : Value} (h : RI w V R B N M ws k v) (hl : Later V U) : RI w U R B N M ws k v :=
  h.below (Below.mono hl h.1.2.2.2.2.2) (h.1.1.trans hl) (ownsRow_later h.2.2.2.2 hl)

set_option maxRecDepth 100000 in
set_option maxHeartbeats 4000000 in
theorem refParse_long (l : List UInt8) (ws : List (List UInt8)) (hws : spl l = ws) (h6 : 600 < l.length) (w : World) :
    Calls Tryz.prog 15 #[.string ⟨l.toArray⟩] w fun e w' => e = .returned (.tuple #[statV (prX ws) (prA ws) (prB ws), .int .i64 (prC ws)]) ∧ Later w w' := by
  have HEQ := Lib.hid (show prX ws = xZ0 ∧ prA ws = 0 ∧ prB ws = 0 ∧ prC ws = 7 from by
    have hc := prC_syn (ws := ws) (fun h => by rw [← hws] at h; have := okW_short h; omega)
    obtain ⟨h1, h2, h3⟩ := pr_bad (ws := ws) (by rw [hc]; decide)
    exact ⟨h1, h2, h3, hc⟩)
  have hsz := size_mk l
  obtain ⟨T, hT⟩ : ∃ T : ByteArray, (⟨l.toArray⟩ : ByteArray) = T := ⟨_, rfl⟩
  rw [hT] at hsz ⊢
  have hd : decide (600 < (T.size : Int)) = true := by simp; omega
  clear hT hsz h6 hws
  go_enter Tryz.func15, Tryz.ntmps15
  go_upto_region 1 with fail
  have hr := (MapKept.heap_alloc w (.cells (xRow xZ0 0 0) 27)).1
  have hl1 : Later w (w.alloc (.cells (xRow xZ0 0 0) 27)) := (Later.refl w).alloc _
  obtain ⟨w1, hw1⟩ : ∃ w1, w.alloc (.cells #[.int .u64 0, .int .u64 0, .int .u64 0, .int .u64 0, .int .u64 0, .int .u64 0, .int .u64 0, .int .u64 0, .int .u64 0, .int .u64 0, .complex .f64 0 0] 27) = w1 := ⟨_, rfl⟩
  have hw2 : w.alloc (.cells (xRow xZ0 0 0) 27) = w1 := hw1
  rw [hw1]
  rw [hw2] at hr hl1
  have HRR := Lib.hid hr
  have HEND := Lib.hid (EndR.mk (x := xZ0) (a := 0) (b := 0) hl1 (Nat.le_refl _) HRR.out)
  clear hw1 hw2 hr hl1
  go_wp2_with (first | (refine wpList_store_rowTo rfl 27 (.tmp 2) (.tmp 17) rfl rfl w.heap.size (xRow xZ0 0 0) rfl rfl 27 (xRow xZ0 0 0) HRR.out (by kernel_rfl) rfl (by kernel_rfl) ?_))
  have hend := HEND.out
  generalize w1.setRow w.heap.size (xRow xZ0 0 0) = w8 at hend ⊢
  obtain ⟨⟨u0, u1, u2, u3, u4, u5⟩, u6, u7, u8, u9, u10⟩ := setRow_cellsR hend.2
  exact bodyPost_ret (v := .tuple #[statV xZ0 0 0, .int .i64 7]) (by simp [results, Tryz.results15, go_sem, statV, u0, u1, u2, u3, u4, u5, u6, u7, u8, u9, u10]) rfl ⟨by rw [HEQ.out.1, HEQ.out.2.1, HEQ.out.2.2.1, HEQ.out.2.2.2], hend.1⟩

set_option maxRecDepth 100000 in
set_option maxHeartbeats 4000000 in
theorem refParse_head (l : List UInt8) (ws : List (List UInt8)) (hws : spl l = ws) (h6 : l.length ≤ 600) (hh : ¬ headOK ws) (w : World) :
    Calls Tryz.prog 15 #[.string ⟨l.toArray⟩] w fun e w' => e = .returned (.tuple #[statV (prX ws) (prA ws) (prB ws), .int .i64 (prC ws)]) ∧ Later w w' := by
  have hne : ws ≠ [] := by rw [← hws]; exact spl_ne l
  obtain ⟨T, hT⟩ : ∃ T : ByteArray, T = ⟨l.toArray⟩ := ⟨_, rfl⟩
  have hsz := size_mk l
  have hW := fun W => refWords_is ⟨l.toArray⟩ (by rw [size_mk]; omega) W
  have hdat : (ByteArray.data ⟨l.toArray⟩).toList = l := rfl
  rw [hdat, hws] at hW
  rw [← hT] at hW hsz ⊢
  have hd : decide (600 < (T.size : Int)) = false := by simp; omega
  have HW := Lib.hid hW
  have HL := Lib.hid h6
  clear hT hsz h6 hws hdat hW
  have HEQ := Lib.hid (show prX ws = xZ0 ∧ prA ws = 0 ∧ prB ws = 0 ∧ prC ws = 7 from by
    have hc := prC_syn (ws := ws) (fun h => hh h.1)
    obtain ⟨h1, h2, h3⟩ := pr_bad (ws := ws) (by rw [hc]; decide)
    exact ⟨h1, h2, h3, hc⟩)
  have hcase : (((ws.length : Int) != 23) = true ∧ ws.length ≠ 23) ∨ (((ws.length : Int) != 23) = false ∧ ws.length = 23 ∧ wrd ws 20 ≠ ldW) := by
    by_cases h : ws.length = 23
    · right
      refine ⟨by rw [h]; rfl, h, fun k => hh ⟨h, k⟩⟩
    · left
      refine ⟨?_, h⟩
      rw [bne_iff_ne]; omega
  clear hh
  go_enter Tryz.func15, Tryz.ntmps15
  go_wp2_with fail
  refine (HW.out _).mono ?_
  rintro e w1 ⟨v, rfl, hown, hl1⟩
  have hb1 := hl1
  have hR1 : w1.heap[w.heap.size]? = some (.cells (xRow xZ0 0 0) 27 (0, 0)) := (Below.block hl1 _ (by simp)).trans (MapKept.heap_alloc w _).1
  have hlw1 : Later w w1 := ((Later.refl w).alloc _).trans hl1
  have hz1 : w.heap.size < w1.heap.size := Nat.lt_of_lt_of_le (by simp) hl1.size
  have hpos : 0 < ws.length := List.length_pos_iff.2 hne
  obtain ⟨B, cap, cur, rfl, hbB, hheap, hnc, hcm, hcs, htk⟩ := ownsRow_block hown hpos
  have hw20 : ws.length = 23 → w1.cell? ⟨B, 20, none⟩ = some (.string ⟨(wrd ws 20).toArray⟩) := fun h => ownsRow_cell hown (wsC_get (by omega))
  have hBlt : B < w1.heap.size := (Array.getElem?_eq_some_iff.1 hheap).1
  clear hown hheap hcs htk hcm hb1 hl1 hbB
  go_wp2_with fail
  refine (refNames_is _).mono ?_
  rintro e w2 ⟨N, hN1, hN2, rfl, hl2, hN⟩
  have HRR := Lib.hid ((Below.block hl2 _ hz1).trans hR1)
  have HEND := Lib.hid (EndR.mk (x := xZ0) (a := 0) (b := 0) (hlw1.trans hl2) (Nat.le_refl _) HRR.out)
  have hw20' : ws.length = 23 → w2.cell? ⟨B, 20, none⟩ = some (.string ⟨(wrd ws 20).toArray⟩) := fun h => cell_at hl2 (hw20 h) hBlt
  clear hw20 hR1 hlw1 hz1 hN hN1 hN2 hl2 hBlt hne hpos
  rcases hcase with ⟨hc, hne⟩ | ⟨hc, h23, h20⟩
  · clear hw20'
    obtain ⟨n, hn⟩ : ∃ n, ws.length = n := ⟨_, rfl⟩
    rw [hn] at hc hnc ⊢
    clear hne hn
    go_wp2_with (first | (refine wpList_store_rowTo rfl 27 (.tmp 2) (.tmp 30) rfl rfl w.heap.size (xRow xZ0 0 0) rfl rfl 27 (xRow xZ0 0 0) HRR.out (by kernel_rfl) rfl (by kernel_rfl) ?_))
    have hend := HEND.out
    generalize w2.setRow w.heap.size (xRow xZ0 0 0) = w8 at hend ⊢
    obtain ⟨⟨u0, u1, u2, u3, u4, u5⟩, u6, u7, u8, u9, u10⟩ := setRow_cellsR hend.2
    exact bodyPost_ret (v := .tuple #[statV xZ0 0 0, .int .i64 7]) (by simp [results, Tryz.results15, go_sem, statV, u0, u1, u2, u3, u4, u5, u6, u7, u8, u9, u10]) rfl ⟨by rw [HEQ.out.1, HEQ.out.2.1, HEQ.out.2.2.1, HEQ.out.2.2.2], hend.1⟩
  · have cw := hw20' h23
    have hst := str_eqL (wrd ws 20) ldW false (by simp [h20])
    obtain ⟨A, hA⟩ : ∃ A : ByteArray, (⟨(wrd ws 20).toArray⟩ : ByteArray) = A := ⟨_, rfl⟩
    rw [hA] at hst cw
    have hst : (A.toList == [108, 111, 97, 100]) = false := hst
    rw [h23] at hc hnc ⊢
    clear hw20' h20 hA hc h23
    go_wp2_with (first | (refine wpList_store_rowTo rfl 27 (.tmp 2) (.tmp 30) rfl rfl w.heap.size (xRow xZ0 0 0) rfl rfl 27 (xRow xZ0 0 0) HRR.out (by kernel_rfl) rfl (by kernel_rfl) ?_))
    have hend := HEND.out
    generalize w2.setRow w.heap.size (xRow xZ0 0 0) = w8 at hend ⊢
    obtain ⟨⟨u0, u1, u2, u3, u4, u5⟩, u6, u7, u8, u9, u10⟩ := setRow_cellsR hend.2
    exact bodyPost_ret (v := .tuple #[statV xZ0 0 0, .int .i64 7]) (by simp [results, Tryz.results15, go_sem, statV, u0, u1, u2, u3, u4, u5, u6, u7, u8, u9, u10]) rfl ⟨by rw [HEQ.out.1, HEQ.out.2.1, HEQ.out.2.2.1, HEQ.out.2.2.2], hend.1⟩

set_option maxRecDepth 100000 in
set_option maxHeartbeats 16000000 in
theorem refParse_main (l : List UInt8) (ws : List (List UInt8)) (hws : spl l = ws) (h6 : l.length ≤ 600) (hh : headOK ws) (hshort : ∀ j, (wrd ws j).length ≤ 100000) (w : World) :
    Calls Tryz.prog 15 #[.string ⟨l.toArray⟩] w fun e w' => e = .returned (.tuple #[statV (prX ws) (prA ws) (prB ws), .int .i64 (prC ws)]) ∧ Later w w' := by
  obtain ⟨i0, hi0, hiz, his, hib⟩ := info_parts info24
  obtain ⟨T, hT⟩ : ∃ T : ByteArray, T = ⟨l.toArray⟩ := ⟨_, rfl⟩
  have hsz := size_mk l
  have hW := fun W => refWords_is ⟨l.toArray⟩ (by rw [size_mk]; omega) W
  have hdat : (ByteArray.data ⟨l.toArray⟩).toList = l := rfl
  rw [hdat, hws] at hW
  rw [← hT] at hW hsz ⊢
  have hd : decide (600 < (T.size : Int)) = false := by simp; omega
  have HW := Lib.hid hW
  have HL := Lib.hid h6
  clear hT hsz h6 hws hdat hW
  have HH := Lib.hid hh
  have HSH := Lib.hid hshort
  have H23 := hh.1
  clear hh hshort
  go_enter Tryz.func15, Tryz.ntmps15
  go_wp2_with fail
  refine (HW.out _).mono ?_
  rintro e w1 ⟨v, rfl, hown, hl1⟩
  have hb1 := hl1
  have hR1 : w1.heap[w.heap.size]? = some (.cells (xRow xZ0 0 0) 27 (0, 0)) := (Below.block hl1 _ (by simp)).trans (MapKept.heap_alloc w _).1
  have hlw1 : Later w w1 := ((Later.refl w).alloc _).trans hl1
  have hz1 : w.heap.size < w1.heap.size := Nat.lt_of_lt_of_le (by simp) hl1.size
  rw [H23] at hown
  obtain ⟨B, cap, cur, rfl, hbB, hheap, hnc, hcm, hcs, htk⟩ := ownsRow_block hown (by omega)
  have hws1 : ∀ j, j < 23 → w1.cell? ⟨B, j, none⟩ = some (.string ⟨(wrd ws j).toArray⟩) := fun j hj => ownsRow_cell hown (wsC_get (by omega))
  have hBlt : B < w1.heap.size := (Array.getElem?_eq_some_iff.1 hheap).1
  clear hown hheap hcs htk hcm hb1 hl1 hbB H23
  go_wp2_with fail
  refine (refNames_is _).mono ?_
  rintro e w2 ⟨N, hN1, hN2, rfl, hl2, hN⟩
  have hw20 := cell_at hl2 (hws1 20 (by omega)) hBlt
  have hst := str_eqL (wrd ws 20) ldW true (by simp [HH.out.2])
  have hI0 : RI w w2 w.heap.size B N w2.heap.size ws 0 (.slice none 0 0) := by
    have hsz := hl2.size
    exact ⟨⟨hlw1.trans hl2, Nat.le_refl _, by omega, by omega, hN2, Nat.le_refl _⟩, (Below.block hl2 _ hz1).trans hR1, fun j hj => cell_at hl2 (hws1 j hj) hBlt, hN, World.ownsRow_nil _ _ _ _⟩
  obtain ⟨A, hA⟩ : ∃ A : ByteArray, (⟨(wrd ws 20).toArray⟩ : ByteArray) = A := ⟨_, rfl⟩
  rw [hA] at hst hw20
  have hst : (A.toList == [108, 111, 97, 100]) = true := hst
  obtain ⟨R, hR⟩ : ∃ R, w.heap.size = R := ⟨_, rfl⟩
  obtain ⟨M, hM⟩ : ∃ M, w2.heap.size = M := ⟨_, rfl⟩
  rw [hR, hM] at hI0
  try rw [hR]
  clear hA hws1 hBlt hR1 hlw1 hz1 hN hN1 hN2 hl2 hR hM
  go_wp2_with fail
  go_loopw [6, 7, 8, 9] (fun s6 s7 _ _ wr => ∃ j : Nat, j ≤ 10 ∧ s7 = .int .i64 (j : Int) ∧ RI w wr R B N M ws j s6 ∧ Hid (∀ i, i < j → fieldOK ws i)) (fun _ s7 _ _ _ => 10 - (RowKit.intOf s7).toNat)
  case atStart => exact ⟨0, by omega, rfl, hI0, Lib.hid (fun i hi => by omega)⟩
  case round =>
    obtain ⟨j, hj, rfl, hI, hF⟩ := hrel
    rename World => wk
    clear hI0 hw20 hst
    by_cases hlt : j < 10
    · have hd1 : decide ((j : Int) < 10) = true := by simp; omega
      have hd2 : decide (j < 10) = true := by simpa using hlt
      have cb0 := hI.2.2.1 (2 * j) (by omega)
      have cb1 := hI.2.2.1 (2 * j + 1) (by omega)
      have cn := hI.2.2.2.1 j hlt
      have HI := Lib.hid hI
      have hRN := refNumber_is ⟨(wrd ws (2 * j + 1)).toArray⟩ (by rw [size_mk]; have := HSH.out (2 * j + 1); omega) wk
      have hdat : (ByteArray.data ⟨(wrd ws (2 * j + 1)).toArray⟩).toList = wrd ws (2 * j + 1) := rfl
      rw [hdat] at hRN
      clear hdat
      have hnm : ∃ r, r = decide (wrd ws (2 * j) = nm j) := ⟨_, rfl⟩
      obtain ⟨r, hr⟩ := hnm
      have hst := str_eq (wrd ws (2 * j)) (nm j) r hr
      have HR := Lib.hid hr
      obtain ⟨D, hD⟩ : ∃ D : ByteArray, (⟨(wrd ws (2 * j + 1)).toArray⟩ : ByteArray) = D := ⟨_, rfl⟩
      obtain ⟨X, hX⟩ : ∃ X : ByteArray, (⟨(wrd ws (2 * j)).toArray⟩ : ByteArray) = X := ⟨_, rfl⟩
      obtain ⟨Y, hY⟩ : ∃ Y : ByteArray, (⟨(nm j).toArray⟩ : ByteArray) = Y := ⟨_, rfl⟩
      rw [hD] at hRN cb1
      rw [hX] at cb0 hst
      rw [hY] at cn hst
      clear hD hX hY hr hI
      cases hnu : numD (wrd ws (2 * j + 1)) with
      | none =>
        rw [hnu] at hRN
        simp only [numEnd] at hRN
        have HNO := Lib.hid hnu
        have HRN := Lib.hid hRN
        clear hnu hRN
        go_wp2_with fail
        refine (HRN.out).mono ?_
        rintro e w3 ⟨rfl, rfl⟩
        clear HRN
        go_wp2_with fail
        obtain ⟨p, hp⟩ : ∃ p, 2 * j = p := ⟨_, rfl⟩
        have ix0 : (0 : Int) ≤ (p : Int) := by omega
        have ix1 : (p : Int) < 23 := by omega
        have ix2 : (0 : Int) ≤ (j : Int) := by omega
        have ix3 : (j : Int) < 10 := by omega
        have iw0 : IntKind.i64.wrap (2 * (j : Int)) = (p : Int) := by rw [IntKind.wrap_i64]; omega
        rw [hp] at cb0
        clear hp
        have kb0 := cell_regrown cb0
        have kn := cell_regrown cn
        cases r with
        | false =>
          refine wp_region_quiet_below mixed (by kernel_rfl) ?_
          repeat ((with_reducible refine wpQuiet_step (fun K hK => ?_)); go_simp; first | ((with_reducible refine hK _ ?_); clear hK K))
          with_reducible refine wpQuiet_nil ?_

          intro w5 hw5
          have hl5 : Later wk w5 := by obtain ⟨p, rfl⟩ := hw5; exact below_regrown wk p.d p.os
          have hI5 := HI.out.later hl5
          clear hw5 hl5 kb0 kn ix0 ix1 ix2 ix3 iw0

          have HEQ := Lib.hid (show prX ws = xZ0 ∧ prA ws = 0 ∧ prB ws = 0 ∧ prC ws = 7 from by
            have hc := prC_syn (ws := ws) (fun h => by obtain ⟨u, hu⟩ := (h.2.1 j hlt).2; rw [HNO.out] at hu; cases hu)
            obtain ⟨h1, h2, h3⟩ := pr_bad (ws := ws) (by rw [hc]; decide)
            exact ⟨h1, h2, h3, hc⟩)

          have HRR := Lib.hid hI5.2.1
          have HEND := Lib.hid (EndR.mk (x := xZ0) (a := 0) (b := 0) hI5.1.1 hI5.1.2.1 hI5.2.1)
          clear hI5 HI

          go_wp2_with (first | (refine wpList_store_rowTo rfl 27 (.tmp 2) (.tmp 61) rfl rfl R (xRow xZ0 0 0) rfl rfl 27 (xRow xZ0 0 0) HRR.out (by kernel_rfl) rfl (by kernel_rfl) ?_))
          have hend := HEND.out
          generalize w5.setRow R (xRow xZ0 0 0) = w8 at hend ⊢
          obtain ⟨⟨u0, u1, u2, u3, u4, u5⟩, u6, u7, u8, u9, u10⟩ := setRow_cellsR hend.2
          exact bodyPost_ret (v := .tuple #[statV xZ0 0 0, .int .i64 7]) (by simp [results, Tryz.results15, go_sem, statV, u0, u1, u2, u3, u4, u5, u6, u7, u8, u9, u10]) rfl ⟨by rw [HEQ.out.1, HEQ.out.2.1, HEQ.out.2.2.1, HEQ.out.2.2.2], hend.1⟩
        | true =>
          refine wp_region_quiet_below mixed (by kernel_rfl) ?_
          repeat ((with_reducible refine wpQuiet_step (fun K hK => ?_)); go_simp; first | ((with_reducible refine hK _ ?_); clear hK K))
          with_reducible refine wpQuiet_nil ?_

          intro w5 hw5
          have hl5 : Later wk w5 := by obtain ⟨p, rfl⟩ := hw5; exact below_regrown wk p.d p.os
          have hI5 := HI.out.later hl5
          clear hw5 hl5 kb0 kn ix0 ix1 ix2 ix3 iw0

          have HEQ := Lib.hid (show prX ws = xZ0 ∧ prA ws = 0 ∧ prB ws = 0 ∧ prC ws = 7 from by
            have hc := prC_syn (ws := ws) (fun h => by obtain ⟨u, hu⟩ := (h.2.1 j hlt).2; rw [HNO.out] at hu; cases hu)
            obtain ⟨h1, h2, h3⟩ := pr_bad (ws := ws) (by rw [hc]; decide)
            exact ⟨h1, h2, h3, hc⟩)

          have HRR := Lib.hid hI5.2.1
          have HEND := Lib.hid (EndR.mk (x := xZ0) (a := 0) (b := 0) hI5.1.1 hI5.1.2.1 hI5.2.1)
          clear hI5 HI

          go_wp2_with (first | (refine wpList_store_rowTo rfl 27 (.tmp 2) (.tmp 61) rfl rfl R (xRow xZ0 0 0) rfl rfl 27 (xRow xZ0 0 0) HRR.out (by kernel_rfl) rfl (by kernel_rfl) ?_))
          have hend := HEND.out
          generalize w5.setRow R (xRow xZ0 0 0) = w8 at hend ⊢
          obtain ⟨⟨u0, u1, u2, u3, u4, u5⟩, u6, u7, u8, u9, u10⟩ := setRow_cellsR hend.2
          exact bodyPost_ret (v := .tuple #[statV xZ0 0 0, .int .i64 7]) (by simp [results, Tryz.results15, go_sem, statV, u0, u1, u2, u3, u4, u5, u6, u7, u8, u9, u10]) rfl ⟨by rw [HEQ.out.1, HEQ.out.2.1, HEQ.out.2.2.1, HEQ.out.2.2.2], hend.1⟩
      | some u =>
        rw [hnu] at hRN
        simp only [numEnd] at hRN
        have HNU := Lib.hid hnu
        have hule := numD_le hnu
        have HRN := Lib.hid hRN
        have HU := Lib.hid hule
        clear hnu hRN hule
        go_wp2_with fail
        refine (HRN.out).mono ?_
        rintro e w3 ⟨rfl, rfl⟩
        clear HRN
        go_wp2_with fail
        obtain ⟨p, hp⟩ : ∃ p, 2 * j = p := ⟨_, rfl⟩
        have ix0 : (0 : Int) ≤ (p : Int) := by omega
        have ix1 : (p : Int) < 23 := by omega
        have ix2 : (0 : Int) ≤ (j : Int) := by omega
        have ix3 : (j : Int) < 10 := by omega
        have iw0 : IntKind.i64.wrap (2 * (j : Int)) = (p : Int) := by rw [IntKind.wrap_i64]; omega
        rw [hp] at cb0
        clear hp
        have kb0 := cell_regrown cb0
        have kn := cell_regrown cn
        cases r with
        | false =>
          refine wp_region_quiet_below mixed (by kernel_rfl) ?_
          repeat ((with_reducible refine wpQuiet_step (fun K hK => ?_)); go_simp; first | ((with_reducible refine hK _ ?_); clear hK K))
          with_reducible refine wpQuiet_nil ?_

          intro w5 hw5
          have hl5 : Later wk w5 := by obtain ⟨p, rfl⟩ := hw5; exact below_regrown wk p.d p.os
          have hI5 := HI.out.later hl5
          clear hw5 hl5 kb0 kn ix0 ix1 ix2 ix3 iw0

          have HEQ := Lib.hid (show prX ws = xZ0 ∧ prA ws = 0 ∧ prB ws = 0 ∧ prC ws = 7 from by
            have hc := prC_syn (ws := ws) (fun h => by have h1 := (h.2.1 j hlt).1; have h2 := HR.out; rw [h1] at h2; simp at h2)
            obtain ⟨h1, h2, h3⟩ := pr_bad (ws := ws) (by rw [hc]; decide)
            exact ⟨h1, h2, h3, hc⟩)

          have HRR := Lib.hid hI5.2.1
          have HEND := Lib.hid (EndR.mk (x := xZ0) (a := 0) (b := 0) hI5.1.1 hI5.1.2.1 hI5.2.1)
          clear hI5 HI

          go_wp2_with (first | (refine wpList_store_rowTo rfl 27 (.tmp 2) (.tmp 61) rfl rfl R (xRow xZ0 0 0) rfl rfl 27 (xRow xZ0 0 0) HRR.out (by kernel_rfl) rfl (by kernel_rfl) ?_))
          have hend := HEND.out
          generalize w5.setRow R (xRow xZ0 0 0) = w8 at hend ⊢
          obtain ⟨⟨u0, u1, u2, u3, u4, u5⟩, u6, u7, u8, u9, u10⟩ := setRow_cellsR hend.2
          exact bodyPost_ret (v := .tuple #[statV xZ0 0 0, .int .i64 7]) (by simp [results, Tryz.results15, go_sem, statV, u0, u1, u2, u3, u4, u5, u6, u7, u8, u9, u10]) rfl ⟨by rw [HEQ.out.1, HEQ.out.2.1, HEQ.out.2.2.1, HEQ.out.2.2.2], hend.1⟩
        | true =>
          refine wp_region_quiet_below mixed (by kernel_rfl) ?_
          repeat ((with_reducible refine wpQuiet_step (fun K hK => ?_)); go_simp; first | ((with_reducible refine hK _ ?_); clear hK K))
          with_reducible refine wpQuiet_nil ?_

          intro w5 hw5
          have hl5 : Later wk w5 := by obtain ⟨p, rfl⟩ := hw5; exact below_regrown wk p.d p.os
          have hI5 := HI.out.later hl5
          clear hw5 hl5 kb0 kn ix0 ix1 ix2 ix3 iw0

          have hfield : fieldOK ws j ∧ pX ws j = (u : Int) := by
            have h4 := HR.out
            exact ⟨⟨by simpa using h4, u, HNU.out⟩, pX_some HNU.out⟩
          have hF' : ∀ i, i < j + 1 → fieldOK ws i := fun i hi => by
            by_cases h : i < j
            · exact hF.out i h
            · obtain rfl : i = j := by omega
              exact hfield.1
          have HF' := Lib.hid hF'
          have HI5 := Lib.hid hI5
          have HPX := Lib.hid hfield.2
          have hms : M ≤ w5.heap.size := hI5.1.2.2.2.2.2
          have HOW5 := Lib.hid hI5.2.2.2.2
          clear hfield hF' hF hI5 HI cb0 cb1 cn hst HR HNU
          go_wp2_with (first | (refine wpList_append_own _ rfl (.tmp 62) (.tmp 64) 39 rfl M 24 i0 _ 1 8 Tryz.underlying39 hi0 hiz his hib rfl (by decide) _ _ _ rfl (HOW5.out.alloc _) ⟨w5.heap.size, 0, none⟩ 1 1 [.int .u64 (u : Int)] rfl rfl ?c1 ?c2 ?c3 ?c4 ?c5 ?_))
          case c1 => exact fun j u hu => by rw [addr_add, World.cell?_alloc_new]; simpa using hu
          case c2 => exact fun u hu => by revert u; simp [Value.oneCell']
          case c3 => (unfold maxLen; omega)
          case c4 => omega
          case c5 => (simp; omega)
          intro v' w6 hown' hgrow _
          have hnext : RI w w6 R B N M ws (j + 1) v' := by
            have hb : Below M w5 w6 := Below.grown ((Below.refl M w5).alloc hms _) hgrow (by simp; omega) (fun i hi => (HOW5.out.lt i hi).1)
            have hbw : Later w w6 := Below.grown (HI5.out.1.1.alloc _) hgrow (HI5.out.1.1.alloc _).size (fun i hi => by have := (HOW5.out.lt i hi).1; have := HI5.out.1; omega)
            refine HI5.out.below hb hbw ?_
            rw [lsC_succ, HPX.out]
            exact hown'
          have HNEXT := Lib.hid hnext
          clear hown' hgrow hnext
          go_wp2_with fail
          go_roundw
          case rel => exact ⟨j + 1, by omega, by go_num, HNEXT.out, HF'⟩
          case measure => simp [RowKit.intOf]; omega
    · obtain rfl : j = 10 := by omega
      have hF10 := hF.out
      obtain ⟨g, cap6, cur6, rfl, hMg, hg, hnc6, -, -, -⟩ := ownsRow_block hI.2.2.2.2 (by omega)
      have kl : ∀ i, i < 10 → wk.cell? ⟨g, i, none⟩ = some (.int .u64 (pX ws i)) := fun i hi => ownsRow_cell hI.2.2.2.2 (lsC_get ws hi)
      have hglt : g < wk.heap.size := (Array.getElem?_eq_some_iff.1 hg).1
      have cw1 := hI.2.2.1 21 (by omega)
      have cw2 := hI.2.2.1 22 (by omega)
      have hP1 := fun W => refBits_is ⟨(wrd ws 21).toArray⟩ W
      have hP2 := fun W => refBits_is ⟨(wrd ws 22).toArray⟩ W
      have e1 : (ByteArray.data ⟨(wrd ws 21).toArray⟩).toList = wrd ws 21 := rfl
      have e2 : (ByteArray.data ⟨(wrd ws 22).toArray⟩).toList = wrd ws 22 := rfl
      rw [e1] at hP1
      rw [e2] at hP2
      obtain ⟨D1, hD1⟩ : ∃ D : ByteArray, (⟨(wrd ws 21).toArray⟩ : ByteArray) = D := ⟨_, rfl⟩
      obtain ⟨D2, hD2⟩ : ∃ D : ByteArray, (⟨(wrd ws 22).toArray⟩ : ByteArray) = D := ⟨_, rfl⟩
      rw [hD1] at hP1 cw1
      rw [hD2] at hP2 cw2
      have HP1 := Lib.hid hP1
      have HP2 := Lib.hid hP2
      have HF10 := Lib.hid hF10
      have HKL := Lib.hid kl
      have HRR := Lib.hid hI.2.1
      have HLW := Lib.hid (And.intro hI.1.1 hI.1.2.1)
      clear e1 e2 hD1 hD2 hP1 hP2 hF10 hF hI kl hg hMg
      have HEND := Lib.hid (EndR.mk (x := xZ0) (a := 0) (b := 0) HLW.out.1 HLW.out.2 HRR.out)
      cases hx1 : hexD (wrd ws 21) with
      | none =>
        rw [hx1] at HP1
        simp only [numEnd] at HP1
        have HX1 := Lib.hid hx1
        clear hx1
        have HB2 : ∃ n b, numEnd (hexD (wrd ws 22)) = .tuple #[.int .u64 n, .bool b] := by
          cases hexD (wrd ws 22) with
          | none => exact ⟨0, false, rfl⟩
          | some u => exact ⟨u, true, rfl⟩
        obtain ⟨n2, b2, hn2⟩ := HB2
        rw [hn2] at HP2
        clear hn2
        go_wp2_with fail
        refine (HP1.out _).mono ?_
        rintro e w3 ⟨rfl, rfl⟩
        go_wp2_with fail
        refine (HP2.out _).mono ?_
        rintro e w3 ⟨rfl, rfl⟩
        have HEQ := Lib.hid (show prX ws = xZ0 ∧ prA ws = 0 ∧ prB ws = 0 ∧ prC ws = 7 from by
          have hc := prC_syn (ws := ws) (fun h => by obtain ⟨u, hu⟩ := h.2.2.1; rw [HX1.out] at hu; cases hu)
          obtain ⟨h1, h2, h3⟩ := pr_bad (ws := ws) (by rw [hc]; decide)
          exact ⟨h1, h2, h3, hc⟩)

        go_wp2_with (first | (refine wpList_store_rowTo rfl 27 (.tmp 2) (.tmp 86) rfl rfl R (xRow xZ0 0 0) rfl rfl 27 (xRow xZ0 0 0) HRR.out (by kernel_rfl) rfl (by kernel_rfl) ?_))
        have hend := HEND.out
        generalize wk.setRow R (xRow xZ0 0 0) = w8 at hend ⊢
        obtain ⟨⟨u0, u1, u2, u3, u4, u5⟩, u6, u7, u8, u9, u10⟩ := setRow_cellsR hend.2
        exact bodyPost_ret (v := .tuple #[statV xZ0 0 0, .int .i64 7]) (by simp [results, Tryz.results15, go_sem, statV, u0, u1, u2, u3, u4, u5, u6, u7, u8, u9, u10]) rfl ⟨by rw [HEQ.out.1, HEQ.out.2.1, HEQ.out.2.2.1, HEQ.out.2.2.2], hend.1⟩
      | some a =>
        rw [hx1] at HP1
        simp only [numEnd] at HP1
        have ha := hexD_lt hx1
        have hpa : pA ws = a := by unfold pA; rw [hx1]; rfl
        have HX1 := Lib.hid hx1
        have HPA := Lib.hid (And.intro hpa ha)
        clear hx1 hpa ha
        cases hx2 : hexD (wrd ws 22) with
        | none =>
          rw [hx2] at HP2
          simp only [numEnd] at HP2
          have HX2 := Lib.hid hx2
          clear hx2
          go_wp2_with fail
          refine (HP1.out _).mono ?_
          rintro e w3 ⟨rfl, rfl⟩
          go_wp2_with fail
          refine (HP2.out _).mono ?_
          rintro e w3 ⟨rfl, rfl⟩
          have HEQ := Lib.hid (show prX ws = xZ0 ∧ prA ws = 0 ∧ prB ws = 0 ∧ prC ws = 7 from by
            have hc := prC_syn (ws := ws) (fun h => by obtain ⟨u, hu⟩ := h.2.2.2; rw [HX2.out] at hu; cases hu)
            obtain ⟨h1, h2, h3⟩ := pr_bad (ws := ws) (by rw [hc]; decide)
            exact ⟨h1, h2, h3, hc⟩)

          go_wp2_with (first | (refine wpList_store_rowTo rfl 27 (.tmp 2) (.tmp 86) rfl rfl R (xRow xZ0 0 0) rfl rfl 27 (xRow xZ0 0 0) HRR.out (by kernel_rfl) rfl (by kernel_rfl) ?_))
          have hend := HEND.out
          generalize wk.setRow R (xRow xZ0 0 0) = w8 at hend ⊢
          obtain ⟨⟨u0, u1, u2, u3, u4, u5⟩, u6, u7, u8, u9, u10⟩ := setRow_cellsR hend.2
          exact bodyPost_ret (v := .tuple #[statV xZ0 0 0, .int .i64 7]) (by simp [results, Tryz.results15, go_sem, statV, u0, u1, u2, u3, u4, u5, u6, u7, u8, u9, u10]) rfl ⟨by rw [HEQ.out.1, HEQ.out.2.1, HEQ.out.2.2.1, HEQ.out.2.2.2], hend.1⟩
        | some b =>
          rw [hx2] at HP2
          simp only [numEnd] at HP2
          have hb := hexD_lt hx2
          have hpb : pB ws = b := by unfold pB; rw [hx2]; rfl
          have HOK := Lib.hid (show okW ws from ⟨HH.out, fun i hi => HF10.out i hi, ⟨a, HX1.out⟩, ⟨b, hx2⟩⟩)
          have HPP := Lib.hid (And.intro HPA.out.1 (And.intro hpb (And.intro HPA.out.2 hb)))
          clear hx2 hpb hb
          by_cases hal : a ≤ W2
          · have hda : decide (4611686018427387904 < (a : Int)) = false := by unfold W2 at hal; simp; omega
            by_cases hbl : b ≤ W2
            · have hdb : decide (4611686018427387904 < (b : Int)) = false := by unfold W2 at hbl; simp; omega
              obtain ⟨y, hy⟩ : ∃ y, pX ws = y := ⟨_, rfl⟩
              have HEQ := Lib.hid (show prX ws = y ∧ prA ws = a ∧ prB ws = b ∧ prC ws = 0 from by
                have hc := prC_ok HOK.out ⟨HPP.out.1 ▸ hal, HPP.out.2.1 ▸ hbl⟩
                obtain ⟨h1, h2, h3⟩ := pr_ok hc
                exact ⟨h1.trans hy, h2.trans HPP.out.1, h3.trans HPP.out.2.1, hc⟩)
              have kl := HKL.out
              rw [hy] at kl
              have k0 := cell_regrown (kl 0 (by omega))
              have k1 := cell_regrown (kl 1 (by omega))
              have k2 := cell_regrown (kl 2 (by omega))
              have k3 := cell_regrown (kl 3 (by omega))
              have k4 := cell_regrown (kl 4 (by omega))
              have k5 := cell_regrown (kl 5 (by omega))
              have k6 := cell_regrown (kl 6 (by omega))
              have k7 := cell_regrown (kl 7 (by omega))
              have k8 := cell_regrown (kl 8 (by omega))
              have k9 := cell_regrown (kl 9 (by omega))
              have hfa := frombits_run a
              have hfb := frombits_run b
              clear hal hbl hy kl HKL HEND
              go_wp2_with fail
              refine (HP1.out _).mono ?_
              rintro e w3 ⟨rfl, rfl⟩
              go_wp2_with fail
              refine (HP2.out _).mono ?_
              rintro e w3 ⟨rfl, rfl⟩
              go_wp2_with fail
              refine wp_region_below_tail 36 mixed (by kernel_rfl) ?_
              simp only [List.take_succ_cons, List.take_zero, List.drop_succ_cons, List.drop_zero]
              repeat ((with_reducible refine wpQuiet_step (fun K hK => ?_)); go_simp; first | ((with_reducible refine hK _ ?_); clear hK K))
              with_reducible refine wpQuiet_nil ?_
              intro w5 hw5
              have hl5 : Later wk w5 := by obtain ⟨p, rfl⟩ := hw5; exact below_regrown wk p.d p.os
              have HRR := Lib.hid ((Below.block hl5 R ((Array.getElem?_eq_some_iff.1 HRR.out).1)).trans HRR.out)
              have HEND := Lib.hid (EndR.mk (x := y) (a := a) (b := b) (HLW.out.1.trans hl5) HLW.out.2 HRR.out)
              clear hw5 hl5 k0 k1 k2 k3 k4 k5 k6 k7 k8 k9
              go_wp2_with (first | (refine wpList_store_rowTo rfl 27 (.tmp 2) (.tmp 129) rfl rfl R (xRow y a b) rfl rfl 27 (xRow xZ0 0 0) HRR.out (by kernel_rfl) rfl (by kernel_rfl) ?_))
              have hend := HEND.out
              generalize w5.setRow R (xRow y a b) = w8 at hend ⊢
              obtain ⟨⟨u0, u1, u2, u3, u4, u5⟩, u6, u7, u8, u9, u10⟩ := setRow_cellsR hend.2
              exact bodyPost_ret (v := .tuple #[statV y a b, .int .i64 0]) (by simp [results, Tryz.results15, go_sem, statV, u0, u1, u2, u3, u4, u5, u6, u7, u8, u9, u10]) rfl ⟨by rw [HEQ.out.1, HEQ.out.2.1, HEQ.out.2.2.1, HEQ.out.2.2.2], hend.1⟩
            · have hdb : decide (4611686018427387904 < (b : Int)) = true := by unfold W2 at hbl; simp; omega
              have HEQ := Lib.hid (show prX ws = xZ0 ∧ prA ws = 0 ∧ prB ws = 0 ∧ prC ws = 4 from by
                have hc := prC_shp HOK.out (fun h => hbl (HPP.out.2.1 ▸ h.2))
                obtain ⟨h1, h2, h3⟩ := pr_bad (ws := ws) (by rw [hc]; decide)
                exact ⟨h1, h2, h3, hc⟩)

              clear hal hbl
              go_wp2_with fail
              refine (HP1.out _).mono ?_
              rintro e w3 ⟨rfl, rfl⟩
              go_wp2_with fail
              refine (HP2.out _).mono ?_
              rintro e w3 ⟨rfl, rfl⟩

              go_wp2_with (first | (refine wpList_store_rowTo rfl 27 (.tmp 2) (.tmp 93) rfl rfl R (xRow xZ0 0 0) rfl rfl 27 (xRow xZ0 0 0) HRR.out (by kernel_rfl) rfl (by kernel_rfl) ?_))
              have hend := HEND.out
              generalize wk.setRow R (xRow xZ0 0 0) = w8 at hend ⊢
              obtain ⟨⟨u0, u1, u2, u3, u4, u5⟩, u6, u7, u8, u9, u10⟩ := setRow_cellsR hend.2
              exact bodyPost_ret (v := .tuple #[statV xZ0 0 0, .int .i64 4]) (by simp [results, Tryz.results15, go_sem, statV, u0, u1, u2, u3, u4, u5, u6, u7, u8, u9, u10]) rfl ⟨by rw [HEQ.out.1, HEQ.out.2.1, HEQ.out.2.2.1, HEQ.out.2.2.2], hend.1⟩
          · have hda : decide (4611686018427387904 < (a : Int)) = true := by unfold W2 at hal; simp; omega
            have HEQ := Lib.hid (show prX ws = xZ0 ∧ prA ws = 0 ∧ prB ws = 0 ∧ prC ws = 4 from by
              have hc := prC_shp HOK.out (fun h => hal (HPP.out.1 ▸ h.1))
              obtain ⟨h1, h2, h3⟩ := pr_bad (ws := ws) (by rw [hc]; decide)
              exact ⟨h1, h2, h3, hc⟩)

            clear hal
            go_wp2_with fail
            refine (HP1.out _).mono ?_
            rintro e w3 ⟨rfl, rfl⟩
            go_wp2_with fail
            refine (HP2.out _).mono ?_
            rintro e w3 ⟨rfl, rfl⟩

            go_wp2_with (first | (refine wpList_store_rowTo rfl 27 (.tmp 2) (.tmp 93) rfl rfl R (xRow xZ0 0 0) rfl rfl 27 (xRow xZ0 0 0) HRR.out (by kernel_rfl) rfl (by kernel_rfl) ?_))
            have hend := HEND.out
            generalize wk.setRow R (xRow xZ0 0 0) = w8 at hend ⊢
            obtain ⟨⟨u0, u1, u2, u3, u4, u5⟩, u6, u7, u8, u9, u10⟩ := setRow_cellsR hend.2
            exact bodyPost_ret (v := .tuple #[statV xZ0 0 0, .int .i64 4]) (by simp [results, Tryz.results15, go_sem, statV, u0, u1, u2, u3, u4, u5, u6, u7, u8, u9, u10]) rfl ⟨by rw [HEQ.out.1, HEQ.out.2.1, HEQ.out.2.2.1, HEQ.out.2.2.2], hend.1⟩
end Go.Proofs.YthohoendjipleaaGreatDoor
