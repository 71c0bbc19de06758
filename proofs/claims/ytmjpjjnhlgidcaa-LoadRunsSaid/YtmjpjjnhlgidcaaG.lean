/-
  The reference of layer 15: the digits of a part. Conditions: the words are those of numbers from 0 to 2.
-/
import Derived.Test.YtmjpjjnhlgidcaaE
import Derived.Deep.MidRow
import Derived.Deep.WholeRow
import Derived.Great.BuildSlice
namespace Go.Proofs.Ytmjpjjnhlgidcaa
open Go.RowKit Go.Sort
set_option linter.unusedSimpArgs false
set_option linter.unusedVariables false

/-- 1080 numbers -/
def rowA (f : Nat → Int) : Array Value := ((List.range 1080).map (fun i : Nat => Value.int .i64 (f i))).toArray
theorem info49 : (Try.prog.info? 49).map (fun i => (i.zero, i.size)) = some (some (.agg (rowA fun _ => 0)), 1080) := by kernel_rfl
set_option maxRecDepth 100000 in
theorem rowA_size (f : Nat → Int) : (rowA f).size = 1080 := by simp [rowA]
set_option maxRecDepth 100000 in
theorem rowA_get (f : Nat → Int) (j : Nat) (h : j < 1080) : (rowA f)[j]? = some (.int .i64 (f j)) := by simp [rowA, h]
set_option maxRecDepth 100000 in
theorem rowA_one (f : Nat → Int) : (rowA f).all (·.oneCell') = true := all_oneCell_toArray (fun v hv => by
  obtain ⟨i, _, rfl⟩ := List.mem_map.1 hv
  rfl)
set_option maxRecDepth 100000 in
theorem info49s (f : Nat → Int) : (Try.prog.info? 49).map (·.size) = some (rowA f).size := by rw [rowA_size]; kernel_rfl
set_option maxRecDepth 100000 in
theorem rowA_cg {f g : Nat → Int} (h : ∀ j, j < 1080 → f j = g j) : rowA f = rowA g := by
  unfold rowA
  congr 1
  apply List.map_congr_left
  intro j hj
  rw [h j (List.mem_range.1 hj)]
/-- 1080 numbers in a block of their own -/
def RowAt (w : World) (O : Nat) (f : Nat → Int) : Prop := O < w.heap.size ∧ ∀ j, j < 1080 → w.cell? ⟨O, j, none⟩ = some (.int .i64 (f j)) ∧ w.frozen? ⟨O, j, none⟩ = false
theorem RowAt.later {w w' : World} {O : Nat} {f : Nat → Int} (h : RowAt w O f) (hl : Later w w') : RowAt w' O f :=
  ⟨Nat.lt_of_lt_of_le h.1 hl.size, fun j hj => ⟨cell_at hl (h.2 j hj).1 h.1, frz_at hl (h.2 j hj).2 h.1⟩⟩
set_option maxRecDepth 100000 in
theorem RowAt.of_block {w : World} {O : Nat} {f : Nat → Int} {t : TypeId} (h : w.heap[O]? = some (.cells (rowA f) t (0, 0))) : RowAt w O f := by
  refine ⟨(Array.getElem?_eq_some_iff.1 h).1, fun j hj => ⟨?_, by simp [World.frozen?, h]⟩⟩
  simp only [World.cell?, h]
  simpa using rowA_get f j hj
set_option maxRecDepth 100000 in
theorem RowAt.set {w : World} {O : Nat} {f g : Nat → Int} (h : RowAt w O f) (i : Nat) (v : Int) (hi : i < 1080) (hg : ∀ j, j < 1080 → g j = if j = i then v else f j) : RowAt (w.setCell ⟨O, i, none⟩ (.int .i64 v)) O g := by
  refine ⟨by simpa using h.1, fun j hj => ⟨?_, by simpa using (h.2 j hj).2⟩⟩
  rw [hg j hj]
  by_cases e : j = i
  · subst e
    rw [if_pos rfl]
    exact World.cell?_setCell_same w _ _ (h.2 j hj).1
  · rw [if_neg e, World.cell?_setCell_other w _ _ _ (by intro h'; injection h' with _ h'; exact e h'.symm)]
    exact (h.2 j hj).1
set_option maxRecDepth 100000 in
theorem RowAt.range {w : World} {O : Nat} {f : Nat → Int} (h : RowAt w O f) : w.rangeAt O 0 (rowA f).toList := fun j v hv => by
  have hj : j < 1080 := by
    have := (List.getElem?_eq_some_iff.1 hv).1
    simpa [rowA] using this
  have h2 := rowA_get f j hj
  have h3 : (rowA f).toList[j]? = some (.int .i64 (f j)) := by simpa using h2
  rw [h3] at hv
  injection hv with hv
  subst hv
  rw [Nat.zero_add]; exact (h.2 j hj).1
/-- the binary digits of a number -/
def dgN (N j : Nat) : Int := ((N / 2 ^ j % 2 : Nat) : Int)
theorem dg_at (m p k : Nat) : dgN (m * 2 ^ p) (p + k) = ((m / 2 ^ k % 2 : Nat) : Int) := by
  unfold dgN
  rw [Nat.add_comm p k, Nat.pow_add, Nat.mul_div_mul_right _ _ (Nat.two_pow_pos p)]
theorem dg_low (m p j : Nat) (h : j < p) : dgN (m * 2 ^ p) j = 0 := by
  unfold dgN
  obtain ⟨q, rfl⟩ : ∃ q, p = j + (q + 1) := ⟨p - j - 1, by omega⟩
  rw [Nat.pow_add, Nat.pow_succ, Nat.mul_comm (2 ^ j), ← Nat.mul_assoc, Nat.mul_div_cancel _ (Nat.two_pow_pos j), ← Nat.mul_assoc, Nat.mul_mod_left]; rfl
theorem dg_high (m p k j : Nat) (h : m / 2 ^ k = 0) (hj : p + k ≤ j) : dgN (m * 2 ^ p) j = 0 := by
  unfold dgN
  have h1 : m < 2 ^ k := by
    rcases Nat.lt_or_ge m (2 ^ k) with h1 | h1
    · exact h1
    · have := Nat.div_pos h1 (Nat.two_pow_pos k); omega
  have h2 : m * 2 ^ p < 2 ^ j := by
    have a1 : m * 2 ^ p < 2 ^ k * 2 ^ p := Nat.mul_lt_mul_of_pos_right h1 (Nat.two_pow_pos p)
    have a2 : 2 ^ k * 2 ^ p ≤ 2 ^ j := by rw [← Nat.pow_add]; exact Nat.pow_le_pow_right (by omega) (by omega)
    omega
  rw [Nat.div_eq_of_lt h2]; rfl
theorem setO (V : World) (S j b o : Nat) (v : Value) (h : b ≠ S) : (V.setCell ⟨S, j, none⟩ v).cell? ⟨b, o, none⟩ = V.cell? ⟨b, o, none⟩ :=
  World.cell?_setCell_other V _ _ _ (by intro h'; injection h' with h'; exact h h'.symm)
theorem Later.setRow {a b : World} (h : Later a b) (g : Nat) (cs : Array Value) (hg : a.heap.size ≤ g) : Later a (b.setRow g cs) :=
  Below.trans h (⟨rfl, rfl, rfl, by simp [World.setRow], fun k hk => setRow_other b g k cs (by omega)⟩ : Below a.heap.size b (b.setRow g cs))
set_option maxRecDepth 100000 in
set_option maxHeartbeats 2000000 in
theorem digits_of (y x : Nat) (hx : x ≤ W2) (hW : ∀ w, Calls Try.prog 33 #[.float .f64 y] w fun e w' => e = .returned (.tuple #[.int .u64 (magW x : Nat), .int .i64 ((plcW x : Int) - 1074)]) ∧ w = w') (w : World) : Calls Try.prog 36 #[.float .f64 y] w fun e w' => e = .returned (.agg (rowA (dgN (valW x)))) ∧ Later w w' := by
  obtain ⟨hz, hi49⟩ := zero_of_info info49
  obtain ⟨Z, hZ⟩ : ∃ Z, rowA (fun _ => 0) = Z := ⟨_, rfl⟩
  rw [hZ] at hz
  have HW := Lib.hid hW
  clear hW
  have hpl := plc_two hx
  have hmb := magW_lt x
  have hval : valW x = magW x * 2 ^ plcW x := rfl
  obtain ⟨p, hp⟩ : ∃ p, plcW x = p := ⟨_, rfl⟩
  obtain ⟨m, hm⟩ : ∃ m, magW x = m := ⟨_, rfl⟩
  rw [hp] at HW hpl hval
  rw [hm] at HW hmb hval
  rw [hval]
  clear hp hm hval
  obtain ⟨D, hD⟩ : ∃ D, rowA (dgN (m * 2 ^ p)) = D := ⟨_, rfl⟩
  rw [hD]
  have HDD := Lib.hid hD
  clear hD
  have hs0 : RowAt ((w.alloc (.cells Z 49)).alloc (.cells Z 49)) (w.heap.size + 1) (fun _ => 0) := by
    have := heap_alloc_last (w.alloc (.cells Z 49)) (.cells Z 49)
    rw [show (w.alloc (.cells Z 49)).heap.size = w.heap.size + 1 by simp, ← hZ] at this
    rw [← hZ]
    exact RowAt.of_block this
  have hr0 : ((w.alloc (.cells Z 49)).alloc (.cells Z 49)).heap[w.heap.size]? = some (.cells Z 49 (0, 0)) :=
    (Below.block ((Later.refl (w.alloc (.cells Z 49))).alloc (.cells Z 49)) _ (by simp)).trans (heap_alloc_last w (.cells Z 49))
  have hl0 : Later w ((w.alloc (.cells Z 49)).alloc (.cells Z 49)) := ((Later.refl w).alloc _).alloc _
  have H0 := Lib.hid (And.intro hs0 (And.intro hr0 hl0))
  have hZs : Z.size = 1080 := by rw [← hZ]; exact rowA_size _
  clear hs0 hr0 hl0 hZ
  go_enter Try.func36, Try.ntmps36
  go_wp2_with fail
  refine (HW.out _).mono ?_
  rintro e w1 ⟨rfl, hw1⟩
  obtain ⟨hs, hr, hl⟩ := H0.out
  rw [hw1] at hs hr hl
  clear hw1 H0
  obtain ⟨R, hR⟩ : ∃ R, w.heap.size = R := ⟨_, rfl⟩
  have hRw : w.heap.size ≤ R := by omega
  rw [hR] at hs hr ⊢
  clear hR
  have hI0 : RowAt w1 (R + 1) (fun j => if j < p + 0 then dgN (m * 2 ^ p) j else 0) := by
    have e : (fun j => if j < p + 0 then dgN (m * 2 ^ p) j else 0) = (fun _ : Nat => (0 : Int)) := by
      funext j
      split
      · next h => exact dg_low m p j (by omega)
      · rfl
    rw [e]; exact hs
  clear hs
  go_wp2_with fail
  go_loopw [4, 6] (fun s4 s6 wr => ∃ k i M : Nat, k ≤ 53 ∧ i = p + k ∧ M = m / 2 ^ k ∧ s4 = .int .u64 (M : Int) ∧ s6 = .int .i64 (i : Int) ∧ RowAt wr (R + 1) (fun j => if j < i then dgN (m * 2 ^ p) j else 0) ∧ wr.heap[R]? = some (.cells Z 49 (0, 0)) ∧ Later w wr) (fun s4 _ _ => (RowKit.intOf s4).toNat)
  case atStart => exact ⟨0, p, m, by omega, by omega, by rw [Nat.pow_zero, Nat.div_one], rfl, by simp, hI0, hr, hl⟩
  case round =>
    clear hI0 hr hl
    obtain ⟨k, i, M, hk, hi, hM, rfl, rfl, hrow, hr, hl⟩ := hrel
    rename World => wk
    by_cases hM0 : M = 0
    · have hd1 : decide ((0 : Int) < (M : Int)) = false := by simp; omega
      have hd2 : decide (0 < M) = false := by simp; omega
      have ef : rowA (fun j => if j < i then dgN (m * 2 ^ p) j else 0) = rowA (dgN (m * 2 ^ p)) := rowA_cg (fun j hj => by
        split
        · rfl
        · next h => exact (dg_high m p k j (by omega) (by omega)).symm)
      have hrange := hrow.range
      rw [ef] at hrange
      have hD := HDD.out
      have hDs : D.size = 1080 := by rw [← hD]; exact rowA_size _
      have hDo : D.all (·.oneCell') = true := by rw [← hD]; exact rowA_one _
      have hDi : (Try.prog.info? 49).map (·.size) = some D.size := by rw [← hD]; exact info49s _
      rw [hD] at hrange
      have HX := Lib.hid (And.intro hi (And.intro hM (And.intro hM0 (And.intro ef hD))))
      have HRG := Lib.hid hrange
      clear hi hM hM0 ef hD hrow hrange
      have hlD : D.toList.length = 1080 := by simpa using hDs
      go_wp2_with (first | (refine wpList_load_mid rfl 49 (.tmp 3) rfl (R + 1) 0 rfl D.toList _ HRG.out Try.underlying49 rfl (by rw [hi49, hlD]) ?_) | (refine wpList_store_rowTo rfl 49 (.tmp 2) (.tmp 25) rfl rfl R D rfl rfl 49 Z hr hDi (by rw [hZs, hDs]) hDo ?_))
      have hgR := setRow_heap wk R Z D 49 (0,0) hr
      have hlR := hl.setRow R D hRw
      refine bodyPost_ret_by (v := .agg D) ?_ rfl ⟨rfl, hlR⟩
      refine results_cell_row (p := 2) (ty := 49) rfl _ _ R 49 D (0,0) _ ?_ hgR Try.underlying49 rfl hDi
      simp [Act.put]
    · have hk53 : k < 53 := by
        rcases Nat.lt_or_ge k 53 with h | h
        · exact h
        · obtain rfl : k = 53 := by omega
          exfalso; apply hM0; rw [hM]; exact Nat.div_eq_of_lt (by omega)
      have hd1 : decide ((0 : Int) < (M : Int)) = true := by simp; omega
      have hd2 : decide (0 < M) = true := by simp; omega
      have hMb : M ≤ m := by rw [hM]; exact Nat.div_le_self _ _
      have hi0 : (0 : Int) ≤ (i : Int) := by omega
      have hi1 : (i : Int) < 1080 := by omega
      have hc := hrow.2 i (by omega)
      dsimp only at hc
      rw [if_neg (by omega)] at hc
      obtain ⟨c1, c2⟩ := hc
      obtain ⟨b, hb⟩ : ∃ b, M % 2 = b := ⟨_, rfl⟩
      have hb1 : (M : Int) % 2 = (b : Int) := by omega
      have hb2 : wrap64 (b : Int) = (b : Int) := by simp only [wrap64]; omega
      have hdg : dgN (m * 2 ^ p) i = (b : Int) := by rw [hi, dg_at, ← hM, hb]
      have hnx := hrow.set (g := fun j => if j < i + 1 then dgN (m * 2 ^ p) j else 0) i (b : Int) (by omega) (fun j hj => by
        by_cases e : j = i
        · subst e; rw [if_pos (by omega), if_pos rfl, hdg]
        · rw [if_neg e]
          by_cases h : j < i
          · rw [if_pos (by omega), if_pos h]
          · rw [if_neg (by omega), if_neg h])
      have hM2 : M / 2 = m / 2 ^ (k + 1) := by rw [hM, Nat.div_div_eq_div_mul, Nat.pow_succ]
      have hr2 : (wk.setCell ⟨R + 1, i, none⟩ (.int .i64 (b : Int))).heap[R]? = some (.cells Z 49 (0, 0)) := (Below.heap_setCell wk _ _ _ (by show R ≠ R + 1; omega)).trans hr
      have hl2 := hl.setCell ⟨R + 1, i, none⟩ (.int .i64 (b : Int)) (by show w.heap.size ≤ R + 1; omega)
      have HN := Lib.hid (And.intro hnx (And.intro hr2 (And.intro hl2 (And.intro hM2 (And.intro hi (And.intro hk53 hM0))))))
      have HML := Lib.hid (Nat.lt_of_le_of_lt hMb hmb)
      clear hnx hr2 hl2 hM2 hi hM hrow hr hl hdg hb hk hM0 hMb hmb hpl hk53 hx HW hi49 hZs hz
      go_wp2_with fail
      have hMM : IntKind.u64.wrap ((M : Int) / 2) = ((M / 2 : Nat) : Int) := by
        have := HML.out
        rw [IntKind.wrap_u64]
        omega
      rw [hMM]
      refine ⟨⟨k + 1, i + 1, M / 2, by have := HN.out.2.2.2.2.2.1; omega, by have := HN.out.2.2.2.2.1; omega, HN.out.2.2.2.1, rfl, by rw [Int.natCast_add]; rfl, HN.out.1, HN.out.2.1, HN.out.2.2.1⟩, ?_⟩
      have := HN.out.2.2.2.2.2.2
      show (((M / 2 : Nat) : Int)).toNat < ((M : Int)).toNat
      omega
theorem digits_is (x : Nat) (hx : x ≤ W2) (w : World) : Calls Try.prog 36 #[.float .f64 x] w fun e w' => e = .returned (.agg (rowA (dgN (valW x)))) ∧ Later w w' :=
  digits_of x x hx (fun w => whole_is x hx w) w
end Go.Proofs.Ytmjpjjnhlgidcaa
