/-
  Package stat: Rank, walked, at 20 Stats or fewer. Conditions: the Stats have no counts; the loads' parts are from 0 to 2 (but the last one's, where it is said).
-/
import Derived.Test.YthohoendjipleaaDoorSk
import Derived.Test.YthohoendjipleaaDoorM
namespace Go.Proofs.YthohoendjipleaaDoor
open Go.RowKit Go.Sort Go.Lib
set_option linter.unusedSimpArgs false
set_option linter.unusedVariables false

/-- Stats without counts, in a row -/
def Sts (w : World) (G n : Nat) (A B : Nat → Nat) : Prop :=
  G < w.heap.size ∧ ∀ i, i < n → (∀ j, j < 10 → w.cell? ⟨G, i * 11 + j, none⟩ = some (.int .u64 0)) ∧ w.cell? ⟨G, i * 11 + 10, none⟩ = some (.complex .f64 (A i) (B i))
theorem Sts.later {w w' : World} {G n : Nat} {A B : Nat → Nat} (h : Sts w G n A B) (hl : Later w w') : Sts w' G n A B :=
  ⟨Nat.lt_of_lt_of_le h.1 hl.size, fun i hi => ⟨fun j hj => cell_at hl ((h.2 i hi).1 j hj) h.1, cell_at hl (h.2 i hi).2 h.1⟩⟩
def ints (k : Nat) : List Value := (List.range k).map (fun i : Nat => Value.int .i64 (i : Int))
theorem ints_next (k : Nat) : ints k ++ [.int .i64 (k : Int)] = ints (k + 1) := by simp [ints, List.range_succ]
theorem ints_idx (m : Nat) : (idx m).toList.map (encF m) = ints (m + 1) := by
  apply List.ext_getElem
  · simp [ints, idx]
  · intro i h1 h2
    simp only [ints, List.getElem_map, List.getElem_range, Array.getElem_toList, idx, Array.getElem_ofFn, encF]
theorem info3 : (Tryd.prog.info? 3).map (fun i => (i.zero, i.size, i.bytes)) = some (some (.int .i64 0), 1, 8) := by kernel_rfl
theorem ri_next {w W wk V w6 : World} {k : Nat} {v v' : Value} (hl : Later W V) (hsW : W.heap.size = w.heap.size + 1) (hown : wk.ownsRow (w.heap.size + 1) 3 1 v k (ints k)) (h : w6.ownsRow (w.heap.size + 1) 3 1 v' (k + 1) (ints k ++ [.int .i64 (k : Int)])) (hg : V.grownBy w6 v.ownBlock) :
    w6.ownsRow (w.heap.size + 1) 3 1 v' (k + 1) (ints (k + 1)) ∧ Later W w6 := by
  rw [ints_next] at h
  refine ⟨h, ?_⟩
  exact Below.grown hl hg hl.size (fun j hj => by rw [hsW]; exact (hown.lt j hj).1)
theorem may_bad (w : World) : Calls Tryd.prog 43 #[.float .f64 4613937818241073152] w fun e w' => e = .returned (.bool false) ∧ w = w' := by
  have h1 : FloatKind.f64.format.order 4613937818241073152 0 = some .gt := by kernel_rfl
  have h2 : FloatKind.f64.format.order 4613937818241073152 4611686018427387904 = some .gt := by kernel_rfl
  go_enter Tryd.func43, Tryd.ntmps43
  go_wp2
  go_ret
  exact ⟨rfl, rfl⟩
theorem is_bad (w : World) : Calls Tryd.prog 27 #[.complex .f64 4613937818241073152 0] w fun e w' => e = .returned (.bool false) ∧ w = w' := by
  go_enter Tryd.func27, Tryd.ntmps27
  go_wp2_with fail
  refine (parts_is _ _ _).mono ?_
  rintro e w1 ⟨rfl, rfl⟩
  go_wp2_with fail
  refine (may_bad _).mono ?_
  rintro e w2 ⟨rfl, rfl⟩
  go_wp2_with fail
  go_ret
  exact ⟨rfl, rfl⟩
theorem Is_bad (w : World) : Calls Tryd.prog 26 #[.complex .f64 4613937818241073152 0] w fun e w' => e = .returned (.bool false) ∧ w = w' := by
  go_enter Tryd.func26, Tryd.ntmps26
  go_wp2_with fail
  refine (is_bad _).mono ?_
  rintro e w3 ⟨rfl, rfl⟩
  go_wp2_with fail
  go_ret
  exact ⟨rfl, rfl⟩
theorem statIs_bad (w : World) : Calls Tryd.prog 11 #[.agg #[.int .u64 0, .int .u64 0, .int .u64 0, .int .u64 0, .int .u64 0, .int .u64 0, .int .u64 0, .int .u64 0, .int .u64 0, .int .u64 0, .complex .f64 4613937818241073152 0]] w fun e w' => e = .returned (.bool false) ∧ Later w w' := by
  go_enter Tryd.func11, Tryd.ntmps11
  go_wp2_with fail
  refine (Is_bad _).mono ?_
  rintro e w3 ⟨rfl, rfl⟩
  go_wp2_with fail
  go_ret
  exact ⟨rfl, by repeat (first | exact Later.refl _ | assumption | apply Later.alloc | apply Later.drew | apply Later.drewN | refine Later.trans ?_ (by assumption))⟩

set_option maxRecDepth 100000 in
set_option maxHeartbeats 6400000 in
theorem Rank_is (m n : Nat) (hmn : m + 1 = n) (hn : n ≤ 20) (A B : Nat → Nat) (hA : ∀ i, A i ≤ W2) (hB : ∀ i, B i ≤ W2) (G cap : Nat) (w : World) (hSt : Sts w G n A B) (hcap : n ≤ cap) :
    Calls Tryd.prog 20 #[.slice (some ⟨G, 0, none⟩) n cap] w fun e w' => (∃ O ocap, e = .returned (.slice (some ⟨O, 0, none⟩) n ocap) ∧ w.heap.size ≤ O ∧ O < w'.heap.size ∧ n ≤ ocap ∧ ∀ k, k < n → w'.cell? ⟨O, k, none⟩ = some (.int .i64 (((rkO (m := m) (ltR A B))[k]!).val : Int))) ∧ Later w w' := by
  obtain ⟨N, hN⟩ : ∃ N, n = N := ⟨_, rfl⟩
  have hst := run_store_complex Tryd.prog
  obtain ⟨i0, hi0, hiz, his, hib⟩ := info_parts info3
  have HA := Lib.hid hA
  have HB := Lib.hid hB
  have HS0 := Lib.hid hSt
  rw [hN]
  go_enter Tryd.func20, Tryd.ntmps20
  go_wp2_with fail
  obtain ⟨W, hW⟩ : ∃ W, w.alloc (.cells #[.slice (some ⟨G, 0, none⟩) N cap] 58) = W := ⟨_, rfl⟩
  have hsW : W.heap.size = w.heap.size + 1 := by rw [← hW]; simp
  have hlW : Later w W := by rw [← hW]; exact (Later.refl w).alloc _
  have hbx : W.cell? ⟨w.heap.size, 0, none⟩ = some (.slice (some ⟨G, 0, none⟩) N cap) := by rw [← hW, World.cell?_alloc_new]; rfl
  try rw [hW]
  have HW := Lib.hid (And.intro hlW hbx)
  clear hW hlW hbx
  go_loopw [3, 8] (fun v3 v8 wr => ∃ k : Nat, k ≤ n ∧ v8 = .int .i64 k ∧ wr.ownsRow (w.heap.size + 1) 3 1 v3 k (ints k) ∧ Later W wr) (fun _ v8 _ => N - (RowKit.intOf v8).toNat)
  case atStart => exact ⟨0, by omega, rfl, World.ownsRow_nil _ _ _ _, Later.refl _⟩
  case round =>
    obtain ⟨k, hk, rfl, hown, hlr⟩ := hrel
    rename World => wk
    have hS := HS0.out.later (HW.out.1.trans hlr)
    by_cases hlt : k < n
    · have hlt' : k < N := by omega
      have k0 : wk.cell? ⟨G, k * 11, none⟩ = some (.int .u64 0) := (hS.2 k hlt).1 0 (by omega)
      have k1 : wk.cell? ⟨G, k * 11 + 1, none⟩ = some (.int .u64 0) := (hS.2 k hlt).1 1 (by omega)
      have k2 : wk.cell? ⟨G, k * 11 + 2, none⟩ = some (.int .u64 0) := (hS.2 k hlt).1 2 (by omega)
      have k3 : wk.cell? ⟨G, k * 11 + 3, none⟩ = some (.int .u64 0) := (hS.2 k hlt).1 3 (by omega)
      have k4 : wk.cell? ⟨G, k * 11 + 4, none⟩ = some (.int .u64 0) := (hS.2 k hlt).1 4 (by omega)
      have k5 : wk.cell? ⟨G, k * 11 + 5, none⟩ = some (.int .u64 0) := (hS.2 k hlt).1 5 (by omega)
      have k6 : wk.cell? ⟨G, k * 11 + 6, none⟩ = some (.int .u64 0) := (hS.2 k hlt).1 6 (by omega)
      have k7 : wk.cell? ⟨G, k * 11 + 7, none⟩ = some (.int .u64 0) := (hS.2 k hlt).1 7 (by omega)
      have k8 : wk.cell? ⟨G, k * 11 + 8, none⟩ = some (.int .u64 0) := (hS.2 k hlt).1 8 (by omega)
      have k9 : wk.cell? ⟨G, k * 11 + 9, none⟩ = some (.int .u64 0) := (hS.2 k hlt).1 9 (by omega)
      have k10 : wk.cell? ⟨G, k * 11 + 10, none⟩ = some (.complex .f64 (A k) (B k)) := (hS.2 k hlt).2
      have hkl : (k : Int) < (N : Int) := by omega
      have hk0 : (0 : Int) ≤ (k : Int) := by omega
      have hd1 : decide ((k : Int) < (N : Int)) = true := by simp; omega
      have hd2 : decide (k < N) = true := by simp; omega
      have hak := HA.out k
      have hbk := HB.out k
      generalize A k = a at *
      generalize B k = b at *
      have HOWN := Lib.hid hown
      have HLR := Lib.hid hlr
      have HSS := Lib.hid hS
      clear hown hlr hS
      go_wp2_with fail
      refine (statIs_is _ _ _ _ _ _ _ _ _ _ a b hak hbk _).mono ?_
      rintro e w5 ⟨rfl, hb5⟩
      have hl5 : Later wk w5 := ((Later.refl wk).alloc _).trans hb5
      have hown5 := ownsRow_later HOWN.out hl5
      have hL5 := HLR.out.trans hl5
      have HOW5 := Lib.hid hown5
      have HL5 := Lib.hid hL5
      have hs5 : w.heap.size + 1 ≤ w5.heap.size := by have := hL5.size; rw [hsW] at this; exact this
      clear hb5 hl5 hown5 hL5 k0 k1 k2 k3 k4 k5 k6 k7 k8 k9 k10
      go_wp2_with (first | (refine wpList_append_own _ rfl (.tmp 16) (.tmp 18) 60 rfl (w.heap.size + 1) 3 i0 _ 1 8 Tryd.underlying60 hi0 hiz his hib rfl (by decide) _ _ _ rfl (HOW5.out.alloc _) ⟨w5.heap.size, 0, none⟩ 1 1 [.int .i64 (k : Int)] rfl rfl ?c1 ?c2 ?c3 ?c4 ?c5 ?_))
      case c1 => exact fun j u hu => by rw [addr_add, World.cell?_alloc_new]; simpa using hu
      case c2 => exact fun u hu => by revert u; simp [Value.oneCell']
      case c3 => (unfold maxLen; omega)
      case c4 => omega
      case c5 => (simp; omega)
      intro v' w6 hown' hgrow _
      have hnext := ri_next (HL5.out.alloc _) hsW HOW5.out hown' hgrow
      clear hown' hgrow
      go_wp2_with fail
      go_roundw
      case rel => exact ⟨k + 1, by omega, by go_num, hnext.1, hnext.2⟩
      case measure => simp [RowKit.intOf]; omega
    · obtain rfl : k = n := by omega
      subst hN
      have hne : ∀ c1 c2, ¬ ((.slice none 0 0 : Value) = .slice (some c1) k c2) := fun c1 c2 h => by cases h
      have hvn : u3 ≠ .slice none 0 0 := by
        rintro rfl
        rcases hown.2 with ⟨_, h0⟩ | ⟨g, cap', cur, h1, _⟩
        · omega
        · cases h1
      have hown2 := hown
      rw [← hmn, ← ints_idx] at hown2
      obtain ⟨O, ocap, hv3, hO1, hO2, hO3, _, _, hH⟩ := holds_of_ownsRow hown2 hvn
      have hsz := hlr.size
      rw [hsW] at hsz
      have HST := Lib.hid (show Calls Tryd.prog 35 #[.slice (some ⟨O, 0, none⟩) k ocap, .func (.func 36) #[] #[.pointer (some ⟨w.heap.size, 0, none⟩)]] wk fun e w' => e = .returned (.tuple #[]) ∧ SW (encF m) wk O 0 (rkO (ltR A B)) w' from
        stable35 m k hmn hn A B HA.out HB.out w.heap.size G cap O ocap wk (by omega) hS.1 (by omega) (by have := HS0.out.1; omega) (cell_at hlr HW.out.2 (by rw [hsW]; show w.heap.size < _; omega)) (fun i hi => (hS.2 i hi).2) hO2 hH)
      rw [hmn] at hv3
      have HFin := Lib.hid (And.intro hH (And.intro hO1 (And.intro hO2 (And.intro hO3 (HW.out.1.trans hlr)))))
      rw [hv3]
      clear hown hown2 hv3 hH hS hvn hne hlr
      have hd1 : decide ((k : Int) < (k : Int)) = false := by simp
      go_wp2_with fail
      refine HST.out.mono ?_
      rintro e w7 ⟨rfl, hSW⟩
      obtain ⟨hH, hO1, hO2, hO3, hL⟩ := HFin.out
      have hs1 : (rkO (ltR (m := m) A B)).size = m + 1 := (rk_law (ltR A B) (ltR_swo A B)).1
      have hH2 := hSW.holds hO2 (d0 := idx m) hH (by rw [hs1, idx_size])
      have HP := Lib.hid (show (∃ O' ocap', (.returned (.slice (some ⟨O, 0, none⟩) k ocap) : Ending) = .returned (.slice (some ⟨O', 0, none⟩) k ocap') ∧ w.heap.size ≤ O' ∧ O' < w7.heap.size ∧ k ≤ ocap' ∧ ∀ j, j < k → w7.cell? ⟨O', j, none⟩ = some (.int .i64 (((rkO (m := m) (ltR A B))[j]!).val : Int))) ∧ Later w w7 from
        ⟨⟨O, ocap, rfl, by omega, Nat.lt_of_lt_of_le hO2 hSW.le, by omega, fun j hj => by have := (hH2 j (by rw [hs1]; omega)).1; rw [Nat.zero_add] at this; exact this⟩, SW.later hSW hL (by omega)⟩)
      clear hH hH2 hSW hL hs1
      go_wp2_with fail
      go_ret
      exact HP.out
set_option maxRecDepth 100000 in
set_option maxHeartbeats 6400000 in
theorem Rank_bad (n : Nat) (hn : n ≤ 20) (A B : Nat → Nat) (hA : ∀ i, A i ≤ W2) (hB : ∀ i, B i ≤ W2) (G cap : Nat) (w : World) (hSt : Sts w G n A B) (hcap : n + 1 ≤ cap)
    (hbad : (∀ j, j < 10 → w.cell? ⟨G, n * 11 + j, none⟩ = some (.int .u64 0)) ∧ w.cell? ⟨G, n * 11 + 10, none⟩ = some (.complex .f64 4613937818241073152 0)) :
    Calls Tryd.prog 20 #[.slice (some ⟨G, 0, none⟩) (n + 1) cap] w fun e w' => e = .returned (.slice none 0 0) ∧ Later w w' := by
  have HBAD := Lib.hid hbad
  clear hbad
  obtain ⟨N, hN⟩ : ∃ N, n + 1 = N := ⟨_, rfl⟩
  have hst := run_store_complex Tryd.prog
  obtain ⟨i0, hi0, hiz, his, hib⟩ := info_parts info3
  have HA := Lib.hid hA
  have HB := Lib.hid hB
  have HS0 := Lib.hid hSt
  rw [hN]
  go_enter Tryd.func20, Tryd.ntmps20
  go_wp2_with fail
  obtain ⟨W, hW⟩ : ∃ W, w.alloc (.cells #[.slice (some ⟨G, 0, none⟩) N cap] 58) = W := ⟨_, rfl⟩
  have hsW : W.heap.size = w.heap.size + 1 := by rw [← hW]; simp
  have hlW : Later w W := by rw [← hW]; exact (Later.refl w).alloc _
  have hbx : W.cell? ⟨w.heap.size, 0, none⟩ = some (.slice (some ⟨G, 0, none⟩) N cap) := by rw [← hW, World.cell?_alloc_new]; rfl
  try rw [hW]
  have HW := Lib.hid (And.intro hlW hbx)
  clear hW hlW hbx
  go_loopw [3, 8] (fun v3 v8 wr => ∃ k : Nat, k ≤ n ∧ v8 = .int .i64 k ∧ wr.ownsRow (w.heap.size + 1) 3 1 v3 k (ints k) ∧ Later W wr) (fun _ v8 _ => N - (RowKit.intOf v8).toNat)
  case atStart => exact ⟨0, by omega, rfl, World.ownsRow_nil _ _ _ _, Later.refl _⟩
  case round =>
    obtain ⟨k, hk, rfl, hown, hlr⟩ := hrel
    rename World => wk
    have hS := HS0.out.later (HW.out.1.trans hlr)
    by_cases hlt : k < n
    · have hlt' : k < N := by omega
      have k0 : wk.cell? ⟨G, k * 11, none⟩ = some (.int .u64 0) := (hS.2 k hlt).1 0 (by omega)
      have k1 : wk.cell? ⟨G, k * 11 + 1, none⟩ = some (.int .u64 0) := (hS.2 k hlt).1 1 (by omega)
      have k2 : wk.cell? ⟨G, k * 11 + 2, none⟩ = some (.int .u64 0) := (hS.2 k hlt).1 2 (by omega)
      have k3 : wk.cell? ⟨G, k * 11 + 3, none⟩ = some (.int .u64 0) := (hS.2 k hlt).1 3 (by omega)
      have k4 : wk.cell? ⟨G, k * 11 + 4, none⟩ = some (.int .u64 0) := (hS.2 k hlt).1 4 (by omega)
      have k5 : wk.cell? ⟨G, k * 11 + 5, none⟩ = some (.int .u64 0) := (hS.2 k hlt).1 5 (by omega)
      have k6 : wk.cell? ⟨G, k * 11 + 6, none⟩ = some (.int .u64 0) := (hS.2 k hlt).1 6 (by omega)
      have k7 : wk.cell? ⟨G, k * 11 + 7, none⟩ = some (.int .u64 0) := (hS.2 k hlt).1 7 (by omega)
      have k8 : wk.cell? ⟨G, k * 11 + 8, none⟩ = some (.int .u64 0) := (hS.2 k hlt).1 8 (by omega)
      have k9 : wk.cell? ⟨G, k * 11 + 9, none⟩ = some (.int .u64 0) := (hS.2 k hlt).1 9 (by omega)
      have k10 : wk.cell? ⟨G, k * 11 + 10, none⟩ = some (.complex .f64 (A k) (B k)) := (hS.2 k hlt).2
      have hkl : (k : Int) < (N : Int) := by omega
      have hk0 : (0 : Int) ≤ (k : Int) := by omega
      have hd1 : decide ((k : Int) < (N : Int)) = true := by simp; omega
      have hd2 : decide (k < N) = true := by simp; omega
      have hak := HA.out k
      have hbk := HB.out k
      generalize A k = a at *
      generalize B k = b at *
      have HOWN := Lib.hid hown
      have HLR := Lib.hid hlr
      have HSS := Lib.hid hS
      clear hown hlr hS
      go_wp2_with fail
      refine (statIs_is _ _ _ _ _ _ _ _ _ _ a b hak hbk _).mono ?_
      rintro e w5 ⟨rfl, hb5⟩
      have hl5 : Later wk w5 := ((Later.refl wk).alloc _).trans hb5
      have hown5 := ownsRow_later HOWN.out hl5
      have hL5 := HLR.out.trans hl5
      have HOW5 := Lib.hid hown5
      have HL5 := Lib.hid hL5
      have hs5 : w.heap.size + 1 ≤ w5.heap.size := by have := hL5.size; rw [hsW] at this; exact this
      clear hb5 hl5 hown5 hL5 k0 k1 k2 k3 k4 k5 k6 k7 k8 k9 k10
      go_wp2_with (first | (refine wpList_append_own _ rfl (.tmp 16) (.tmp 18) 60 rfl (w.heap.size + 1) 3 i0 _ 1 8 Tryd.underlying60 hi0 hiz his hib rfl (by decide) _ _ _ rfl (HOW5.out.alloc _) ⟨w5.heap.size, 0, none⟩ 1 1 [.int .i64 (k : Int)] rfl rfl ?c1 ?c2 ?c3 ?c4 ?c5 ?_))
      case c1 => exact fun j u hu => by rw [addr_add, World.cell?_alloc_new]; simpa using hu
      case c2 => exact fun u hu => by revert u; simp [Value.oneCell']
      case c3 => (unfold maxLen; omega)
      case c4 => omega
      case c5 => (simp; omega)
      intro v' w6 hown' hgrow _
      have hnext := ri_next (HL5.out.alloc _) hsW HOW5.out hown' hgrow
      clear hown' hgrow
      go_wp2_with fail
      go_roundw
      case rel => exact ⟨k + 1, by omega, by go_num, hnext.1, hnext.2⟩
      case measure => simp [RowKit.intOf]; omega
    · obtain rfl : k = n := by omega
      have hbg : G < w.heap.size := HS0.out.1
      have hb : (∀ j, j < 10 → wk.cell? ⟨G, k * 11 + j, none⟩ = some (.int .u64 0)) ∧ wk.cell? ⟨G, k * 11 + 10, none⟩ = some (.complex .f64 4613937818241073152 0) :=
        ⟨fun j hj => cell_at (HW.out.1.trans hlr) (HBAD.out.1 j hj) hbg, cell_at (HW.out.1.trans hlr) HBAD.out.2 hbg⟩
      have k0 : wk.cell? ⟨G, k * 11, none⟩ = some (.int .u64 0) := (hb).1 0 (by omega)
      have k1 : wk.cell? ⟨G, k * 11 + 1, none⟩ = some (.int .u64 0) := (hb).1 1 (by omega)
      have k2 : wk.cell? ⟨G, k * 11 + 2, none⟩ = some (.int .u64 0) := (hb).1 2 (by omega)
      have k3 : wk.cell? ⟨G, k * 11 + 3, none⟩ = some (.int .u64 0) := (hb).1 3 (by omega)
      have k4 : wk.cell? ⟨G, k * 11 + 4, none⟩ = some (.int .u64 0) := (hb).1 4 (by omega)
      have k5 : wk.cell? ⟨G, k * 11 + 5, none⟩ = some (.int .u64 0) := (hb).1 5 (by omega)
      have k6 : wk.cell? ⟨G, k * 11 + 6, none⟩ = some (.int .u64 0) := (hb).1 6 (by omega)
      have k7 : wk.cell? ⟨G, k * 11 + 7, none⟩ = some (.int .u64 0) := (hb).1 7 (by omega)
      have k8 : wk.cell? ⟨G, k * 11 + 8, none⟩ = some (.int .u64 0) := (hb).1 8 (by omega)
      have k9 : wk.cell? ⟨G, k * 11 + 9, none⟩ = some (.int .u64 0) := (hb).1 9 (by omega)
      have k10 : wk.cell? ⟨G, k * 11 + 10, none⟩ = some (.complex .f64 4613937818241073152 0) := (hb).2
      have hkl : (k : Int) < (N : Int) := by omega
      have hk0 : (0 : Int) ≤ (k : Int) := by omega
      have hd1 : decide ((k : Int) < (N : Int)) = true := by simp; omega
      have hd2 : decide (k < N) = true := by simp; omega
      have HL := Lib.hid (HW.out.1.trans hlr)
      clear hown hlr hS hb
      go_wp2_with fail
      refine (statIs_bad _).mono ?_
      rintro e w5 ⟨rfl, hb5⟩
      have hL5 : Later w w5 := HL.out.trans (((Later.refl wk).alloc _).trans hb5)
      clear hb5 k0 k1 k2 k3 k4 k5 k6 k7 k8 k9 k10
      go_wp2_with fail
      go_ret
      exact ⟨rfl, hL5⟩
theorem Rank_nil (w : World) : Calls Tryd.prog 20 #[.slice none 0 0] w fun e w' => e = .returned (.slice none 0 0) ∧ Later w w' := by
  go_enter Tryd.func20, Tryd.ntmps20
  go_wp2_with fail
  refine wp_loop_rounds 1 ?_
  rw [rounds_succ]
  go_wp2_with fail
  refine (nil35 _ _).mono ?_
  rintro e w1 ⟨rfl, hl1⟩
  have hL := ((Later.refl w).alloc (.cells #[.slice none 0 0] 58)).trans hl1
  clear hl1
  go_wp2_with fail
  go_ret
  exact ⟨rfl, hL⟩
end Go.Proofs.YthohoendjipleaaDoor
