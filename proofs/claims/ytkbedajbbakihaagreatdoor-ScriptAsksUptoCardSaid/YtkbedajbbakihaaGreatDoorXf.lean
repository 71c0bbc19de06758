/-
  Texts of this proof, put together (DcZ, RwZ, Nw): each part's first words say what it holds. Conditions: as each part says.
-/
import Derived.Test.YtkbedajbbakihaaGreatDoorXd
import Derived.Test.YtkbedajbbakihaaGreatDoorQb
import Derived.Test.YtkbedajbbakihaaGreatDoorQb1
import Derived.Test.YtkbedajbbakihaaGreatDoorQk
import Derived.Test.YtkbedajbbakihaaGreatDoorQd
/-
  The reference's numbers as texts: Decimal and signed. Conditions: none.
-/
namespace Go.Proofs.YtkbedajbbakihaaGreatDoor
open Go.RowKit Go.Sort Go.Lib
set_option linter.unusedSimpArgs false
set_option linter.unusedVariables false

set_option maxRecDepth 100000 in
theorem refDec_is (u : Nat) (hu : u ≤ 18446744073709551615) : ∀ w : World, Calls Tryz.prog 71 #[.int .u64 u] w fun e w' => e = .returned (.string ⟨(Lib.decDigits u).toArray⟩) ∧ Later w w' := by
  induction u using Nat.strongRecOn with
  | ind u ih =>
    intro w
    obtain ⟨n, hn⟩ : ∃ n : Int, n = (u : Int) := ⟨_, rfl⟩
    rw [← hn]
    have n0 : 0 ≤ n := by omega
    have n1 : n ≤ 18446744073709551615 := by omega
    have hcv : ∀ (W : World) (Z : Nat), W.heap[Z]? = some (.cells #[.int .u8 (48 + n % 10)] 5 (0, 0)) → (convert 22 9 (.slice (some ⟨Z, 0, none⟩) 1 1)).run Tryz.prog W = .ok (.string ⟨[UInt8.ofNat (48 + u % 10)].toArray⟩) W := fun W Z hZ => by
      refine run_convert_bytes_back (P := Tryz.prog) W 22 9 5 ⟨Z, 0, none⟩ 1 [UInt8.ofNat (48 + u % 10)] Tryz.underlying22 Tryz.underlying5 Tryz.underlying9 (fun j hj => ?_)
      obtain rfl : j = 0 := by simpa using hj
      rw [Addr.add_lit, Lib.cell_of_heap hZ]
      simp [hn]
      omega
    have HN := Lib.hid hn
    have HI := Lib.hid ih
    clear hn ih
    have a1 : IntKind.u64.wrap (48 + n % 10) = 48 + n % 10 := IntWalk.u64_in _ (by omega)
    have a2 : IntKind.u8.wrap (48 + n % 10) = 48 + n % 10 := IntWalk.u8_in _ (by omega)
    by_cases h10 : n ≤ 9
    · have ht : decide (n < 10) = true := decide_eq_true (by omega)
      have ed : [UInt8.ofNat (48 + u % 10)] = Lib.decDigits u := by
        have := HN.out
        rw [Lib.decDigits, dif_pos (by omega), Nat.mod_eq_of_lt (by omega)]
      rw [← ed]
      rw [show n % 10 = n by omega] at a1 a2 hcv
      obtain ⟨D, hD⟩ : ∃ D, D = (⟨[UInt8.ofNat (48 + u % 10)].toArray⟩ : ByteArray) := ⟨_, rfl⟩
      rw [← hD] at hcv ⊢
      have hc2 := hcv (w.alloc (.cells #[.int .u8 (48 + n)] 5)) w.heap.size (MapKept.heap_alloc w _).1
      clear hu ed hcv hD
      go_enter Tryz.func71, Tryz.ntmps71
      go_wp2_with fail
      go_ret
      exact ⟨rfl, by repeat (first | exact Later.refl _ | assumption | apply Later.alloc | apply Later.drew | apply Later.drewN | refine Later.trans ?_ (by assumption))⟩
    · have ht : decide (n < 10) = false := decide_eq_false (by omega)
      have hq : n / 10 = ((u / 10 : Nat) : Int) := by have := HN.out; omega
      have hl := digits_le (u / 10) (by omega)
      have ed : Lib.decDigits u = Lib.decDigits (u / 10) ++ [UInt8.ofNat (48 + u % 10)] := by
        have := HN.out
        rw [Lib.decDigits, dif_neg (by omega)]
      rw [ed, ← str_app]
      have IH := Lib.hid (show ∀ w : World, Calls Tryz.prog 71 #[.int .u64 (n / 10)] w fun e w' => e = .returned (.string ⟨(Lib.decDigits (u / 10)).toArray⟩) ∧ Later w w' by
        rw [hq]; exact HI.out (u / 10) (by have := HN.out; omega) (by omega))
      obtain ⟨L, hL⟩ : ∃ L, L = (⟨(Lib.decDigits (u / 10)).toArray⟩ : ByteArray) := ⟨_, rfl⟩
      have hLs : L.size ≤ 20 := by rw [hL]; exact hl
      rw [← hL] at IH ⊢
      obtain ⟨D, hD⟩ : ∃ D, D = (⟨[UInt8.ofNat (48 + u % 10)].toArray⟩ : ByteArray) := ⟨_, rfl⟩
      have hDs : D.size = 1 := by rw [hD]; rfl
      rw [← hD] at hcv ⊢
      have hcat : ¬ 9223372036854775807 < L.size + 1 := by omega
      have b1 : n.tdiv 10 = n / 10 := Int.tdiv_eq_ediv_of_nonneg n0
      have b2 : n.tmod 10 = n % 10 := Int.tmod_eq_emod_of_nonneg n0
      have b3 : IntKind.u64.wrap (n / 10) = n / 10 := IntWalk.u64_in _ (by omega)
      clear hl ed hq hu hL hD
      go_enter Tryz.func71, Tryz.ntmps71
      go_wp2_with fail
      refine wp_region_iv mixedS (fun D' a' W' => ∃ x0 x1 x2 x3 x4 x5 x6 x7 x8 x9 y2, a' = ⟨#[.int .u64 n, undef, y2, .int .u64 n, .bool false, undef, undef, undef, undef, undef, x0, x1, x2, x3, x4, x5, x6, x7, x8, x9], []⟩ ∧ (Later w W') ∧ (D' 7 = true → ∃ Z, x7 = .slice (some ⟨Z, 0, none⟩) 1 1 ∧ W'.heap[Z]? = some (.cells #[.int .u8 (48 + n % 10)] 5 (0, 0))) ∧ (D' 0 = true → x0 = .int .u64 n) ∧ (D' 1 = true → x1 = .int .u64 (n / 10)) ∧ (D' 2 = true → x2 = .string L) ∧ (D' 3 = true → x3 = .int .u64 n) ∧ (D' 4 = true → x4 = .int .u64 (n % 10)) ∧ (D' 5 = true → x5 = .int .u64 (48 + n % 10)) ∧ (D' 6 = true → x6 = .int .u8 (48 + n % 10)) ∧ (D' 8 = true → x8 = .string D) ∧ (D' 9 = true → x9 = .string (L ++ D)) ∧ (D' 10 = true → y2 = .string (L ++ D))) (by kernel_rfl) ?_ ?_ ?_
      · exact ⟨undef, undef, undef, undef, undef, undef, undef, undef, undef, undef, _, rfl, (Later.refl w).drew, (fun h => by cases h), (fun h => by cases h), (fun h => by cases h), (fun h => by cases h), (fun h => by cases h), (fun h => by cases h), (fun h => by cases h), (fun h => by cases h), (fun h => by cases h), (fun h => by cases h), (fun h => by cases h)⟩
      · intro i D' a' W' hi hDi hdep hcl hI
        obtain ⟨x0, x1, x2, x3, x4, x5, x6, x7, x8, x9, y2, rfl, gL, g7, f0, f1, f2, f3, f4, f5, f6, f8, f9, f10⟩ := hI
        have hi' : i = 0 ∨ i = 1 ∨ i = 2 ∨ i = 3 ∨ i = 4 ∨ i = 5 ∨ i = 6 ∨ i = 7 ∨ i = 8 ∨ i = 9 ∨ i = 10 := by
          have : i < 11 := hi
          omega
        rcases hi' with rfl | rfl | rfl | rfl | rfl | rfl | rfl | rfl | rfl | rfl | rfl
        · skip
          refine wpOp_step rfl (fun K' hK' => ?_)
          rw [if_pos (by rfl)]
          go_simp
          exact hK' _ _ ⟨_, x1, x2, x3, x4, x5, x6, x7, x8, x9, y2, rfl, gL, g7, (fun _ => rfl), f1, f2, f3, f4, f5, f6, f8, f9, f10⟩
        · have q0 := f0 (hdep 0 (by kernel_rfl))
          subst q0
          refine wpOp_step rfl (fun K' hK' => ?_)
          rw [if_pos (by rfl)]
          go_simp
          exact hK' _ _ ⟨_, _, x2, x3, x4, x5, x6, x7, x8, x9, y2, rfl, gL, g7, (fun _ => rfl), (fun _ => rfl), f2, f3, f4, f5, f6, f8, f9, f10⟩
        · have q1 := f1 (hdep 1 (by kernel_rfl))
          subst q1
          refine wpOp_step rfl (fun K' hK' => ?_)
          rw [if_pos (by rfl)]
          go_simp
          refine (IH.out W').mono ?_
          rintro e w1 ⟨rfl, hl1⟩
          exact hK' _ _ ⟨x0, _, _, x3, x4, x5, x6, x7, x8, x9, y2, rfl, (gL.trans hl1), (fun h => by obtain ⟨Z, h1, h2⟩ := g7 h; exact ⟨Z, h1, (hl1.block Z (Array.getElem?_eq_some_iff.1 h2).1).trans h2⟩), f0, (fun _ => rfl), (fun _ => rfl), f3, f4, f5, f6, f8, f9, f10⟩
        · skip
          refine wpOp_step rfl (fun K' hK' => ?_)
          rw [if_pos (by rfl)]
          go_simp
          exact hK' _ _ ⟨x0, x1, x2, _, x4, x5, x6, x7, x8, x9, y2, rfl, gL, g7, f0, f1, f2, (fun _ => rfl), f4, f5, f6, f8, f9, f10⟩
        · have q3 := f3 (hdep 3 (by kernel_rfl))
          subst q3
          refine wpOp_step rfl (fun K' hK' => ?_)
          rw [if_pos (by rfl)]
          go_simp
          exact hK' _ _ ⟨x0, x1, x2, _, _, x5, x6, x7, x8, x9, y2, rfl, gL, g7, f0, f1, f2, (fun _ => rfl), (fun _ => rfl), f5, f6, f8, f9, f10⟩
        · have q4 := f4 (hdep 4 (by kernel_rfl))
          subst q4
          refine wpOp_step rfl (fun K' hK' => ?_)
          rw [if_pos (by rfl)]
          go_simp
          exact hK' _ _ ⟨x0, x1, x2, x3, _, _, x6, x7, x8, x9, y2, rfl, gL, g7, f0, f1, f2, f3, (fun _ => rfl), (fun _ => rfl), f6, f8, f9, f10⟩
        · have q5 := f5 (hdep 5 (by kernel_rfl))
          subst q5
          refine wpOp_step rfl (fun K' hK' => ?_)
          rw [if_pos (by rfl)]
          go_simp
          exact hK' _ _ ⟨x0, x1, x2, x3, x4, _, _, x7, x8, x9, y2, rfl, gL, g7, f0, f1, f2, f3, f4, (fun _ => rfl), (fun _ => rfl), f8, f9, f10⟩
        · have q6 := f6 (hdep 6 (by kernel_rfl))
          subst q6
          refine wpOp_step rfl (fun K' hK' => ?_)
          rw [if_pos (by rfl)]
          go_simp
          exact hK' _ _ ⟨x0, x1, x2, x3, x4, x5, _, _, x8, x9, y2, rfl, (gL.alloc _), (fun _ => ⟨W'.heap.size, rfl, (MapKept.heap_alloc W' _).1⟩), f0, f1, f2, f3, f4, f5, (fun _ => rfl), f8, f9, f10⟩
        · obtain ⟨Z, q7, hZ⟩ := g7 (hdep 7 (by kernel_rfl))
          subst q7
          have hc := hcv W' Z hZ
          refine wpOp_step rfl (fun K' hK' => ?_)
          rw [if_pos (by rfl)]
          go_simp
          exact hK' _ _ ⟨x0, x1, x2, x3, x4, x5, x6, _, _, x9, y2, rfl, gL, (fun _ => ⟨Z, rfl, hZ⟩), f0, f1, f2, f3, f4, f5, f6, (fun _ => rfl), f9, f10⟩
        · have q2 := f2 (hdep 2 (by kernel_rfl))
          have q8 := f8 (hdep 8 (by kernel_rfl))
          subst q2
          subst q8
          refine wpOp_step rfl (fun K' hK' => ?_)
          rw [if_pos (by rfl)]
          go_simp
          exact hK' _ _ ⟨x0, x1, _, x3, x4, x5, x6, x7, _, _, y2, rfl, gL, g7, f0, f1, (fun _ => rfl), f3, f4, f5, f6, (fun _ => rfl), (fun _ => rfl), f10⟩
        · have q9 := f9 (hdep 9 (by kernel_rfl))
          subst q9
          refine wpOp_step rfl (fun K' hK' => ?_)
          rw [if_pos (by rfl)]
          go_simp
          exact hK' _ _ ⟨x0, x1, x2, x3, x4, x5, x6, x7, x8, _, _, rfl, gL, g7, f0, f1, f2, f3, f4, f5, f6, f8, (fun _ => rfl), (fun _ => rfl)⟩
      · rintro D' a' W' hD' ⟨x0, x1, x2, x3, x4, x5, x6, x7, x8, x9, y2, rfl, gL, g7, f0, f1, f2, f3, f4, f5, f6, f8, f9, f10⟩
        have q10 := f10 (hD' 10 (by decide))
        subst q10
        clear f0 f1 f2 f3 f4 f5 f6 f8 f9 f10 g7
        have HGL := Lib.hid gL
        clear gL
        go_wp2_with fail
        go_ret
        exact ⟨rfl, HGL.out⟩
end Go.Proofs.YtkbedajbbakihaaGreatDoor

/-
  Lists of texts in memory; the reference's join and all. Conditions: the texts are not too long.
-/
namespace Go.Proofs.YtkbedajbbakihaaGreatDoor
open Go.RowKit Go.Sort Go.Lib
set_option linter.unusedSimpArgs false
set_option linter.unusedVariables false

/-- v is a slice over texts -/
def SL (w : World) (v : Value) (ws : List (List UInt8)) : Prop := ∃ ao cap, v = .slice ao ws.length cap ∧ (ws.length = 0 ∨ ∃ X off, ao = some ⟨X, off, none⟩ ∧ ∀ j, j < ws.length → w.cell? ⟨X, off + j, none⟩ = some (.string ⟨(wrd ws j).toArray⟩))
theorem SL.later {w w' : World} {v : Value} {ws : List (List UInt8)} (h : SL w v ws) (hl : Later w w') : SL w' v ws := by
  obtain ⟨ao, cap, h1, h2⟩ := h
  refine ⟨ao, cap, h1, h2.imp id ?_⟩
  rintro ⟨X, off, h3, h4⟩
  exact ⟨X, off, h3, fun j hj => cell_at hl (h4 j hj) (World.block_lt_of_cell? _ _ (h4 j hj))⟩
theorem SL.of_owns {w : World} {base : Nat} {v : Value} {ws : List (List UInt8)} (h : w.ownsRow base 9 1 v ws.length (wsC ws)) : SL w v ws := by
  rcases h.2 with ⟨rfl, h0⟩ | ⟨g, cap, cur, rfl, _, hg, _⟩
  · exact ⟨none, 0, by rw [h0], .inl h0⟩
  · refine ⟨_, cap, rfl, .inr ⟨g, 0, rfl, fun j hj => ?_⟩⟩
    have := h.cells (g := g) rfl j _ (wsC_get hj)
    rw [show (⟨g, 0, none⟩ : Addr).add j = ⟨g, j, none⟩ by unfold Addr.add; split <;> simp_all] at this
    rw [Nat.zero_add]
    exact this
theorem jn_snoc (ws : List (List UInt8)) (a : List UInt8) (h : ws ≠ []) : jn (ws ++ [a]) = jn ws ++ 32 :: a := by
  induction ws with
  | nil => exact absurd rfl h
  | cons b t ih =>
    cases t with
    | nil => rfl
    | cons c t =>
      rw [List.cons_append, List.cons_append, jn, jn, ← List.cons_append, ih (by simp)]
      simp
theorem wrd_take (ws : List (List UInt8)) (k : Nat) (h : k < ws.length) : ws.take (k + 1) = ws.take k ++ [wrd ws k] := by
  rw [List.take_add_one, List.getElem?_eq_getElem h]
  simp [wrd, List.getD_eq_getElem?_getD, h]
theorem sumL_app (a b : List (List UInt8)) : sumL (a ++ b) = sumL a + sumL b := by simp [sumL]
theorem sumL_take (ws : List (List UInt8)) (k : Nat) : sumL (ws.take k) ≤ sumL ws := by
  have h := congrArg sumL (List.take_append_drop k ws)
  rw [sumL_app] at h
  omega
theorem sumL_snoc (ws : List (List UInt8)) (a : List UInt8) : sumL (ws ++ [a]) = sumL ws + a.length := by simp [sumL]
set_option maxRecDepth 100000 in
theorem refJoin_is (v : Value) (ws : List (List UInt8)) (w : World) (h : SL w v ws) (hl : sumL ws + ws.length ≤ 1000000000) : Calls Tryz.prog 65 #[v] w fun e w' => e = .returned (.string ⟨(jn ws).toArray⟩) ∧ w' = w := by
  obtain ⟨ao, cap, rfl, hx⟩ := h
  obtain ⟨n, hn⟩ : ∃ n, ws.length = n := ⟨_, rfl⟩
  rw [hn] at hx hl ⊢
  have HX := Lib.hid hx
  have HN := Lib.hid hn
  have HL := Lib.hid hl
  have hn9 : n ≤ 1000000000 := by omega
  clear hx hn hl
  go_enter Tryz.func65, Tryz.ntmps65
  go_wp2_with fail
  go_loop [3, 4] (fun s i => ∃ k : Nat, k ≤ n ∧ i = .int .i64 k ∧ s = .string ⟨(jn (ws.take k)).toArray⟩) (fun _ i => n - (RowKit.intOf i).toNat)
  case atStart => exact ⟨0, Nat.zero_le _, rfl, rfl⟩
  case round =>
    obtain ⟨k, hk, rfl, rfl⟩ := hrel
    by_cases hlt : k < n
    · obtain ⟨X, off, rfl, hc⟩ := HX.out.resolve_left (by omega)
      have hcell := hc k hlt
      have hj := jn_len (ws.take k)
      have hs1 := sumL_take ws k
      have hs2 := sumL_take ws (k + 1)
      have ht := wrd_take ws k (by have := HN.out; omega)
      rw [ht, sumL_snoc] at hs2
      have hlk := List.length_take_le k ws
      obtain ⟨A, hA⟩ : ∃ A : ByteArray, A = ⟨(jn (ws.take k)).toArray⟩ := ⟨_, rfl⟩
      obtain ⟨B, hB⟩ : ∃ B : ByteArray, B = ⟨(wrd ws k).toArray⟩ := ⟨_, rfl⟩
      have hAs : A.size ≤ 1000000000 := by have := HL.out; rw [hA, size_mk]; omega
      have hBs : B.size ≤ 1000000000 := by have := HL.out; rw [hB, size_mk]; omega
      rw [← hB] at hcell
      rw [← hA]
      have d0 : decide ((k : Int) < (n : Int)) = true := decide_eq_true (by omega)
      by_cases h0 : k = 0
      · have h0i : decide ((0 : Int) < (k : Int)) = false := decide_eq_false (by omega)
        have h0n : decide (0 < k) = false := decide_eq_false (by omega)
        have h0p : ¬ 0 < k := by omega
        have HREL := Lib.hid (show Value.string (A ++ B) = .string ⟨(jn (ws.take (k + 1))).toArray⟩ by
          rw [ht, hA, hB, str_app, h0]
          rfl)
        clear hc hj hs1 hs2 ht hlk hA hB h0
        go_wp2_with fail
        go_round
        case rel => exact ⟨k + 1, by omega, by go_num, HREL.out⟩
        case measure => simp [RowKit.intOf]; omega
      · have h0i : decide ((0 : Int) < (k : Int)) = true := decide_eq_true (by omega)
        have h0n : decide (0 < k) = true := decide_eq_true (by omega)
        have h0p : 0 < k := by omega
        have HREL := Lib.hid (show Value.string (A ++ ⟨#[32]⟩ ++ B) = .string ⟨(jn (ws.take (k + 1))).toArray⟩ by
          have h1 : (⟨#[32]⟩ : ByteArray) = ⟨[32].toArray⟩ := rfl
          rw [ht, jn_snoc _ _ (by intro h; have h2 := congrArg List.length h; rw [List.length_take, List.length_nil] at h2; have := HN.out; omega), hA, hB, h1, str_app, str_app]
          simp)
        clear hc hj hs1 hs2 ht hlk hA hB h0
        go_wp2_with fail
        go_round
        case rel => exact ⟨k + 1, by omega, by go_num, HREL.out⟩
        case measure => simp [RowKit.intOf]; omega
    · have hw : ws.take k = ws := List.take_of_length_le (by have := HN.out; omega)
      rw [hw]
      clear hw
      go_wp2_with fail
      go_ret
      exact ⟨rfl, rfl⟩
end Go.Proofs.YtkbedajbbakihaaGreatDoor

/-
  The reference's names and rights. Conditions: none.
-/
namespace Go.Proofs.YtkbedajbbakihaaGreatDoor
open Go.RowKit Go.Sort Go.Lib
set_option linter.unusedSimpArgs false
set_option linter.unusedVariables false

def namesL : List (List UInt8) := [[], nameN 1, nameN 2, nameN 3, nameN 4, nameN 5, nameN 6, nameN 7, nameN 8, nameN 9, nameN 10]
theorem refNames_is (w : World) : Calls Tryz.prog 64 #[] w fun e w' => e = .returned (.slice (some ⟨w.heap.size, 0, none⟩) 11 11) ∧ w' = w.alloc (.cells (wsC namesL).toArray 9) := by
  go_enter Tryz.func64, Tryz.ntmps64
  go_wp2_with fail
  go_ret
  exact ⟨rfl, rfl⟩
set_option maxRecDepth 100000 in
theorem refRights_is (r : Int) (h0 : 0 ≤ r) (h1 : r ≤ 255) (w : World) : Calls Tryz.prog 118 #[.int .u8 r] w fun e w' => Later w w' ∧ ((okH 1 1 r = true ∧ e = .returned (.tuple #[.string ⟨(lettersR r).toArray⟩, .bool true])) ∨ (okH 1 1 r = false ∧ e = .returned (.tuple #[.string ⟨#[]⟩, .bool false]))) := by
  cases hb : okH 1 1 r with
  | true =>
    have HB := Lib.hid hb
    obtain ⟨T, hT⟩ : ∃ T : ByteArray, ⟨(showH 1 1 r).toArray⟩ = T := ⟨_, rfl⟩
    have hS := fun w1 => refShow_yes 1 1 r w1 hb (by omega)
    rw [hT] at hS
    have hS2 : ∀ w1, Calls Tryz.prog 117 #[.agg #[.int .i64 1, .int .u32 1, .int .u8 r]] w1 fun e w' => e = .returned (.tuple #[.string T, .int .i64 0]) ∧ Later w1 w' := hS
    have HS := Lib.hid hS2
    have hTe : T.extract 4 T.size = ⟨(lettersR r).toArray⟩ := by
      rw [← hT, showH_11, size_mk]
      apply ByteArray.ext
      simp
    have hTs : 4 ≤ T.size := by rw [← hT, showH_11, size_mk]; simp
    have HTE := Lib.hid hTe
    clear hb hS hS2 hTe hT
    go_enter Tryz.func118, Tryz.ntmps118
    go_wp2_with fail
    refine (HS.out _).mono ?_
    rintro e w1 ⟨rfl, hl⟩
    have HL := Lib.hid hl
    clear hl
    go_wp2_with fail
    go_ret2
    exact ⟨HL.out, .inl ⟨by simp, by rw [HTE.out]; rfl⟩⟩
  | false =>
    have HS := Lib.hid (show ∀ w1, Calls Tryz.prog 117 #[.agg #[.int .i64 1, .int .u32 1, .int .u8 r]] w1 fun e w' => e = .returned (.tuple #[.string ⟨#[]⟩, .int .i64 4]) ∧ Later w1 w' from fun w1 => refShow_no 1 1 r w1 h0 h1 hb)
    clear hb
    go_enter Tryz.func118, Tryz.ntmps118
    go_wp2_with fail
    refine (HS.out _).mono ?_
    rintro e w1 ⟨rfl, hl⟩
    have HL := Lib.hid hl
    clear hl
    go_wp2_with fail
    go_ret2
    exact ⟨HL.out, .inr ⟨by simp, rfl⟩⟩
end Go.Proofs.YtkbedajbbakihaaGreatDoor
