/-
 Texts of this proof, put together (DcR, RwR, NwR, Wq0R): each part's first words say what it holds. Conditions: as each part says.
-/
import Derived.Test.YtkbedajbbakihaaGreatDoorYu
/-
 The reference's numbers as texts: Decimal and signed. Conditions: none.
-/
namespace Go.Proofs.YtkbedajbbakihaaGreatDoor
open Go.RowKit Go.Sort Go.Lib
set_option linter.unusedSimpArgs false
set_option linter.unusedVariables false

set_option maxRecDepth 100000 in
theorem refDec_is (u : Nat) (hu : u ≤ 18446744073709551615) : ∀ w : World, Calls Tryz.prog 71 #[.int .u64 u] w fun e w' => e = .returned (.string ⟨(Lib.decDigits u).toArray⟩) ∧ Later w w' := by
 induction u using Nat.strongRecOn with
 | ind u ih =>
  intro w
  obtain ⟨n, hn⟩ : ∃ n : Int, n = (u : Int) := ⟨_, rfl⟩
  rw [← hn]
  have n0 : 0 ≤ n := by omega
  have n1 : n ≤ 18446744073709551615 := by omega
  have hcv : ∀ (W : World) (Z : Nat), W.heap[Z]? = some (.cells #[.int .u8 (48 + n % 10)] 5 (0, 0)) → (convert 22 9 (.slice (some ⟨Z, 0, none⟩) 1 1)).run Tryz.prog W = .ok (.string ⟨[UInt8.ofNat (48 + u % 10)].toArray⟩) W := fun W Z hZ => by
   refine run_convert_bytes_back (P := Tryz.prog) W 22 9 5 ⟨Z, 0, none⟩ 1 [UInt8.ofNat (48 + u % 10)] Tryz.underlying22 Tryz.underlying5 Tryz.underlying9 (fun j hj => ?_)
   obtain rfl : j = 0 := by simpa using hj
   rw [Addr.add_lit, Lib.cell_of_heap hZ]
   simp [hn]
   omega
  have HN := Lib.hid hn
  have HI := Lib.hid ih
  clear hn ih
  have a1 : IntKind.u64.wrap (48 + n % 10) = 48 + n % 10 := IntWalk.u64_in _ (by omega)
  have a2 : IntKind.u8.wrap (48 + n % 10) = 48 + n % 10 := IntWalk.u8_in _ (by omega)
  by_cases h10 : n ≤ 9
  ·have ht : decide (n < 10) = true := decide_eq_true (by omega)
   have ed : [UInt8.ofNat (48 + u % 10)] = Lib.decDigits u := by
    have := HN.out
    rw [Lib.decDigits, dif_pos (by omega), Nat.mod_eq_of_lt (by omega)]
   rw [← ed]
   rw [show n % 10 = n by omega] at a1 a2 hcv
   obtain ⟨D, hD⟩ : ∃ D, D = (⟨[UInt8.ofNat (48 + u % 10)].toArray⟩ : ByteArray) := ⟨_, rfl⟩
   rw [← hD] at hcv ⊢
   have hc2 := hcv (w.alloc (.cells #[.int .u8 (48 + n)] 5)) w.heap.size (MapKept.heap_alloc w _).1
   clear hu ed hcv hD
   go_enter Tryz.func71, Tryz.ntmps71
   go_wp2_with fail
   go_ret
   exact ⟨rfl, by repeat (first | exact Later.refl _ | assumption | apply Later.alloc | apply Later.drew | apply Later.drewN | refine Later.trans ?_ (by assumption))⟩
  ·have ht : decide (n < 10) = false := decide_eq_false (by omega)
   have hq : n / 10 = ((u / 10 : Nat) : Int) := by have := HN.out; omega
   have hl := digits_le (u / 10) (by omega)
   have ed : Lib.decDigits u = Lib.decDigits (u / 10) ++ [UInt8.ofNat (48 + u % 10)] := by
    have := HN.out
    rw [Lib.decDigits, dif_neg (by omega)]
   rw [ed, ← str_app]
   have IH := Lib.hid (show ∀ w : World, Calls Tryz.prog 71 #[.int .u64 (n / 10)] w fun e w' => e = .returned (.string ⟨(Lib.decDigits (u / 10)).toArray⟩) ∧ Later w w' by
    rw [hq]; exact HI.out (u / 10) (by have := HN.out; omega) (by omega))
   obtain ⟨L, hL⟩ : ∃ L, L = (⟨(Lib.decDigits (u / 10)).toArray⟩ : ByteArray) := ⟨_, rfl⟩
   have hLs : L.size ≤ 20 := by rw [hL]; exact hl
   rw [← hL] at IH ⊢
   obtain ⟨D, hD⟩ : ∃ D, D = (⟨[UInt8.ofNat (48 + u % 10)].toArray⟩ : ByteArray) := ⟨_, rfl⟩
   have hDs : D.size = 1 := by rw [hD]; rfl
   rw [← hD] at hcv ⊢
   have hcat : ¬ 9223372036854775807 < L.size + 1 := by omega
   have b1 : n.tdiv 10 = n / 10 := Int.tdiv_eq_ediv_of_nonneg n0
   have b2 : n.tmod 10 = n % 10 := Int.tmod_eq_emod_of_nonneg n0
   have b3 : IntKind.u64.wrap (n / 10) = n / 10 := IntWalk.u64_in _ (by omega)
   clear hl ed hq hu hL hD
   go_enter Tryz.func71, Tryz.ntmps71
   go_wp2_with fail
   refine wp_region_iv mixedS (fun D' a' W' => ∃ x0 x1 x2 x3 x4 x5 x6 x7 x8 x9 y2, a' = ⟨#[.int .u64 n, undef, y2, .int .u64 n, .bool false, undef, undef, undef, undef, undef, x0, x1, x2, x3, x4, x5, x6, x7, x8, x9], []⟩ ∧ (Later w W') ∧ (D' 7 = true → ∃ Z, x7 = .slice (some ⟨Z, 0, none⟩) 1 1 ∧ W'.heap[Z]? = some (.cells #[.int .u8 (48 + n % 10)] 5 (0, 0))) ∧ (D' 0 = true → x0 = .int .u64 n) ∧ (D' 1 = true → x1 = .int .u64 (n / 10)) ∧ (D' 2 = true → x2 = .string L) ∧ (D' 3 = true → x3 = .int .u64 n) ∧ (D' 4 = true → x4 = .int .u64 (n % 10)) ∧ (D' 5 = true → x5 = .int .u64 (48 + n % 10)) ∧ (D' 6 = true → x6 = .int .u8 (48 + n % 10)) ∧ (D' 8 = true → x8 = .string D) ∧ (D' 9 = true → x9 = .string (L ++ D)) ∧ (D' 10 = true → y2 = .string (L ++ D))) (by kernel_rfl) ?_ ?_ ?_
   ·exact ⟨undef, undef, undef, undef, undef, undef, undef, undef, undef, undef, _, rfl, (Later.refl w).drew, (fun h => by cases h), (fun h => by cases h), (fun h => by cases h), (fun h => by cases h), (fun h => by cases h), (fun h => by cases h), (fun h => by cases h), (fun h => by cases h), (fun h => by cases h), (fun h => by cases h), (fun h => by cases h)⟩
   ·intro i D' a' W' hi hDi hdep hcl hI
    obtain ⟨x0, x1, x2, x3, x4, x5, x6, x7, x8, x9, y2, rfl, gL, g7, f0, f1, f2, f3, f4, f5, f6, f8, f9, f10⟩ := hI
    have hi' : i = 0 ∨ i = 1 ∨ i = 2 ∨ i = 3 ∨ i = 4 ∨ i = 5 ∨ i = 6 ∨ i = 7 ∨ i = 8 ∨ i = 9 ∨ i = 10 := by
     have : i < 11 := hi
     omega
    rcases hi' with rfl | rfl | rfl | rfl | rfl | rfl | rfl | rfl | rfl | rfl | rfl
    ·skip
     refine wpOp_step rfl (fun K' hK' => ?_)
     rw [if_pos (by rfl)]
     go_simp
     exact hK' _ _ ⟨_, x1, x2, x3, x4, x5, x6, x7, x8, x9, y2, rfl, gL, g7, (fun _ => rfl), f1, f2, f3, f4, f5, f6, f8, f9, f10⟩
    ·have q0 := f0 (hdep 0 (by kernel_rfl))
     subst q0
     refine wpOp_step rfl (fun K' hK' => ?_)
     rw [if_pos (by rfl)]
     go_simp
     exact hK' _ _ ⟨_, _, x2, x3, x4, x5, x6, x7, x8, x9, y2, rfl, gL, g7, (fun _ => rfl), (fun _ => rfl), f2, f3, f4, f5, f6, f8, f9, f10⟩
    ·have q1 := f1 (hdep 1 (by kernel_rfl))
     subst q1
     refine wpOp_step rfl (fun K' hK' => ?_)
     rw [if_pos (by rfl)]
     go_simp
     refine (IH.out W').mono ?_
     rintro e w1 ⟨rfl, hl1⟩
     exact hK' _ _ ⟨x0, _, _, x3, x4, x5, x6, x7, x8, x9, y2, rfl, (gL.trans hl1), (fun h => by obtain ⟨Z, h1, h2⟩ := g7 h; exact ⟨Z, h1, (hl1.block Z (Array.getElem?_eq_some_iff.1 h2).1).trans h2⟩), f0, (fun _ => rfl), (fun _ => rfl), f3, f4, f5, f6, f8, f9, f10⟩
    ·skip
     refine wpOp_step rfl (fun K' hK' => ?_)
     rw [if_pos (by rfl)]
     go_simp
     exact hK' _ _ ⟨x0, x1, x2, _, x4, x5, x6, x7, x8, x9, y2, rfl, gL, g7, f0, f1, f2, (fun _ => rfl), f4, f5, f6, f8, f9, f10⟩
    ·have q3 := f3 (hdep 3 (by kernel_rfl))
     subst q3
     refine wpOp_step rfl (fun K' hK' => ?_)
     rw [if_pos (by rfl)]
     go_simp
     exact hK' _ _ ⟨x0, x1, x2, _, _, x5, x6, x7, x8, x9, y2, rfl, gL, g7, f0, f1, f2, (fun _ => rfl), (fun _ => rfl), f5, f6, f8, f9, f10⟩
    ·have q4 := f4 (hdep 4 (by kernel_rfl))
     subst q4
     refine wpOp_step rfl (fun K' hK' => ?_)
     rw [if_pos (by rfl)]
     go_simp
     exact hK' _ _ ⟨x0, x1, x2, x3, _, _, x6, x7, x8, x9, y2, rfl, gL, g7, f0, f1, f2, f3, (fun _ => rfl), (fun _ => rfl), f6, f8, f9, f10⟩
    ·have q5 := f5 (hdep 5 (by kernel_rfl))
     subst q5
     refine wpOp_step rfl (fun K' hK' => ?_)
     rw [if_pos (by rfl)]
     go_simp
     exact hK' _ _ ⟨x0, x1, x2, x3, x4, _, _, x7, x8, x9, y2, rfl, gL, g7, f0, f1, f2, f3, f4, (fun _ => rfl), (fun _ => rfl), f8, f9, f10⟩
    ·have q6 := f6 (hdep 6 (by kernel_rfl))
     subst q6
     refine wpOp_step rfl (fun K' hK' => ?_)
     rw [if_pos (by rfl)]
     go_simp
     exact hK' _ _ ⟨x0, x1, x2, x3, x4, x5, _, _, x8, x9, y2, rfl, (gL.alloc _), (fun _ => ⟨W'.heap.size, rfl, (MapKept.heap_alloc W' _).1⟩), f0, f1, f2, f3, f4, f5, (fun _ => rfl), f8, f9, f10⟩
    ·obtain ⟨Z, q7, hZ⟩ := g7 (hdep 7 (by kernel_rfl))
     subst q7
     have hc := hcv W' Z hZ
     refine wpOp_step rfl (fun K' hK' => ?_)
     rw [if_pos (by rfl)]
     go_simp
     exact hK' _ _ ⟨x0, x1, x2, x3, x4, x5, x6, _, _, x9, y2, rfl, gL, (fun _ => ⟨Z, rfl, hZ⟩), f0, f1, f2, f3, f4, f5, f6, (fun _ => rfl), f9, f10⟩
    ·have q2 := f2 (hdep 2 (by kernel_rfl))
     have q8 := f8 (hdep 8 (by kernel_rfl))
     subst q2
     subst q8
     refine wpOp_step rfl (fun K' hK' => ?_)
     rw [if_pos (by rfl)]
     go_simp
     exact hK' _ _ ⟨x0, x1, _, x3, x4, x5, x6, x7, _, _, y2, rfl, gL, g7, f0, f1, (fun _ => rfl), f3, f4, f5, f6, (fun _ => rfl), (fun _ => rfl), f10⟩
    ·have q9 := f9 (hdep 9 (by kernel_rfl))
     subst q9
     refine wpOp_step rfl (fun K' hK' => ?_)
     rw [if_pos (by rfl)]
     go_simp
     exact hK' _ _ ⟨x0, x1, x2, x3, x4, x5, x6, x7, x8, _, _, rfl, gL, g7, f0, f1, f2, f3, f4, f5, f6, f8, (fun _ => rfl), (fun _ => rfl)⟩
   ·rintro D' a' W' hD' ⟨x0, x1, x2, x3, x4, x5, x6, x7, x8, x9, y2, rfl, gL, g7, f0, f1, f2, f3, f4, f5, f6, f8, f9, f10⟩
    have q10 := f10 (hD' 10 (by decide))
    subst q10
    clear f0 f1 f2 f3 f4 f5 f6 f8 f9 f10 g7
    have HGL := Lib.hid gL
    clear gL
    go_wp2_with fail
    go_ret
    exact ⟨rfl, HGL.out⟩
set_option maxRecDepth 100000 in
theorem refSigned_is (v : Int) (hv : -9223372036854775808 ≤ v ∧ v ≤ 9223372036854775807) (w : World) : Calls Tryz.prog 72 #[.int .i64 v] w fun e w' => e = .returned (.string ⟨(Lib.itoa v).toArray⟩) ∧ Later w w' := by
 rcases int_cases v with ⟨n, rfl⟩ | ⟨n, hn1, rfl⟩
 ·rw [itoa_pos]
  have hD := fun W => refDec_is n (by omega) W
  obtain ⟨x, hx⟩ : ∃ x : Int, x = (n : Int) := ⟨_, rfl⟩
  rw [← hx] at hD ⊢
  have HD := Lib.hid hD
  have c1 : decide ((0 : Int) ≤ x) = true := decide_eq_true (by omega)
  have c2 : (0 : Int) ≤ x := by omega
  have a1 : IntKind.u64.wrap x = x := IntWalk.u64_in _ (by omega)
  clear hD hx hv
  go_enter Tryz.func72, Tryz.ntmps72
  go_wp2_with fail
  refine (HD.out _).mono ?_
  rintro e w1 ⟨rfl, hl⟩
  have HL := Lib.hid hl
  clear hl
  go_wp2_with fail
  go_ret
  exact ⟨rfl, HL.out⟩
 ·rw [itoa_neg n hn1]
  have hD := fun W => refDec_is n (by omega) W
  have hl := digits_le n (by omega)
  have he : (⟨(45 :: Lib.decDigits n).toArray⟩ : ByteArray) = ⟨#[45]⟩ ++ ⟨(Lib.decDigits n).toArray⟩ := (str_app [45] (Lib.decDigits n)).symm
  rw [he]
  obtain ⟨L, hL⟩ : ∃ L : ByteArray, L = ⟨(Lib.decDigits n).toArray⟩ := ⟨_, rfl⟩
  have hLs : L.size ≤ 20 := by rw [hL]; exact hl
  rw [← hL] at hD ⊢
  obtain ⟨m, hm⟩ : ∃ m : Int, m = (n : Int) := ⟨_, rfl⟩
  rw [← hm] at hD hv ⊢
  obtain ⟨x, hx⟩ : ∃ x : Int, x = -m := ⟨_, rfl⟩
  rw [← hx] at hv ⊢
  obtain ⟨y, hy⟩ : ∃ y : Int, y = x + 1 := ⟨_, rfl⟩
  obtain ⟨z, hz⟩ : ∃ z : Int, z = -y := ⟨_, rfl⟩
  have HD := Lib.hid hD
  have c1 : decide ((0 : Int) ≤ x) = false := decide_eq_false (by omega)
  have c2 : ¬ (0 : Int) ≤ x := by omega
  have b1 : IntKind.i64.wrap (x + 1) = y := by rw [← hy]; exact IntWalk.i64_in _ (by omega)
  have b2 : IntKind.i64.wrap (-y) = z := by rw [← hz]; exact IntWalk.i64_in _ (by omega)
  have b3 : IntKind.u64.wrap z = z := IntWalk.u64_in _ (by omega)
  have b4 : IntKind.u64.wrap (z + 1) = m := by rw [show z + 1 = m by omega]; exact IntWalk.u64_in _ (by omega)
  have hcat : ¬ 9223372036854775807 < 1 + L.size := by omega
  clear hD hx hv hy hz hm hn1 hL hl he
  go_enter Tryz.func72, Tryz.ntmps72
  go_wp2_with fail
  refine (HD.out _).mono ?_
  rintro e w1 ⟨rfl, hl⟩
  have HL := Lib.hid hl
  clear hl
  go_wp2_with fail
  go_ret
  exact ⟨rfl, HL.out⟩
end Go.Proofs.YtkbedajbbakihaaGreatDoor

/-
 Lists of texts in memory; the reference's join and all. Conditions: the texts are not too long.
-/
namespace Go.Proofs.YtkbedajbbakihaaGreatDoor
open Go.RowKit Go.Sort Go.Lib
set_option linter.unusedSimpArgs false
set_option linter.unusedVariables false

theorem jn_snoc (ws : List (List UInt8)) (a : List UInt8) (h : ws ≠ []) : jn (ws ++ [a]) = jn ws ++ 32 :: a := by
 induction ws with
 | nil => exact absurd rfl h
 | cons b t ih =>
  cases t with
  | nil => rfl
  | cons c t =>
   rw [List.cons_append, List.cons_append, jn, jn, ← List.cons_append, ih (by simp)]
   simp
theorem wrd_take (ws : List (List UInt8)) (k : Nat) (h : k < ws.length) : ws.take (k + 1) = ws.take k ++ [wrd ws k] := by
 rw [List.take_add_one, List.getElem?_eq_getElem h]
 simp [wrd, List.getD_eq_getElem?_getD, h]
theorem sumL_app (a b : List (List UInt8)) : sumL (a ++ b) = sumL a + sumL b := by simp [sumL]
theorem sumL_take (ws : List (List UInt8)) (k : Nat) : sumL (ws.take k) ≤ sumL ws := by
 have h := congrArg sumL (List.take_append_drop k ws)
 rw [sumL_app] at h
 omega
theorem sumL_snoc (ws : List (List UInt8)) (a : List UInt8) : sumL (ws ++ [a]) = sumL ws + a.length := by simp [sumL]
set_option maxRecDepth 100000 in
theorem refJoin_is (v : Value) (ws : List (List UInt8)) (w : World) (h : SL w v ws) (hl : sumL ws + ws.length ≤ 1000000000) : Calls Tryz.prog 65 #[v] w fun e w' => e = .returned (.string ⟨(jn ws).toArray⟩) ∧ w' = w := by
 obtain ⟨ao, cap, rfl, hx⟩ := h
 obtain ⟨n, hn⟩ : ∃ n, ws.length = n := ⟨_, rfl⟩
 rw [hn] at hx hl ⊢
 have HX := Lib.hid hx
 have HN := Lib.hid hn
 have HL := Lib.hid hl
 have hn9 : n ≤ 1000000000 := by omega
 clear hx hn hl
 go_enter Tryz.func65, Tryz.ntmps65
 go_wp2_with fail
 go_loop [3, 4] (fun s i => ∃ k : Nat, k ≤ n ∧ i = .int .i64 k ∧ s = .string ⟨(jn (ws.take k)).toArray⟩) (fun _ i => n - (RowKit.intOf i).toNat)
 case atStart => exact ⟨0, Nat.zero_le _, rfl, rfl⟩
 case round =>
  obtain ⟨k, hk, rfl, rfl⟩ := hrel
  by_cases hlt : k < n
  ·obtain ⟨X, off, rfl, hc⟩ := HX.out.resolve_left (by omega)
   have hcell := hc k hlt
   have hj := jn_len (ws.take k)
   have hs1 := sumL_take ws k
   have hs2 := sumL_take ws (k + 1)
   have ht := wrd_take ws k (by have := HN.out; omega)
   rw [ht, sumL_snoc] at hs2
   have hlk := List.length_take_le k ws
   obtain ⟨A, hA⟩ : ∃ A : ByteArray, A = ⟨(jn (ws.take k)).toArray⟩ := ⟨_, rfl⟩
   obtain ⟨B, hB⟩ : ∃ B : ByteArray, B = ⟨(wrd ws k).toArray⟩ := ⟨_, rfl⟩
   have hAs : A.size ≤ 1000000000 := by have := HL.out; rw [hA, size_mk]; omega
   have hBs : B.size ≤ 1000000000 := by have := HL.out; rw [hB, size_mk]; omega
   rw [← hB] at hcell
   rw [← hA]
   have d0 : decide ((k : Int) < (n : Int)) = true := decide_eq_true (by omega)
   by_cases h0 : k = 0
   ·have h0i : decide ((0 : Int) < (k : Int)) = false := decide_eq_false (by omega)
    have h0n : decide (0 < k) = false := decide_eq_false (by omega)
    have h0p : ¬ 0 < k := by omega
    have HREL := Lib.hid (show Value.string (A ++ B) = .string ⟨(jn (ws.take (k + 1))).toArray⟩ by
     rw [ht, hA, hB, str_app, h0]
     rfl)
    clear hc hj hs1 hs2 ht hlk hA hB h0
    go_wp2_with fail
    go_round
    case rel => exact ⟨k + 1, by omega, by go_num, HREL.out⟩
    case measure => simp [RowKit.intOf]; omega
   ·have h0i : decide ((0 : Int) < (k : Int)) = true := decide_eq_true (by omega)
    have h0n : decide (0 < k) = true := decide_eq_true (by omega)
    have h0p : 0 < k := by omega
    have HREL := Lib.hid (show Value.string (A ++ ⟨#[32]⟩ ++ B) = .string ⟨(jn (ws.take (k + 1))).toArray⟩ by
     have h1 : (⟨#[32]⟩ : ByteArray) = ⟨[32].toArray⟩ := rfl
     rw [ht, jn_snoc _ _ (by intro h; have h2 := congrArg List.length h; rw [List.length_take, List.length_nil] at h2; have := HN.out; omega), hA, hB, h1, str_app, str_app]
     simp)
    clear hc hj hs1 hs2 ht hlk hA hB h0
    go_wp2_with fail
    go_round
    case rel => exact ⟨k + 1, by omega, by go_num, HREL.out⟩
    case measure => simp [RowKit.intOf]; omega
  ·have hw : ws.take k = ws := List.take_of_length_le (by have := HN.out; omega)
   rw [hw]
   clear hw
   go_wp2_with fail
   go_ret
   exact ⟨rfl, rfl⟩
set_option maxRecDepth 100000 in
set_option maxHeartbeats 4000000 in
theorem refAll_is (v : Value) (ws : List (List UInt8)) (w : World) (h : SL w v ws) (hl : sumL ws + ws.length ≤ 1000000000) : Calls Tryz.prog 73 #[v] w fun e w' => e = .returned (.string ⟨ws.flatten.toArray⟩) ∧ Later w w' := by
 have hsv := fun w' (h2 : Later w w') => h.later h2
 obtain ⟨ao, cap, rfl, -⟩ := h
 obtain ⟨n, hn⟩ : ∃ n, ws.length = n := ⟨_, rfl⟩
 rw [hn] at hsv hl ⊢
 have HX := Lib.hid hsv
 have HN := Lib.hid hn
 have HL := Lib.hid hl
 have hn9 : n ≤ 1000000000 := by omega
 obtain ⟨i0, hi, hz0, hz1, hz2⟩ := info_parts infoB
 have HI := Lib.hid (And.intro hi (And.intro hz0 (And.intro hz1 hz2)))
 have HI0 := Lib.hid (show w.ownsRow w.heap.size 5 1 (.slice none 0 0) ((ws.take 0).flatten).length (Lib.byteCells ((ws.take 0).flatten)) by simpa [Lib.byteCells] using World.ownsRow_nil w w.heap.size 5 1)
 clear hsv hn hl hi hz0 hz1 hz2
 go_enter Tryz.func73, Tryz.ntmps73
 go_wp2_with fail
 go_loopw [3, 4] (fun v i wr => ∃ k : Nat, k ≤ n ∧ i = .int .i64 k ∧ Later w wr ∧ wr.ownsRow w.heap.size 5 1 v ((ws.take k).flatten).length (Lib.byteCells ((ws.take k).flatten))) (fun _ i _ => n - (RowKit.intOf i).toNat)
 case atStart => exact ⟨0, by omega, rfl, Later.refl w, HI0.out⟩
 case round =>
  obtain ⟨k, hk, rfl, hlw, hown⟩ := hrel
  rename World => wk
  have HLW := Lib.hid hlw
  have HOWN := Lib.hid hown
  obtain ⟨av, cv, rfl⟩ := slice_of_own hown
  clear HI0 hlw hown
  by_cases hlt : k < n
  ·obtain ⟨ao', cap', hvv, hcs⟩ := HX.out wk HLW.out
   obtain ⟨X, off, rfl, hc⟩ := hcs.resolve_left (by have := HN.out; omega)
   injection hvv with q1 q2 q3
   subst q1
   have hcell := hc k (by have := HN.out; omega)
   have hs2 := sumL_take ws (k + 1)
   have ht := wrd_take ws k (by have := HN.out; omega)
   rw [ht, sumL_snoc] at hs2
   have hfl : (ws.take k).flatten.length = sumL (ws.take k) := by simp [sumL, List.length_flatten]
   obtain ⟨B, hB⟩ : ∃ B : ByteArray, B = ⟨(wrd ws k).toArray⟩ := ⟨_, rfl⟩
   have hBs : B.size = (wrd ws k).length := by rw [hB, size_mk]
   obtain ⟨m, hm⟩ : ∃ m, (ws.take k).flatten.length = m := ⟨_, rfl⟩
   have hown := HOWN.out
   rw [hm] at hown hfl ⊢
   rw [← hB] at hcell
   have hmb : m + B.size ≤ 1000000000 := by have := HL.out; omega
   have hsz := HLW.out.size
   have d0 : decide ((k : Int) < (n : Int)) = true := decide_eq_true (by omega)
   have HT := Lib.hid (And.intro ht (And.intro hB hm))
   clear hc q2 q3 hs2 ht hfl hB hm hBs
   go_wp2_with (at_builtin; refine Lib.wpList_append_own_string _ rfl _ _ 22 9 rfl w.heap.size 5 i0 Tryz.underlying22 Tryz.underlying9 HI.out.1 HI.out.2.1 HI.out.2.2.1 HI.out.2.2.2 _ _ _ rfl hown B rfl ?c3 ?c4 ?c5 ?_)
   case c3 => unfold maxLen; omega
   case c4 => omega
   case c5 => omega
   intro v' w2 hown' hgrow _
   have HREL := Lib.hid (show Later w w2 ∧ w2.ownsRow w.heap.size 5 1 v' ((ws.take (k + 1)).flatten).length (Lib.byteCells ((ws.take (k + 1)).flatten)) by
    refine ⟨later_grown HLW.out hown hgrow, ?_⟩
    have h1 : (ws.take (k + 1)).flatten = (ws.take k).flatten ++ wrd ws k := by rw [HT.out.1]; simp
    rw [h1, List.length_append, HT.out.2.2]
    have h2 : Lib.byteCells ((ws.take k).flatten ++ wrd ws k) = Lib.byteCells (ws.take k).flatten ++ Lib.strCells B := by rw [HT.out.2.1]; simp [Lib.byteCells, Lib.strCells]
    have h3 : B.size = (wrd ws k).length := by rw [HT.out.2.1, size_mk]
    rw [h2, ← h3]
    exact hown')
   clear hown hown' hgrow
   go_wp2_with fail
   go_roundw
   case rel => exact ⟨k + 1, by omega, by go_num, HREL.out⟩
   case measure => simp [RowKit.intOf]; omega
  ·have hw : ws.take k = ws := List.take_of_length_le (by have := HN.out; omega)
   obtain ⟨m, hm⟩ : ∃ m, (ws.take k).flatten.length = m := ⟨_, rfl⟩
   have hcv : (convert 22 9 (.slice av m cv)).run Tryz.prog wk = .ok (.string ⟨ws.flatten.toArray⟩) wk := by
    have h := HOWN.out
    rw [hm] at h
    rw [hw] at h hm
    exact conv_own h hm.symm
   rw [hm]
   obtain ⟨A, hA⟩ : ∃ A : ByteArray, ⟨ws.flatten.toArray⟩ = A := ⟨_, rfl⟩
   rw [hA] at hcv
   have HA := Lib.hid hA
   clear hw hm hA
   go_wp2_with fail
   go_ret
   exact ⟨by rw [HA.out]; rfl, HLW.out⟩
end Go.Proofs.YtkbedajbbakihaaGreatDoor

/-
 The reference's names and rights. Conditions: none.
-/
namespace Go.Proofs.YtkbedajbbakihaaGreatDoor
open Go.RowKit Go.Sort Go.Lib
set_option linter.unusedSimpArgs false
set_option linter.unusedVariables false

set_option maxRecDepth 100000 in
theorem refRights_is (r : Int) (h0 : 0 ≤ r) (h1 : r ≤ 255) (w : World) : Calls Tryz.prog 118 #[.int .u8 r] w fun e w' => Later w w' ∧ ((okH 1 1 r = true ∧ e = .returned (.tuple #[.string ⟨(lettersR r).toArray⟩, .bool true])) ∨ (okH 1 1 r = false ∧ e = .returned (.tuple #[.string ⟨#[]⟩, .bool false]))) := by
 cases hb : okH 1 1 r with
 | true =>
  have HB := Lib.hid hb
  obtain ⟨T, hT⟩ : ∃ T : ByteArray, ⟨(showH 1 1 r).toArray⟩ = T := ⟨_, rfl⟩
  have hS := fun w1 => refShow_yes 1 1 r w1 hb (by omega)
  rw [hT] at hS
  have hS2 : ∀ w1, Calls Tryz.prog 117 #[.agg #[.int .i64 1, .int .u32 1, .int .u8 r]] w1 fun e w' => e = .returned (.tuple #[.string T, .int .i64 0]) ∧ Later w1 w' := hS
  have HS := Lib.hid hS2
  have hTe : T.extract 4 T.size = ⟨(lettersR r).toArray⟩ := by
   rw [← hT, showH_11, size_mk]
   apply ByteArray.ext
   simp
  have hTs : 4 ≤ T.size := by rw [← hT, showH_11, size_mk]; simp
  have HTE := Lib.hid hTe
  clear hb hS hS2 hTe hT
  go_enter Tryz.func118, Tryz.ntmps118
  go_wp2_with fail
  refine (HS.out _).mono ?_
  rintro e w1 ⟨rfl, hl⟩
  have HL := Lib.hid hl
  clear hl
  go_wp2_with fail
  go_ret2
  exact ⟨HL.out, .inl ⟨by simp, by rw [HTE.out]; rfl⟩⟩
 | false =>
  have HS := Lib.hid (show ∀ w1, Calls Tryz.prog 117 #[.agg #[.int .i64 1, .int .u32 1, .int .u8 r]] w1 fun e w' => e = .returned (.tuple #[.string ⟨#[]⟩, .int .i64 4]) ∧ Later w1 w' from fun w1 => refShow_no 1 1 r w1 h0 h1 hb)
  clear hb
  go_enter Tryz.func118, Tryz.ntmps118
  go_wp2_with fail
  refine (HS.out _).mono ?_
  rintro e w1 ⟨rfl, hl⟩
  have HL := Lib.hid hl
  clear hl
  go_wp2_with fail
  go_ret2
  exact ⟨HL.out, .inr ⟨by simp, rfl⟩⟩
end Go.Proofs.YtkbedajbbakihaaGreatDoor

/-
 The reference's words of a request, walked. Conditions: the request's fields fit.
-/
namespace Go.Proofs.YtkbedajbbakihaaGreatDoor
open Go.RowKit Go.Sort Go.Lib
set_option linter.unusedSimpArgs false
set_option linter.unusedVariables false

/-- how the reference's words end -/
def WEnd (r : Req) (w : World) (e : Ending) (w' : World) : Prop := Later w w' ∧ ∃ v b, e = .returned (.tuple #[v, .bool b]) ∧
 ((b = true ∧ limOk r ∧ ∃ d ws, deedN r.deed = some d ∧ shFs r (fldsN d) = some ws ∧ SL w' v ws) ∨ (b = false ∧ ∀ d, deedN r.deed = some d → shFs r (fldsN d) = none ∨ ¬ limOk r))
end Go.Proofs.YtkbedajbbakihaaGreatDoor
