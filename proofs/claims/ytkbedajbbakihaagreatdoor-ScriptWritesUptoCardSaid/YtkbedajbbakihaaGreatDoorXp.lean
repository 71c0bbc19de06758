/-
 Texts of this proof, put together (RsR): each part's first words say what it holds. Conditions: as each part says.
-/
import Derived.Test.YtkbedajbbakihaaGreatDoorYu
import Derived.Test.YtkbedajbbakihaaGreatDoorXl
import Derived.Test.YtkbedajbbakihaaGreatDoorXk
import Derived.Test.YtkbedajbbakihaaGreatDoorXo
/-
 The reference's ShowRequest, walked. Conditions: the request's fields fit.
-/
namespace Go.Proofs.YtkbedajbbakihaaGreatDoor
open Go.RowKit Go.Sort Go.Lib
set_option linter.unusedSimpArgs false
set_option linter.unusedVariables false

theorem nameN_len (n : Nat) (h : 1 ≤ n ∧ n ≤ 10) : (nameN n).length ≤ 6 := by
 rcases ten_cases h with rfl | rfl | rfl | rfl | rfl | rfl | rfl | rfl | rfl | rfl <;> decide
theorem fldsN_len (n : Nat) (h : 1 ≤ n ∧ n ≤ 10) : 1 ≤ (fldsN n).length ∧ (fldsN n).length ≤ 4 := by
 rcases ten_cases h with rfl | rfl | rfl | rfl | rfl | rfl | rfl | rfl | rfl | rfl <;> decide
theorem jn_cons (a : List UInt8) (ws : List (List UInt8)) (h : ws ≠ []) : jn (a :: ws) = a ++ 32 :: jn ws := by
 cases ws with
 | nil => exact absurd rfl h
 | cons b t => rfl
set_option maxRecDepth 100000 in
set_option maxHeartbeats 4000000 in
theorem refShow_out (r : Req) (hd : r.deed < 1 ∨ (1 ≤ r.deed ∧ 10 < r.deed)) (w : World) : Calls Tryz.prog 23 #[reqV r] w fun e w' => SREnd (showQ r) e ∧ Later w w' := by
 have hn : showQ r = none := by
  have : deedN r.deed = none := by unfold deedN; rw [if_neg (by omega)]
  unfold showQ lineP
  rw [this]
  rfl
 rw [hn]
 obtain ⟨d, ht, hg, hrr, key, val, old, lim, ten, qk, qb, rts⟩ := r
 dsimp only at hd
 obtain ⟨K, hK⟩ : ∃ K : ByteArray, ⟨key.toArray⟩ = K := ⟨_, rfl⟩
 obtain ⟨Vb, hVb⟩ : ∃ V : ByteArray, ⟨val.toArray⟩ = V := ⟨_, rfl⟩
 obtain ⟨O, hO⟩ : ∃ O : ByteArray, ⟨old.toArray⟩ = O := ⟨_, rfl⟩
 have hA : reqA ⟨d, ht, hg, hrr, key, val, old, lim, ten, qk, qb, rts⟩ = #[.int .i64 d, .int .i64 ht, .int .u32 hg, .int .u8 hrr, .string K, .string Vb, .string O, .int .i64 lim, .int .i64 ten, .int .u64 qk, .int .u64 qb, .int .u8 rts] := by rw [← hK, ← hVb, ← hO]; rfl
 have HC := Lib.hid (show ∀ (U : World) (b : Nat), U.heap[b]? = some (.cells #[.int .i64 d, .int .i64 ht, .int .u32 hg, .int .u8 hrr, .string K, .string Vb, .string O, .int .i64 lim, .int .i64 ten, .int .u64 qk, .int .u64 qb, .int .u8 rts] 39 (0, 0)) → U.cell? ⟨b, 0, none⟩ = some (.int .i64 d) ∧ U.cell? ⟨b, 1, none⟩ = some (.int .i64 ht) ∧ U.cell? ⟨b, 2, none⟩ = some (.int .u32 hg) ∧ U.cell? ⟨b, 3, none⟩ = some (.int .u8 hrr) ∧ U.cell? ⟨b, 4, none⟩ = some (.string K) ∧ U.cell? ⟨b, 5, none⟩ = some (.string Vb) ∧ U.cell? ⟨b, 6, none⟩ = some (.string O) ∧ U.cell? ⟨b, 7, none⟩ = some (.int .i64 lim) ∧ U.cell? ⟨b, 8, none⟩ = some (.int .i64 ten) ∧ U.cell? ⟨b, 9, none⟩ = some (.int .u64 qk) ∧ U.cell? ⟨b, 10, none⟩ = some (.int .u64 qb) ∧ U.cell? ⟨b, 11, none⟩ = some (.int .u8 rts) from fun U b h => by
  refine ⟨?_, ?_, ?_, ?_, ?_, ?_, ?_, ?_, ?_, ?_, ?_, ?_⟩ <;> (rw [Lib.cell_of_heap h]; rfl))
 unfold reqV
 rw [hA]
 clear hA hn hK hVb hO
 rcases hd with h | ⟨h, h2⟩
 ·have c1 : decide (d < (1 : Int)) = true := decide_eq_true h
  clear h
  go_enter Tryz.func23, Tryz.ntmps23
  go_wp2_with fail
  go_region
  go_wp2_with fail
  go_ret2
  exact ⟨rfl, by repeat (first | exact Later.refl _ | assumption | apply Later.alloc | apply Later.drew | apply Later.drewN | refine Later.trans ?_ (by assumption))⟩
 ·have c1 : decide (d < (1 : Int)) = false := decide_eq_false (by omega)
  have c2 : decide ((10 : Int) < d) = true := decide_eq_true h2
  clear h h2
  go_enter Tryz.func23, Tryz.ntmps23
  go_wp2_with fail
  go_region
  go_wp2_with fail
  go_ret2
  exact ⟨rfl, by repeat (first | exact Later.refl _ | assumption | apply Later.alloc | apply Later.drew | apply Later.drewN | refine Later.trans ?_ (by assumption))⟩
set_option maxRecDepth 100000 in
set_option maxHeartbeats 4000000 in
open Classical in
theorem refShow_in (r : Req) (hr : r.fit) (hwf : r.wf) (dn : Nat) (hdn : deedN r.deed = some dn) (w : World) : Calls Tryz.prog 23 #[reqV r] w fun e w' => SREnd (showQ r) e ∧ Later w w' := by
 obtain ⟨hd1, hd2⟩ := deedN_of hdn
 obtain ⟨Q, hQ⟩ : ∃ Q, reqA (bare r) = Q := ⟨_, rfl⟩
 have hBA : ∀ W, Calls Tryz.prog 62 #[reqV r] W fun e w' => e = .returned (.agg Q) ∧ Later W w' := fun W => by
  have h := refBare_is r (by omega) W
  unfold reqV at h ⊢
  rw [hQ] at h
  exact h
 have hWQ := fun W => refWords_is r hr (by omega) W
 obtain ⟨bb, hbb⟩ : ∃ bb : Bool, (bb = true ↔ bare r = r) ∧ ∀ W : World, (binOp .neq 39 (.agg Q) (reqV r)).run Tryz.prog W = .ok (.bool (!bb)) W := by
  obtain ⟨b, hb, hbq⟩ := eq_req (bare r) r (bare_wf hwf) hwf w
  refine ⟨b, hbq, fun W => ?_⟩
  obtain ⟨b2, hb2, hbq2⟩ := eq_req (bare r) r (bare_wf hwf) hwf W
  have : b2 = b := by rw [Bool.eq_iff_iff, hbq2, hbq]
  rw [this] at hb2
  unfold reqV at hb2 ⊢
  rw [hQ] at hb2
  exact hb2
 obtain ⟨res, hres⟩ : ∃ res, showQ r = res := ⟨_, rfl⟩
 rw [hres]
 have hlp : lineP r = (shFs r (fldsN dn)).map (nameN dn :: ·) := by unfold lineP; rw [hdn]; rfl
 have hsum := fun ws h => shFs_sum r hr (fldsN dn) ws h
 have hwe : ∀ e w1 w2, WEnd r w1 e w2 → Later w1 w2 ∧ ((∃ v ws, e = .returned (.tuple #[v, .bool true]) ∧ limOk r ∧ shFs r (fldsN dn) = some ws ∧ SL w2 v ws) ∨ (∃ v, e = .returned (.tuple #[v, .bool false]) ∧ (shFs r (fldsN dn) = none ∨ ¬ limOk r))) := by
  rintro e w1 w2 ⟨h1, v, b, rfl, ⟨rfl, h2, d', ws, h3, h4, h5⟩ | ⟨rfl, h2⟩⟩
  ·rw [hdn] at h3
   cases h3
   exact ⟨h1, .inl ⟨v, ws, rfl, h2, h4, h5⟩⟩
  ·exact ⟨h1, .inr ⟨v, rfl, h2 dn hdn⟩⟩
 have hno : (shFs r (fldsN dn) = none ∨ ¬ limOk r) → res = none := by
  intro h
  rw [← hres, showQ, hlp]
  cases hs : shFs r (fldsN dn) with
  | none => rfl
  | some ws =>
   rw [hs] at h
   have h2 : ¬ limOk r := h.resolve_left (by simp)
   show (if bare r = r ∧ limOk r then some (jn (nameN dn :: ws)) else none) = none
   rw [if_neg (fun h3 => h2 h3.2)]
 have hno2 : bb = false → res = none := by
  intro h
  rw [← hres, showQ, hlp]
  cases hs : shFs r (fldsN dn) with
  | none => rfl
  | some ws =>
   show (if bare r = r ∧ limOk r then some (jn (nameN dn :: ws)) else none) = none
   rw [if_neg (fun h3 => by rw [hbb.1.2 h3.1] at h; cases h)]
 have hyes : ∀ ws, bb = true → limOk r → shFs r (fldsN dn) = some ws → res = some (jn (nameN dn :: ws)) := by
  intro ws h1 h2 h3
  rw [← hres, showQ, hlp, h3]
  show (if bare r = r ∧ limOk r then some (jn (nameN dn :: ws)) else none) = _
  rw [if_pos ⟨hbb.1.1 h1, h2⟩]
 have HWE := Lib.hid hwe
 have HNO := Lib.hid (And.intro hno (And.intro hno2 (And.intro hyes hsum)))
 have hfl := fldsN_len dn hd2
 have hnl := nameN_len dn hd2
 have hnm := names_at dn hd2
 clear hwe hno hno2 hyes hsum hlp hres hdn
 have hneq := hbb.2
 clear hbb hQ
 obtain ⟨d, ht, hg, hrr, key, val, old, lim, ten, qk, qb, rts⟩ := r
 dsimp only at hd1
 subst hd1
 obtain ⟨K, hK⟩ : ∃ K : ByteArray, ⟨key.toArray⟩ = K := ⟨_, rfl⟩
 obtain ⟨Vb, hVb⟩ : ∃ V : ByteArray, ⟨val.toArray⟩ = V := ⟨_, rfl⟩
 obtain ⟨O, hO⟩ : ∃ O : ByteArray, ⟨old.toArray⟩ = O := ⟨_, rfl⟩
 have hA : reqA ⟨(dn : Int), ht, hg, hrr, key, val, old, lim, ten, qk, qb, rts⟩ = #[.int .i64 (dn : Int), .int .i64 ht, .int .u32 hg, .int .u8 hrr, .string K, .string Vb, .string O, .int .i64 lim, .int .i64 ten, .int .u64 qk, .int .u64 qb, .int .u8 rts] := by rw [← hK, ← hVb, ← hO]; rfl
 have HC := Lib.hid (show ∀ (U : World) (b : Nat), U.heap[b]? = some (.cells #[.int .i64 (dn : Int), .int .i64 ht, .int .u32 hg, .int .u8 hrr, .string K, .string Vb, .string O, .int .i64 lim, .int .i64 ten, .int .u64 qk, .int .u64 qb, .int .u8 rts] 39 (0, 0)) → U.cell? ⟨b, 0, none⟩ = some (.int .i64 (dn : Int)) ∧ U.cell? ⟨b, 1, none⟩ = some (.int .i64 ht) ∧ U.cell? ⟨b, 2, none⟩ = some (.int .u32 hg) ∧ U.cell? ⟨b, 3, none⟩ = some (.int .u8 hrr) ∧ U.cell? ⟨b, 4, none⟩ = some (.string K) ∧ U.cell? ⟨b, 5, none⟩ = some (.string Vb) ∧ U.cell? ⟨b, 6, none⟩ = some (.string O) ∧ U.cell? ⟨b, 7, none⟩ = some (.int .i64 lim) ∧ U.cell? ⟨b, 8, none⟩ = some (.int .i64 ten) ∧ U.cell? ⟨b, 9, none⟩ = some (.int .u64 qk) ∧ U.cell? ⟨b, 10, none⟩ = some (.int .u64 qb) ∧ U.cell? ⟨b, 11, none⟩ = some (.int .u8 rts) from fun U b h => by
  refine ⟨?_, ?_, ?_, ?_, ?_, ?_, ?_, ?_, ?_, ?_, ?_, ?_⟩ <;> (rw [Lib.cell_of_heap h]; rfl))
 obtain ⟨rr, hrr0⟩ : ∃ rr : Req, rr = ⟨(dn : Int), ht, hg, hrr, key, val, old, lim, ten, qk, qb, rts⟩ := ⟨_, rfl⟩
 rw [← hrr0] at HWE HNO hWQ hneq hBA hA ⊢
 unfold reqV at hBA hneq hWQ ⊢
 rw [hA] at hBA hneq hWQ ⊢
 have HB := Lib.hid hBA
 have HWQ := Lib.hid hWQ
 obtain ⟨Nm, hNm⟩ : ∃ Nm : ByteArray, ⟨(nameN dn).toArray⟩ = Nm := ⟨_, rfl⟩
 have hNs : Nm.size ≤ 6 := by rw [← hNm, size_mk]; exact hnl
 rw [hNm] at hnm
 have HNM := Lib.hid hnm
 have HNn := Lib.hid hNm
 have HDN := Lib.hid hd2
 have HFL := Lib.hid hfl
 have hk0 : (w.alloc (.cells #[.int .i64 (dn : Int), .int .i64 ht, .int .u32 hg, .int .u8 hrr, .string K, .string Vb, .string O, .int .i64 lim, .int .i64 ten, .int .u64 qk, .int .u64 qb, .int .u8 rts] 39)).heap[w.heap.size]? = some (.cells #[.int .i64 (dn : Int), .int .i64 ht, .int .u32 hg, .int .u8 hrr, .string K, .string Vb, .string O, .int .i64 lim, .int .i64 ten, .int .u64 qk, .int .u64 qb, .int .u8 rts] 39 (0, 0)) := (MapKept.heap_alloc w _).1
 have hl0 : Later w (w.alloc (.cells #[.int .i64 (dn : Int), .int .i64 ht, .int .u32 hg, .int .u8 hrr, .string K, .string Vb, .string O, .int .i64 lim, .int .i64 ten, .int .u64 qk, .int .u64 qb, .int .u8 rts] 39)) := (Later.refl w).alloc _
 obtain ⟨V0, hV0⟩ : ∃ V, w.alloc (.cells #[.int .i64 (dn : Int), .int .i64 ht, .int .u32 hg, .int .u8 hrr, .string K, .string Vb, .string O, .int .i64 lim, .int .i64 ten, .int .u64 qk, .int .u64 qb, .int .u8 rts] 39) = V := ⟨_, rfl⟩
 rw [hV0] at hk0 hl0
 have HK0 := Lib.hid hk0
 have HL0 := Lib.hid hl0
 have HV0 := Lib.hid hV0
 have c1 : decide ((dn : Int) < 1) = false := decide_eq_false (by omega)
 have c2 : decide ((10 : Int) < (dn : Int)) = false := decide_eq_false (by omega)
 have HCC := Lib.hid (And.intro c1 c2)
 clear hA hBA hWQ hNm hnm hnl hfl hk0 hl0 hV0 hrr0 hK hVb hO hd2 hr hwf
 cases bb with
 | false =>
  have HNE := Lib.hid hneq
  have HN2 := Lib.hid (HNO.out.2.1 rfl)
  clear hneq
  go_enter Tryz.func23, Tryz.ntmps23
  go_upto_region 1 with fail
  rw [HV0.out]
  refine wp_region_iv mixedW (fun D' a' W' => ∃ x0 x1 x2 x3 x4 x5 x6 x7 x8 x9 x10 x11 x12 x13, a' = ⟨#[.agg #[.int .i64 (dn : Int), .int .i64 ht, .int .u32 hg, .int .u8 hrr, .string K, .string Vb, .string O, .int .i64 lim, .int .i64 ten, .int .u64 qk, .int .u64 qb, .int .u8 rts], .pointer (some ⟨w.heap.size, 0, none⟩), .string ⟨#[]⟩, .int .i64 0, undef, undef, x0, x1, x2, x3, x4, x5, x6, x7, x8, x9, x10, x11, x12, x13, undef, undef, undef, undef, undef, undef, undef, undef, undef, undef, undef, undef, undef, undef, undef, undef], []⟩ ∧ (Later V0 W') ∧ (D' 0 = true → x0 = .pointer (some ⟨w.heap.size, 0, none⟩)) ∧ (D' 1 = true → x1 = .int .i64 (dn : Int)) ∧ (D' 2 = true → x2 = .bool false) ∧ (D' 3 = true → x3 = .bool false) ∧ (D' 4 = true → x4 = .pointer (some ⟨w.heap.size, 0, none⟩)) ∧ (D' 5 = true → x5 = .int .i64 (dn : Int)) ∧ (D' 6 = true → x6 = .bool false) ∧ (D' 7 = true → x7 = .bool false) ∧ (D' 8 = true → x8 = .bool false) ∧ (D' 9 = true → x9 = .agg #[.int .i64 (dn : Int), .int .i64 ht, .int .u32 hg, .int .u8 hrr, .string K, .string Vb, .string O, .int .i64 lim, .int .i64 ten, .int .u64 qk, .int .u64 qb, .int .u8 rts]) ∧ (D' 10 = true → x10 = .agg Q) ∧ (D' 11 = true → x11 = .agg #[.int .i64 (dn : Int), .int .i64 ht, .int .u32 hg, .int .u8 hrr, .string K, .string Vb, .string O, .int .i64 lim, .int .i64 ten, .int .u64 qk, .int .u64 qb, .int .u8 rts]) ∧ (D' 12 = true → x12 = .bool true) ∧ (D' 13 = true → x13 = .bool true)) (by kernel_rfl) ?_ ?_ ?_
  ·exact ⟨undef, undef, undef, undef, undef, undef, undef, undef, undef, undef, undef, undef, undef, undef, rfl, (Later.refl V0).drew, (fun h => by cases h), (fun h => by cases h), (fun h => by cases h), (fun h => by cases h), (fun h => by cases h), (fun h => by cases h), (fun h => by cases h), (fun h => by cases h), (fun h => by cases h), (fun h => by cases h), (fun h => by cases h), (fun h => by cases h), (fun h => by cases h), (fun h => by cases h)⟩
  ·intro i D' a' W' hi hDi hdep hcl hI
   obtain ⟨x0, x1, x2, x3, x4, x5, x6, x7, x8, x9, x10, x11, x12, x13, rfl, gL, f0, f1, f2, f3, f4, f5, f6, f7, f8, f9, f10, f11, f12, f13⟩ := hI
   have hi' : i = 0 ∨ i = 1 ∨ i = 2 ∨ i = 3 ∨ i = 4 ∨ i = 5 ∨ i = 6 ∨ i = 7 ∨ i = 8 ∨ i = 9 ∨ i = 10 ∨ i = 11 ∨ i = 12 ∨ i = 13 := by
    have : i < 14 := hi
    omega
   rcases hi' with rfl | rfl | rfl | rfl | rfl | rfl | rfl | rfl | rfl | rfl | rfl | rfl | rfl | rfl
   ·skip
    refine wpOp_step rfl (fun K' hK' => ?_)
    rw [if_pos (by rfl)]
    go_simp
    exact hK' _ _ ⟨_, x1, x2, x3, x4, x5, x6, x7, x8, x9, x10, x11, x12, x13, rfl, gL, (fun _ => rfl), f1, f2, f3, f4, f5, f6, f7, f8, f9, f10, f11, f12, f13⟩
   ·have q0 := f0 (hdep 0 (by kernel_rfl))
    subst q0
    have hk := (gL.block w.heap.size (Array.getElem?_eq_some_iff.1 HK0.out).1).trans HK0.out
    obtain ⟨e0, e1, e2, e3, e4, e5, e6, e7, e8, e9, e10, e11⟩ := HC.out W' w.heap.size hk
    refine wpOp_step rfl (fun K' hK' => ?_)
    rw [if_pos (by rfl)]
    go_simp
    exact hK' _ _ ⟨_, _, x2, x3, x4, x5, x6, x7, x8, x9, x10, x11, x12, x13, rfl, gL, (fun _ => rfl), (fun _ => rfl), f2, f3, f4, f5, f6, f7, f8, f9, f10, f11, f12, f13⟩
   ·have q1 := f1 (hdep 1 (by kernel_rfl))
    subst q1
    refine wpOp_step rfl (fun K' hK' => ?_)
    rw [if_pos (by rfl)]
    go_simp
    exact hK' _ _ ⟨x0, _, _, x3, x4, x5, x6, x7, x8, x9, x10, x11, x12, x13, rfl, gL, f0, (fun _ => rfl), (fun _ => rfl), f3, f4, f5, f6, f7, f8, f9, f10, f11, f12, f13⟩
   ·have q2 := f2 (hdep 2 (by kernel_rfl))
    subst q2
    refine wpOp_step rfl (fun K' hK' => ?_)
    rw [if_pos (by rfl)]
    go_simp
    exact hK' _ _ ⟨x0, x1, _, _, x4, x5, x6, x7, x8, x9, x10, x11, x12, x13, rfl, gL, f0, f1, (fun _ => rfl), (fun _ => rfl), f4, f5, f6, f7, f8, f9, f10, f11, f12, f13⟩
   ·have q3 := f3 (hdep 3 (by kernel_rfl))
    subst q3
    refine wpOp_step rfl (fun K' hK' => ?_)
    rw [if_pos (by rfl)]
    go_simp
    exact hK' _ _ ⟨x0, x1, x2, _, _, x5, x6, x7, x8, x9, x10, x11, x12, x13, rfl, gL, f0, f1, f2, (fun _ => rfl), (fun _ => rfl), f5, f6, f7, f8, f9, f10, f11, f12, f13⟩
   ·have q3 := f3 (hdep 3 (by kernel_rfl))
    have q4 := f4 (hdep 4 (by kernel_rfl))
    subst q3
    subst q4
    have hk := (gL.block w.heap.size (Array.getElem?_eq_some_iff.1 HK0.out).1).trans HK0.out
    obtain ⟨e0, e1, e2, e3, e4, e5, e6, e7, e8, e9, e10, e11⟩ := HC.out W' w.heap.size hk
    refine wpOp_step rfl (fun K' hK' => ?_)
    rw [if_pos (by rfl)]
    go_simp
    exact hK' _ _ ⟨x0, x1, x2, _, _, _, x6, x7, x8, x9, x10, x11, x12, x13, rfl, gL, f0, f1, f2, (fun _ => rfl), (fun _ => rfl), (fun _ => rfl), f6, f7, f8, f9, f10, f11, f12, f13⟩
   ·have q3 := f3 (hdep 3 (by kernel_rfl))
    have q5 := f5 (hdep 5 (by kernel_rfl))
    subst q3
    subst q5
    refine wpOp_step rfl (fun K' hK' => ?_)
    rw [if_pos (by rfl)]
    go_simp
    exact hK' _ _ ⟨x0, x1, x2, _, x4, _, _, x7, x8, x9, x10, x11, x12, x13, rfl, gL, f0, f1, f2, (fun _ => rfl), f4, (fun _ => rfl), (fun _ => rfl), f7, f8, f9, f10, f11, f12, f13⟩
   ·have q3 := f3 (hdep 3 (by kernel_rfl))
    have q6 := f6 (hdep 6 (by kernel_rfl))
    subst q3
    subst q6
    refine wpOp_step rfl (fun K' hK' => ?_)
    rw [if_pos (by rfl)]
    go_simp
    exact hK' _ _ ⟨x0, x1, x2, _, x4, x5, _, _, x8, x9, x10, x11, x12, x13, rfl, gL, f0, f1, f2, (fun _ => rfl), f4, f5, (fun _ => rfl), (fun _ => rfl), f8, f9, f10, f11, f12, f13⟩
   ·have q7 := f7 (hdep 7 (by kernel_rfl))
    subst q7
    refine wpOp_step rfl (fun K' hK' => ?_)
    rw [if_pos (by rfl)]
    go_simp
    exact hK' _ _ ⟨x0, x1, x2, x3, x4, x5, x6, _, _, x9, x10, x11, x12, x13, rfl, gL, f0, f1, f2, f3, f4, f5, f6, (fun _ => rfl), (fun _ => rfl), f9, f10, f11, f12, f13⟩
   ·have q8 := f8 (hdep 8 (by kernel_rfl))
    subst q8
    have hk := (gL.block w.heap.size (Array.getElem?_eq_some_iff.1 HK0.out).1).trans HK0.out
    obtain ⟨e0, e1, e2, e3, e4, e5, e6, e7, e8, e9, e10, e11⟩ := HC.out W' w.heap.size hk
    refine wpOp_step rfl (fun K' hK' => ?_)
    rw [if_pos (by rfl)]
    go_simp
    exact hK' _ _ ⟨x0, x1, x2, x3, x4, x5, x6, x7, _, _, x10, x11, x12, x13, rfl, gL, f0, f1, f2, f3, f4, f5, f6, f7, (fun _ => rfl), (fun _ => rfl), f10, f11, f12, f13⟩
   ·have q8 := f8 (hdep 8 (by kernel_rfl))
    have q9 := f9 (hdep 9 (by kernel_rfl))
    subst q8
    subst q9
    refine wpOp_step rfl (fun K' hK' => ?_)
    rw [if_pos (by rfl)]
    go_simp
    refine (HB.out W').mono ?_
    rintro y8 w8 ⟨rfl, hl1⟩
    exact hK' _ _ ⟨x0, x1, x2, x3, x4, x5, x6, x7, _, _, _, x11, x12, x13, rfl, (gL.trans hl1), f0, f1, f2, f3, f4, f5, f6, f7, (fun _ => rfl), (fun _ => rfl), (fun _ => rfl), f11, f12, f13⟩
   ·have q8 := f8 (hdep 8 (by kernel_rfl))
    subst q8
    have hk := (gL.block w.heap.size (Array.getElem?_eq_some_iff.1 HK0.out).1).trans HK0.out
    obtain ⟨e0, e1, e2, e3, e4, e5, e6, e7, e8, e9, e10, e11⟩ := HC.out W' w.heap.size hk
    refine wpOp_step rfl (fun K' hK' => ?_)
    rw [if_pos (by rfl)]
    go_simp
    exact hK' _ _ ⟨x0, x1, x2, x3, x4, x5, x6, x7, _, x9, x10, _, x12, x13, rfl, gL, f0, f1, f2, f3, f4, f5, f6, f7, (fun _ => rfl), f9, f10, (fun _ => rfl), f12, f13⟩
   ·have q8 := f8 (hdep 8 (by kernel_rfl))
    have q10 := f10 (hdep 10 (by kernel_rfl))
    have q11 := f11 (hdep 11 (by kernel_rfl))
    subst q8
    subst q10
    subst q11
    refine wpOp_step rfl (fun K' hK' => ?_)
    rw [if_pos (by rfl)]
    refine wp_neq39 (.tmp 16) (.tmp 17) 39 rfl Q #[.int .i64 (dn : Int), .int .i64 ht, .int .u32 hg, .int .u8 hrr, .string K, .string Vb, .string O, .int .i64 lim, .int .i64 ten, .int .u64 qk, .int .u64 qb, .int .u8 rts] rfl rfl true (HNE.out W') ?_
    exact hK' _ _ ⟨x0, x1, x2, x3, x4, x5, x6, x7, _, x9, _, _, _, x13, rfl, gL, f0, f1, f2, f3, f4, f5, f6, f7, (fun _ => rfl), f9, (fun _ => rfl), (fun _ => rfl), (fun _ => rfl), f13⟩
   ·have q8 := f8 (hdep 8 (by kernel_rfl))
    have q12 := f12 (hdep 12 (by kernel_rfl))
    subst q8
    subst q12
    refine wpOp_step rfl (fun K' hK' => ?_)
    rw [if_pos (by rfl)]
    go_simp
    exact hK' _ _ ⟨x0, x1, x2, x3, x4, x5, x6, x7, _, x9, x10, x11, _, _, rfl, gL, f0, f1, f2, f3, f4, f5, f6, f7, (fun _ => rfl), f9, f10, f11, (fun _ => rfl), (fun _ => rfl)⟩
  ·rintro D' a' W' hD' ⟨x0, x1, x2, x3, x4, x5, x6, x7, x8, x9, x10, x11, x12, x13, rfl, gL, f0, f1, f2, f3, f4, f5, f6, f7, f8, f9, f10, f11, f12, f13⟩
   have q13 := f13 (hD' 13 (by decide))
   subst q13
   have HGL := Lib.hid gL
   clear gL f0 f1 f2 f3 f4 f5 f6 f7 f8 f9 f10 f11 f12 f13
   go_wp2_with fail
   go_ret2
   exact ⟨by rw [HN2.out]; rfl, HL0.out.trans HGL.out⟩
 | true =>
  have HNE := Lib.hid hneq
  have HYES := Lib.hid (fun ws => HNO.out.2.2.1 ws rfl)
  clear hneq
  go_enter Tryz.func23, Tryz.ntmps23
  go_upto_region 1 with fail
  rw [HV0.out]
  refine wp_region_iv mixedW (fun D' a' W' => ∃ x0 x1 x2 x3 x4 x5 x6 x7 x8 x9 x10 x11 x12 x13, a' = ⟨#[.agg #[.int .i64 (dn : Int), .int .i64 ht, .int .u32 hg, .int .u8 hrr, .string K, .string Vb, .string O, .int .i64 lim, .int .i64 ten, .int .u64 qk, .int .u64 qb, .int .u8 rts], .pointer (some ⟨w.heap.size, 0, none⟩), .string ⟨#[]⟩, .int .i64 0, undef, undef, x0, x1, x2, x3, x4, x5, x6, x7, x8, x9, x10, x11, x12, x13, undef, undef, undef, undef, undef, undef, undef, undef, undef, undef, undef, undef, undef, undef, undef, undef], []⟩ ∧ (Later V0 W') ∧ (D' 0 = true → x0 = .pointer (some ⟨w.heap.size, 0, none⟩)) ∧ (D' 1 = true → x1 = .int .i64 (dn : Int)) ∧ (D' 2 = true → x2 = .bool false) ∧ (D' 3 = true → x3 = .bool false) ∧ (D' 4 = true → x4 = .pointer (some ⟨w.heap.size, 0, none⟩)) ∧ (D' 5 = true → x5 = .int .i64 (dn : Int)) ∧ (D' 6 = true → x6 = .bool false) ∧ (D' 7 = true → x7 = .bool false) ∧ (D' 8 = true → x8 = .bool false) ∧ (D' 9 = true → x9 = .agg #[.int .i64 (dn : Int), .int .i64 ht, .int .u32 hg, .int .u8 hrr, .string K, .string Vb, .string O, .int .i64 lim, .int .i64 ten, .int .u64 qk, .int .u64 qb, .int .u8 rts]) ∧ (D' 10 = true → x10 = .agg Q) ∧ (D' 11 = true → x11 = .agg #[.int .i64 (dn : Int), .int .i64 ht, .int .u32 hg, .int .u8 hrr, .string K, .string Vb, .string O, .int .i64 lim, .int .i64 ten, .int .u64 qk, .int .u64 qb, .int .u8 rts]) ∧ (D' 12 = true → x12 = .bool false) ∧ (D' 13 = true → x13 = .bool false)) (by kernel_rfl) ?_ ?_ ?_
  ·exact ⟨undef, undef, undef, undef, undef, undef, undef, undef, undef, undef, undef, undef, undef, undef, rfl, (Later.refl V0).drew, (fun h => by cases h), (fun h => by cases h), (fun h => by cases h), (fun h => by cases h), (fun h => by cases h), (fun h => by cases h), (fun h => by cases h), (fun h => by cases h), (fun h => by cases h), (fun h => by cases h), (fun h => by cases h), (fun h => by cases h), (fun h => by cases h), (fun h => by cases h)⟩
  ·intro i D' a' W' hi hDi hdep hcl hI
   obtain ⟨x0, x1, x2, x3, x4, x5, x6, x7, x8, x9, x10, x11, x12, x13, rfl, gL, f0, f1, f2, f3, f4, f5, f6, f7, f8, f9, f10, f11, f12, f13⟩ := hI
   have hi' : i = 0 ∨ i = 1 ∨ i = 2 ∨ i = 3 ∨ i = 4 ∨ i = 5 ∨ i = 6 ∨ i = 7 ∨ i = 8 ∨ i = 9 ∨ i = 10 ∨ i = 11 ∨ i = 12 ∨ i = 13 := by
    have : i < 14 := hi
    omega
   rcases hi' with rfl | rfl | rfl | rfl | rfl | rfl | rfl | rfl | rfl | rfl | rfl | rfl | rfl | rfl
   ·skip
    refine wpOp_step rfl (fun K' hK' => ?_)
    rw [if_pos (by rfl)]
    go_simp
    exact hK' _ _ ⟨_, x1, x2, x3, x4, x5, x6, x7, x8, x9, x10, x11, x12, x13, rfl, gL, (fun _ => rfl), f1, f2, f3, f4, f5, f6, f7, f8, f9, f10, f11, f12, f13⟩
   ·have q0 := f0 (hdep 0 (by kernel_rfl))
    subst q0
    have hk := (gL.block w.heap.size (Array.getElem?_eq_some_iff.1 HK0.out).1).trans HK0.out
    obtain ⟨e0, e1, e2, e3, e4, e5, e6, e7, e8, e9, e10, e11⟩ := HC.out W' w.heap.size hk
    refine wpOp_step rfl (fun K' hK' => ?_)
    rw [if_pos (by rfl)]
    go_simp
    exact hK' _ _ ⟨_, _, x2, x3, x4, x5, x6, x7, x8, x9, x10, x11, x12, x13, rfl, gL, (fun _ => rfl), (fun _ => rfl), f2, f3, f4, f5, f6, f7, f8, f9, f10, f11, f12, f13⟩
   ·have q1 := f1 (hdep 1 (by kernel_rfl))
    subst q1
    refine wpOp_step rfl (fun K' hK' => ?_)
    rw [if_pos (by rfl)]
    go_simp
    exact hK' _ _ ⟨x0, _, _, x3, x4, x5, x6, x7, x8, x9, x10, x11, x12, x13, rfl, gL, f0, (fun _ => rfl), (fun _ => rfl), f3, f4, f5, f6, f7, f8, f9, f10, f11, f12, f13⟩
   ·have q2 := f2 (hdep 2 (by kernel_rfl))
    subst q2
    refine wpOp_step rfl (fun K' hK' => ?_)
    rw [if_pos (by rfl)]
    go_simp
    exact hK' _ _ ⟨x0, x1, _, _, x4, x5, x6, x7, x8, x9, x10, x11, x12, x13, rfl, gL, f0, f1, (fun _ => rfl), (fun _ => rfl), f4, f5, f6, f7, f8, f9, f10, f11, f12, f13⟩
   ·have q3 := f3 (hdep 3 (by kernel_rfl))
    subst q3
    refine wpOp_step rfl (fun K' hK' => ?_)
    rw [if_pos (by rfl)]
    go_simp
    exact hK' _ _ ⟨x0, x1, x2, _, _, x5, x6, x7, x8, x9, x10, x11, x12, x13, rfl, gL, f0, f1, f2, (fun _ => rfl), (fun _ => rfl), f5, f6, f7, f8, f9, f10, f11, f12, f13⟩
   ·have q3 := f3 (hdep 3 (by kernel_rfl))
    have q4 := f4 (hdep 4 (by kernel_rfl))
    subst q3
    subst q4
    have hk := (gL.block w.heap.size (Array.getElem?_eq_some_iff.1 HK0.out).1).trans HK0.out
    obtain ⟨e0, e1, e2, e3, e4, e5, e6, e7, e8, e9, e10, e11⟩ := HC.out W' w.heap.size hk
    refine wpOp_step rfl (fun K' hK' => ?_)
    rw [if_pos (by rfl)]
    go_simp
    exact hK' _ _ ⟨x0, x1, x2, _, _, _, x6, x7, x8, x9, x10, x11, x12, x13, rfl, gL, f0, f1, f2, (fun _ => rfl), (fun _ => rfl), (fun _ => rfl), f6, f7, f8, f9, f10, f11, f12, f13⟩
   ·have q3 := f3 (hdep 3 (by kernel_rfl))
    have q5 := f5 (hdep 5 (by kernel_rfl))
    subst q3
    subst q5
    refine wpOp_step rfl (fun K' hK' => ?_)
    rw [if_pos (by rfl)]
    go_simp
    exact hK' _ _ ⟨x0, x1, x2, _, x4, _, _, x7, x8, x9, x10, x11, x12, x13, rfl, gL, f0, f1, f2, (fun _ => rfl), f4, (fun _ => rfl), (fun _ => rfl), f7, f8, f9, f10, f11, f12, f13⟩
   ·have q3 := f3 (hdep 3 (by kernel_rfl))
    have q6 := f6 (hdep 6 (by kernel_rfl))
    subst q3
    subst q6
    refine wpOp_step rfl (fun K' hK' => ?_)
    rw [if_pos (by rfl)]
    go_simp
    exact hK' _ _ ⟨x0, x1, x2, _, x4, x5, _, _, x8, x9, x10, x11, x12, x13, rfl, gL, f0, f1, f2, (fun _ => rfl), f4, f5, (fun _ => rfl), (fun _ => rfl), f8, f9, f10, f11, f12, f13⟩
   ·have q7 := f7 (hdep 7 (by kernel_rfl))
    subst q7
    refine wpOp_step rfl (fun K' hK' => ?_)
    rw [if_pos (by rfl)]
    go_simp
    exact hK' _ _ ⟨x0, x1, x2, x3, x4, x5, x6, _, _, x9, x10, x11, x12, x13, rfl, gL, f0, f1, f2, f3, f4, f5, f6, (fun _ => rfl), (fun _ => rfl), f9, f10, f11, f12, f13⟩
   ·have q8 := f8 (hdep 8 (by kernel_rfl))
    subst q8
    have hk := (gL.block w.heap.size (Array.getElem?_eq_some_iff.1 HK0.out).1).trans HK0.out
    obtain ⟨e0, e1, e2, e3, e4, e5, e6, e7, e8, e9, e10, e11⟩ := HC.out W' w.heap.size hk
    refine wpOp_step rfl (fun K' hK' => ?_)
    rw [if_pos (by rfl)]
    go_simp
    exact hK' _ _ ⟨x0, x1, x2, x3, x4, x5, x6, x7, _, _, x10, x11, x12, x13, rfl, gL, f0, f1, f2, f3, f4, f5, f6, f7, (fun _ => rfl), (fun _ => rfl), f10, f11, f12, f13⟩
   ·have q8 := f8 (hdep 8 (by kernel_rfl))
    have q9 := f9 (hdep 9 (by kernel_rfl))
    subst q8
    subst q9
    refine wpOp_step rfl (fun K' hK' => ?_)
    rw [if_pos (by rfl)]
    go_simp
    refine (HB.out W').mono ?_
    rintro y8 w8 ⟨rfl, hl1⟩
    exact hK' _ _ ⟨x0, x1, x2, x3, x4, x5, x6, x7, _, _, _, x11, x12, x13, rfl, (gL.trans hl1), f0, f1, f2, f3, f4, f5, f6, f7, (fun _ => rfl), (fun _ => rfl), (fun _ => rfl), f11, f12, f13⟩
   ·have q8 := f8 (hdep 8 (by kernel_rfl))
    subst q8
    have hk := (gL.block w.heap.size (Array.getElem?_eq_some_iff.1 HK0.out).1).trans HK0.out
    obtain ⟨e0, e1, e2, e3, e4, e5, e6, e7, e8, e9, e10, e11⟩ := HC.out W' w.heap.size hk
    refine wpOp_step rfl (fun K' hK' => ?_)
    rw [if_pos (by rfl)]
    go_simp
    exact hK' _ _ ⟨x0, x1, x2, x3, x4, x5, x6, x7, _, x9, x10, _, x12, x13, rfl, gL, f0, f1, f2, f3, f4, f5, f6, f7, (fun _ => rfl), f9, f10, (fun _ => rfl), f12, f13⟩
   ·have q8 := f8 (hdep 8 (by kernel_rfl))
    have q10 := f10 (hdep 10 (by kernel_rfl))
    have q11 := f11 (hdep 11 (by kernel_rfl))
    subst q8
    subst q10
    subst q11
    refine wpOp_step rfl (fun K' hK' => ?_)
    rw [if_pos (by rfl)]
    refine wp_neq39 (.tmp 16) (.tmp 17) 39 rfl Q #[.int .i64 (dn : Int), .int .i64 ht, .int .u32 hg, .int .u8 hrr, .string K, .string Vb, .string O, .int .i64 lim, .int .i64 ten, .int .u64 qk, .int .u64 qb, .int .u8 rts] rfl rfl false (HNE.out W') ?_
    exact hK' _ _ ⟨x0, x1, x2, x3, x4, x5, x6, x7, _, x9, _, _, _, x13, rfl, gL, f0, f1, f2, f3, f4, f5, f6, f7, (fun _ => rfl), f9, (fun _ => rfl), (fun _ => rfl), (fun _ => rfl), f13⟩
   ·have q8 := f8 (hdep 8 (by kernel_rfl))
    have q12 := f12 (hdep 12 (by kernel_rfl))
    subst q8
    subst q12
    refine wpOp_step rfl (fun K' hK' => ?_)
    rw [if_pos (by rfl)]
    go_simp
    exact hK' _ _ ⟨x0, x1, x2, x3, x4, x5, x6, x7, _, x9, x10, x11, _, _, rfl, gL, f0, f1, f2, f3, f4, f5, f6, f7, (fun _ => rfl), f9, f10, f11, (fun _ => rfl), (fun _ => rfl)⟩
  ·rintro D' a' W' hD' ⟨x0, x1, x2, x3, x4, x5, x6, x7, x8, x9, x10, x11, x12, x13, rfl, gL, f0, f1, f2, f3, f4, f5, f6, f7, f8, f9, f10, f11, f12, f13⟩
   have q13 := f13 (hD' 13 (by decide))
   subst q13
   have HGL := Lib.hid gL
   clear gL f0 f1 f2 f3 f4 f5 f6 f7 f8 f9 f10 f11 f12 f13
   obtain ⟨V1, hV1⟩ : ∃ V, V = W' := ⟨_, rfl⟩
   rw [← hV1] at HGL ⊢
   clear hV1
   have hk1 := (HGL.out.block w.heap.size (Array.getElem?_eq_some_iff.1 HK0.out).1).trans HK0.out
   have HK1 := Lib.hid hk1
   obtain ⟨e0, e1, e2, e3, e4, e5, e6, e7, e8, e9, e10, e11⟩ := HC.out V1 w.heap.size hk1
   clear hk1
   go_wp2_with fail
   refine (HWQ.out _).mono ?_
   intro e V3 hwend
   obtain ⟨hl3, ⟨v, ws, rfl, hlim, hsh, hsl⟩ | ⟨v, rfl, hbad⟩⟩ := HWE.out e _ _ hwend
   ·have HL3 := Lib.hid ((HL0.out.trans HGL.out).trans hl3)
    have hk3 := (hl3.block w.heap.size (Array.getElem?_eq_some_iff.1 HK1.out).1).trans HK1.out
    have HK3 := Lib.hid hk3
    have HSL := Lib.hid hsl
    obtain ⟨h7, h8⟩ := HNO.out.2.2.2 ws hsh
    have hne : ws ≠ [] := by intro h; rw [h] at h7; have := HFL.out.1; simp at h7; omega
    have hjl := jn_len ws
    have hf4 := HFL.out.2
    have hyes := HYES.out ws hlim hsh
    obtain ⟨J, hJ⟩ : ∃ J : ByteArray, ⟨(jn ws).toArray⟩ = J := ⟨_, rfl⟩
    have hJs : J.size ≤ 200000000 := by rw [← hJ, size_mk]; rw [h7] at hjl; omega
    have HJL := Lib.hid (show sumL ws + ws.length ≤ 1000000000 ∧ (⟨(jn ws).toArray⟩ : ByteArray) = J from ⟨by rw [h7]; omega, hJ⟩)
    have HCAT := Lib.hid (show ¬ 9223372036854775807 < Nm.size + 1 ∧ ¬ 9223372036854775807 < Nm.size + 1 + J.size by omega)
    have HFIN := Lib.hid (show SREnd res (.returned (.tuple #[.string (Nm ++ ⟨#[32]⟩ ++ J), .int .i64 0])) by
     rw [hyes, jn_cons _ _ hne]
     show _ = _
     have h1 : (⟨#[32]⟩ : ByteArray) = ⟨[32].toArray⟩ := rfl
     rw [← HNn.out, ← hJ, h1, str_app, str_app]
     simp [strV])
    clear hl3 hk3 hsl h7 h8 hne hjl hf4 hyes hJ hJs hlim hsh hwend e0 e1 e2 e3 e4 e5 e6 e7 e8 e9 e10 e11
    go_wp2_with fail
    refine wp_region_iv mixedW (fun D' a' W' => ∃ z0 z1 z2 z3 z4 z5 z6 z7 z8 y2 y3, a' = ⟨#[Value.agg #[Value.int IntKind.i64 ↑dn, Value.int IntKind.i64 ht, Value.int IntKind.u32 hg, Value.int IntKind.u8 hrr, Value.string K, Value.string Vb, Value.string O, Value.int IntKind.i64 lim, Value.int IntKind.i64 ten, Value.int IntKind.u64 qk, Value.int IntKind.u64 qb, Value.int IntKind.u8 rts], Value.pointer (some { block := w.heap.size, off := 0 }), y2, y3, v, Value.bool true, x0, x1, x2, x3, x4, x5, x6, x7, x8, x9, x10, x11, x12, Value.bool false, Value.tuple #[v, Value.bool true], Value.agg #[Value.int IntKind.i64 ↑dn, Value.int IntKind.i64 ht, Value.int IntKind.u32 hg, Value.int IntKind.u8 hrr, Value.string K, Value.string Vb, Value.string O, Value.int IntKind.i64 lim, Value.int IntKind.i64 ten, Value.int IntKind.u64 qk, Value.int IntKind.u64 qb, Value.int IntKind.u8 rts], Value.tuple #[v, Value.bool true], v, Value.bool true, Value.bool true, Value.bool false, z0, z1, z2, z3, z4, z5, z6, z7, z8], []⟩ ∧ (Later V3 W') ∧ (D' 0 = true → ∃ Z, z0 = .slice (some ⟨Z, 0, none⟩) 11 11 ∧ W'.heap[Z]? = some (.cells (wsC namesL).toArray 9 (0, 0))) ∧ (D' 3 = true → ∃ Z, z3 = .pointer (some ⟨Z, dn, none⟩) ∧ W'.heap[Z]? = some (.cells (wsC namesL).toArray 9 (0, 0))) ∧ (D' 1 = true → z1 = .pointer (some ⟨w.heap.size, 0, none⟩)) ∧ (D' 2 = true → z2 = .int .i64 (dn : Int)) ∧ (D' 4 = true → z4 = .string Nm) ∧ (D' 5 = true → z5 = .string (Nm ++ ⟨#[32]⟩)) ∧ (D' 6 = true → z6 = v) ∧ (D' 7 = true → z7 = .string J) ∧ (D' 8 = true → z8 = .string (Nm ++ ⟨#[32]⟩ ++ J)) ∧ (D' 9 = true → y2 = .string (Nm ++ ⟨#[32]⟩ ++ J)) ∧ (D' 10 = true → y3 = .int .i64 0)) (by kernel_rfl) ?_ ?_ ?_
    ·exact ⟨_, _, _, _, _, _, _, _, _, _, _, rfl, (Later.refl V3).drew, (fun h => by cases h), (fun h => by cases h), (fun h => by cases h), (fun h => by cases h), (fun h => by cases h), (fun h => by cases h), (fun h => by cases h), (fun h => by cases h), (fun h => by cases h), (fun h => by cases h), (fun h => by cases h)⟩
    ·intro i D' a' W' hi hDi hdep hcl hI
     obtain ⟨z0, z1, z2, z3, z4, z5, z6, z7, z8, y2, y3, rfl, gL, gN, gP, f1, f2, f4, f5, f6, f7, f8, f9, f10⟩ := hI
     have hi' : i = 0 ∨ i = 1 ∨ i = 2 ∨ i = 3 ∨ i = 4 ∨ i = 5 ∨ i = 6 ∨ i = 7 ∨ i = 8 ∨ i = 9 ∨ i = 10 := by
      have : i < 11 := hi
      omega
     rcases hi' with rfl | rfl | rfl | rfl | rfl | rfl | rfl | rfl | rfl | rfl | rfl
     ·have h3 := hcl.no hDi (k := 3) (by decide) (by kernel_rfl)
      refine wpOp_step rfl (fun K' hK' => ?_)
      rw [if_pos (by rfl)]
      go_simp
      refine (refNames_is W').mono ?_
      rintro y8 w8 ⟨rfl, hw8⟩
      have hl1 : Later W' w8 := by rw [hw8]; exact (Later.refl W').alloc _
      have hz : w8.heap[W'.heap.size]? = some (.cells (wsC namesL).toArray 9 (0, 0)) := by rw [hw8]; exact (MapKept.heap_alloc W' _).1
      exact hK' _ _ ⟨_, z1, z2, z3, z4, z5, z6, z7, z8, y2, y3, rfl, (gL.trans hl1), (fun _ => ⟨_, rfl, hz⟩), (fun h => absurd (show D' 3 = true from h) (by rw [h3]; decide)), f1, f2, f4, f5, f6, f7, f8, f9, f10⟩
     ·skip
      refine wpOp_step rfl (fun K' hK' => ?_)
      rw [if_pos (by rfl)]
      go_simp
      exact hK' _ _ ⟨z0, _, z2, z3, z4, z5, z6, z7, z8, y2, y3, rfl, gL, gN, gP, (fun _ => rfl), f2, f4, f5, f6, f7, f8, f9, f10⟩
     ·have q1 := f1 (hdep 1 (by kernel_rfl))
      subst q1
      have hk := (gL.block w.heap.size (Array.getElem?_eq_some_iff.1 HK3.out).1).trans HK3.out
      obtain ⟨e0, e1, e2, e3, e4, e5, e6, e7, e8, e9, e10, e11⟩ := HC.out W' w.heap.size hk
      refine wpOp_step rfl (fun K' hK' => ?_)
      rw [if_pos (by rfl)]
      go_simp
      exact hK' _ _ ⟨z0, _, _, z3, z4, z5, z6, z7, z8, y2, y3, rfl, gL, gN, gP, (fun _ => rfl), (fun _ => rfl), f4, f5, f6, f7, f8, f9, f10⟩
     ·obtain ⟨Z, qZ, hZ⟩ := gN (hdep 0 (by kernel_rfl))
      subst qZ
      have q2 := f2 (hdep 2 (by kernel_rfl))
      subst q2
      have hd11 : (dn : Int) < 11 := by have := HDN.out; omega
      refine wpOp_step rfl (fun K' hK' => ?_)
      rw [if_pos (by rfl)]
      go_simp
      exact hK' _ _ ⟨_, z1, _, _, z4, z5, z6, z7, z8, y2, y3, rfl, gL, (fun _ => ⟨Z, rfl, hZ⟩), (fun _ => ⟨Z, rfl, hZ⟩), f1, (fun _ => rfl), f4, f5, f6, f7, f8, f9, f10⟩
     ·obtain ⟨Z, qZ, hZ⟩ := gP (hdep 3 (by kernel_rfl))
      subst qZ
      have hc : W'.cell? ⟨Z, dn, none⟩ = some (.string Nm) := by rw [Lib.cell_of_heap hZ]; exact HNM.out
      refine wpOp_step rfl (fun K' hK' => ?_)
      rw [if_pos (by rfl)]
      go_simp
      exact hK' _ _ ⟨z0, z1, z2, _, _, z5, z6, z7, z8, y2, y3, rfl, gL, gN, (fun _ => ⟨Z, rfl, hZ⟩), f1, f2, (fun _ => rfl), f5, f6, f7, f8, f9, f10⟩
     ·have q4 := f4 (hdep 4 (by kernel_rfl))
      subst q4
      have hc1 := HCAT.out.1
      refine wpOp_step rfl (fun K' hK' => ?_)
      rw [if_pos (by rfl)]
      go_simp
      exact hK' _ _ ⟨z0, z1, z2, z3, _, _, z6, z7, z8, y2, y3, rfl, gL, gN, gP, f1, f2, (fun _ => rfl), (fun _ => rfl), f6, f7, f8, f9, f10⟩
     ·skip
      refine wpOp_step rfl (fun K' hK' => ?_)
      rw [if_pos (by rfl)]
      go_simp
      exact hK' _ _ ⟨z0, z1, z2, z3, z4, z5, _, z7, z8, y2, y3, rfl, gL, gN, gP, f1, f2, f4, f5, (fun _ => rfl), f7, f8, f9, f10⟩
     ·have q6 := f6 (hdep 6 (by kernel_rfl))
      subst q6
      refine wpOp_step rfl (fun K' hK' => ?_)
      rw [if_pos (by rfl)]
      go_simp
      refine (refJoin_is _ ws W' (HSL.out.later gL) HJL.out.1).mono ?_
      rintro y8 w8 ⟨h1, h2⟩
      rw [HJL.out.2] at h1
      subst h1
      subst h2
      exact hK' _ _ ⟨z0, z1, z2, z3, z4, z5, _, _, z8, y2, y3, rfl, gL, gN, gP, f1, f2, f4, f5, (fun _ => rfl), (fun _ => rfl), f8, f9, f10⟩
     ·have q5 := f5 (hdep 5 (by kernel_rfl))
      have q7 := f7 (hdep 7 (by kernel_rfl))
      subst q5
      subst q7
      have hc2 := HCAT.out.2
      refine wpOp_step rfl (fun K' hK' => ?_)
      rw [if_pos (by rfl)]
      go_simp
      exact hK' _ _ ⟨z0, z1, z2, z3, z4, _, z6, _, _, y2, y3, rfl, gL, gN, gP, f1, f2, f4, (fun _ => rfl), f6, (fun _ => rfl), (fun _ => rfl), f9, f10⟩
     ·have q8 := f8 (hdep 8 (by kernel_rfl))
      subst q8
      refine wpOp_step rfl (fun K' hK' => ?_)
      rw [if_pos (by rfl)]
      go_simp
      exact hK' _ _ ⟨z0, z1, z2, z3, z4, z5, z6, z7, _, _, y3, rfl, gL, gN, gP, f1, f2, f4, f5, f6, f7, (fun _ => rfl), (fun _ => rfl), f10⟩
     ·skip
      refine wpOp_step rfl (fun K' hK' => ?_)
      rw [if_pos (by rfl)]
      go_simp
      exact hK' _ _ ⟨z0, z1, z2, z3, z4, z5, z6, z7, z8, y2, _, rfl, gL, gN, gP, f1, f2, f4, f5, f6, f7, f8, f9, (fun _ => rfl)⟩
    ·rintro D' a' W' hD' ⟨z0, z1, z2, z3, z4, z5, z6, z7, z8, y2, y3, rfl, gL, gN, gP, f1, f2, f4, f5, f6, f7, f8, f9, f10⟩
     have q9 := f9 (hD' 9 (by decide))
     have q10 := f10 (hD' 10 (by decide))
     subst q9
     subst q10
     have HGL := Lib.hid gL
     clear gL gN gP f1 f2 f4 f5 f6 f7 f8 f9 f10
     go_wp2_with fail
     go_ret2
     exact ⟨HFIN.out, HL3.out.trans HGL.out⟩
   ·have HL3 := Lib.hid ((HL0.out.trans HGL.out).trans hl3)
    have HN3 := Lib.hid (HNO.out.1 hbad)
    clear hl3 hbad hwend e0 e1 e2 e3 e4 e5 e6 e7 e8 e9 e10 e11
    go_wp2_with fail
    go_ret2
    exact ⟨by rw [HN3.out]; rfl, HL3.out⟩
theorem refShow_is (r : Req) (hr : r.fit) (hwf : r.wf) (w : World) : Calls Tryz.prog 23 #[reqV r] w fun e w' => SREnd (showP r) e ∧ Later w w' := by
 rw [showP_eq r ⟨hr.hg, hr.qk, hr.qb, hr.lim⟩]
 cases h : deedN r.deed with
 | none =>
  refine refShow_out r ?_ w
  unfold deedN at h
  split at h
  ·cases h
  ·omega
 | some dn => exact refShow_in r hr hwf dn h w
end Go.Proofs.YtkbedajbbakihaaGreatDoor
