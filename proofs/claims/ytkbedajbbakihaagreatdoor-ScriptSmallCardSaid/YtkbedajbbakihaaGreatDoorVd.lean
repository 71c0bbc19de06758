/-
 Texts of this proof, put together (Dn, LmZ): each part's first words say what it holds. Conditions: as each part says.
-/
import Derived.Test.YtkbedajbbakihaaGreatDoorQh1
import Derived.Test.YtkbedajbbakihaaGreatDoorQi
import Derived.Test.YtkbedajbbakihaaGreatDoorQe1
/-
 What ParseDone does with one line "0 0 0 0 ok" (its closure), walked. Conditions: the reader and the cells are the call's own.
-/
namespace Go.Proofs.YtkbedajbbakihaaGreatDoor
open Go.RowKit Go.Sort Go.Lib
set_option linter.unusedSimpArgs false
set_option linter.unusedVariables false

theorem mixedD : Tryz.prog.follows .mixedOrders = true := by kernel_rfl
/-- a result of zeros -/
def doneZ : Array Value := #[.int .i64 0, .int .i64 0, .int .i64 0, .int .i64 0, .int .i64 0, .string ⟨#[]⟩, .slice none 0 0, .int .i64 0, .int .u32 0, .int .u8 0, .int .u64 0, .int .u64 0, .int .u64 0, .int .u64 0, .int .u64 0, .int .u64 0, .int .u64 0, .int .u64 0, .int .u64 0, .int .u64 0, .complex .f64 0 0]
theorem doneZ_info : (Tryz.prog.info? 106).map (·.size) = some 21 := by kernel_rfl
theorem doneZ_one : doneZ.all (·.oneCell') = true := by simp [doneZ, Value.oneCell']
def nZ : List UInt8 := [48]
theorem num_z : num nZ = some 0 := by
 have h : Lib.itoa 0 = nZ := by kernel_rfl
 rw [← h]
 exact num_itoa 0 (by decide) (by decide)
/-- the closure's cells -/
structure D1 (X K P7 P8 P9 : Nat) (w : World) : Prop where
 ord : P7 < X ∧ K ≤ P8 ∧ P8 < P9 ∧ P9 < w.heap.size
 c7 : w.heap[P7]? = some (.cells #[.bool true] 4 (0, 0))
 c8 : w.heap[P8]? = some (.cells #[.pointer (some ⟨X, 0, none⟩)] 74 (0, 0))
 c9 : w.heap[P9]? = some (.cells doneZ 106 (0, 0))
 rd : ∃ v, RdW X K (ansRow v 0 [] nilS) [nZ, nZ, nZ, nZ, nOk] w
/-- how it ends -/
def D1End (X P9 : Nat) (w : World) (e : Ending) (w' : World) : Prop := e = .returned (.tuple #[]) ∧ Exc [X, P9] w w' ∧ w'.heap[P9]? = some (.cells doneZ 106 (0, 0))
theorem numb_z (X K : Nat) (ws : List (List UInt8)) (W : World) (h : ∃ v, RdW X K (ansRow v 0 [] nilS) (nZ :: ws) W) :
  Calls Tryz.prog 47 #[.pointer (some ⟨X, 0, none⟩)] W fun e w' => e = .returned (.int .i64 0) ∧ Only X W w' ∧ ∃ v, RdW X K (ansRow v 0 [] nilS) ws w' := by
 obtain ⟨v, h⟩ := h
 refine (numb_is X K _ _ W h).mono ?_
 rintro e w' ⟨hk, he⟩
 rw [show firstW (fun x => (num x).map i64V) (nZ :: ws) = some (i64V 0) by show (num nZ).map i64V = _; rw [num_z]; rfl] at he
 obtain ⟨rfl, v', hv⟩ := he
 exact ⟨rfl, hk, v', hv⟩
theorem ans_z (X K : Nat) (W : World) (h : ∃ v, RdW X K (ansRow v 0 [] nilS) [nOk] W) :
  Calls Tryz.prog 87 #[.pointer (some ⟨X, 0, none⟩)] W fun e w' => e = .returned (.tuple #[]) ∧ Only X W w' ∧ ∃ v, RdW X K (ansRow v 0 [] nilS) [] w' := by
 obtain ⟨v, h⟩ := h
 refine (answer_ok X K v W h).mono ?_
 rintro e w' ⟨hk, rfl, hv⟩
 exact ⟨rfl, hk, hv⟩
theorem Exc.setRow {bs : List Nat} (w : World) (p : Nat) (cs : Array Value) (hp : p ∈ bs) : Exc bs w (w.setRow p cs) :=
 ⟨rfl, rfl, rfl, by simp, fun k _ hn => setRow_other w p k cs (fun e => hn (by rw [e]; exact hp))⟩
/-- a row with some cells set, one after the other -/
def setAll (R : Array Value) : Nat → List Value → Array Value
 | _, [] => R
 | o, v :: vs => setAll (R.setIfInBounds o v) (o + 1) vs
theorem setCells_row {b : Nat} {t : TypeId} : ∀ (vs : List Value) (o : Nat) (w : World) (R : Array Value), w.heap[b]? = some (.cells R t (0, 0)) → (w.setCells b o vs).heap[b]? = some (.cells (setAll R o vs) t (0, 0))
 | [], o, w, R, h => h
 | v :: vs, o, w, R, h => by
  show ((w.setCell ⟨b, o, none⟩ v).setCells b (o + 1) vs).heap[b]? = _
  refine setCells_row vs (o + 1) _ _ ?_
  rw [setCell_eq_setRow w b o _ t (0, 0) _ h]
  exact setRow_heap w b _ _ t (0, 0) h
theorem Exc.setCells {bs : List Nat} {b : Nat} (hb : b ∈ bs) : ∀ (vs : List Value) (o : Nat) (w : World), Exc bs w (w.setCells b o vs)
 | [], o, w => Exc.refl _ _
 | v :: vs, o, w => by
  show Exc bs w ((w.setCell ⟨b, o, none⟩ v).setCells b (o + 1) vs)
  refine Exc.trans ?_ (Exc.setCells hb vs (o + 1) _)
  exact ⟨rfl, rfl, rfl, by simp, fun k _ hn => Below.heap_setCell _ _ _ _ (fun e => hn (by simp at e; rw [e]; exact hb))⟩
theorem there_row {w : World} {b o n : Nat} {R : Array Value} {t : TypeId} (h : w.heap[b]? = some (.cells R t (0, 0))) (hn : o + n ≤ R.size) : w.there b o n := fun j hj => by
 refine ⟨?_, Lib.frozen_of_heap h _⟩
 rw [Lib.cell_of_heap h, Array.getElem?_eq_getElem (by omega)]
 rfl
set_option maxRecDepth 100000 in
set_option maxHeartbeats 4000000 in
theorem done1_is (X K P7 P8 P9 : Nat) (w : World) (h : D1 X K P7 P8 P9 w) : Calls Tryz.prog 86 #[.pointer (some ⟨P7, 0, none⟩), .pointer (some ⟨P8, 0, none⟩), .pointer (some ⟨P9, 0, none⟩)] w (D1End X P9 w) := by
 obtain ⟨⟨o1, o2, o3, o4⟩, c7, c8, c9, hrd⟩ := h
 have hKX : X < K ∧ K ≤ w.heap.size := hrd.elim fun v hv => hv.2.1
 have HO := Lib.hid (And.intro o1 (And.intro o2 (And.intro o3 (And.intro o4 hKX))))
 have d7 := one_cell c7
 have HC := Lib.hid (And.intro (one_cell c8) c9)
 have HR := Lib.hid hrd
 clear o1 o2 o3 o4 c7 c8 c9 hrd hKX
 go_enter Tryz.func86, Tryz.ntmps86
 go_wp2_with fail
 refine (must_true _).mono ?_
 rintro e w0 ⟨rfl, hw0⟩
 rw [hw0]
 clear hw0 w0
 go_upto_region 1 with fail
 refine wp_region_iv mixedD (fun D' a' W' => ∃ x0 x1 x2 x3 x4 x5 x6 x7 x8, a' = ⟨#[.pointer (some ⟨P7, 0, none⟩), .pointer (some ⟨P8, 0, none⟩), .pointer (some ⟨P9, 0, none⟩), .bool true, .tuple #[], x0, x1, x2, x3, x4, x5, x6, x7, x8, undef, undef, undef, undef, undef, undef, undef], []⟩ ∧ (D' 1 = false → ∃ v, RdW X K (ansRow v 0 [] nilS) [nZ, nZ, nZ, nZ, nOk] W') ∧ (D' 1 = true → D' 3 = false → ∃ v, RdW X K (ansRow v 0 [] nilS) [nZ, nZ, nZ, nOk] W') ∧ (D' 3 = true → D' 5 = false → ∃ v, RdW X K (ansRow v 0 [] nilS) [nZ, nZ, nOk] W') ∧ (D' 5 = true → D' 7 = false → ∃ v, RdW X K (ansRow v 0 [] nilS) [nZ, nOk] W') ∧ (D' 7 = true → D' 9 = false → ∃ v, RdW X K (ansRow v 0 [] nilS) [nOk] W') ∧ (D' 9 = false → Only X w W') ∧ (D' 9 = true → Exc [X, P9] w W' ∧ (∃ v, RdW X K (ansRow v 0 [] nilS) [nOk] W') ∧ W'.heap[P9]? = some (.cells doneZ 106 (0, 0))) ∧ (D' 0 = true → x0 = .pointer (some ⟨X, 0, none⟩)) ∧ (D' 1 = true → x1 = .int .i64 0) ∧ (D' 2 = true → x2 = .pointer (some ⟨X, 0, none⟩)) ∧ (D' 3 = true → x3 = .int .i64 0) ∧ (D' 4 = true → x4 = .pointer (some ⟨X, 0, none⟩)) ∧ (D' 5 = true → x5 = .int .i64 0) ∧ (D' 6 = true → x6 = .pointer (some ⟨X, 0, none⟩)) ∧ (D' 7 = true → x7 = .int .i64 0) ∧ (D' 8 = true → x8 = .agg doneZ)) (by kernel_rfl) ?_ ?_ ?_
 ·exact ⟨_, _, _, _, _, _, _, _, _, rfl, (fun _ => HR.out.imp fun v h => h.later (Later.refl w).drew), (fun h => by cases h), (fun h => by cases h), (fun h => by cases h), (fun h => by cases h), (fun _ => Only.of_later (Later.refl w).drew), (fun h => by cases h), (fun h => by cases h), (fun h => by cases h), (fun h => by cases h), (fun h => by cases h), (fun h => by cases h), (fun h => by cases h), (fun h => by cases h), (fun h => by cases h), (fun h => by cases h)⟩
 ·intro i D' a' W' hi hDi hdep hcl hI
  obtain ⟨x0, x1, x2, x3, x4, x5, x6, x7, x8, rfl, g0, g1, g2, g3, g4, g5, g6, f0, f1, f2, f3, f4, f5, f6, f7, f8⟩ := hI
  have hi' : i = 0 ∨ i = 1 ∨ i = 2 ∨ i = 3 ∨ i = 4 ∨ i = 5 ∨ i = 6 ∨ i = 7 ∨ i = 8 ∨ i = 9 := by
   have : i < 10 := hi
   omega
  rcases hi' with rfl | rfl | rfl | rfl | rfl | rfl | rfl | rfl | rfl | rfl
  ·have n1 := hcl.no hDi (k := 1) (by decide) (by kernel_rfl)
   have n8 := hcl.no n1 (k := 8) (by decide) (by kernel_rfl)
   have n9 := hcl.no n8 (k := 9) (by decide) (by kernel_rfl)
   have hc : W'.cell? ⟨P8, 0, none⟩ = some (.pointer (some ⟨X, 0, none⟩)) := (g5 n9).cell (by have := HO.out; omega) (by have := HO.out; omega) HC.out.1
   refine wpOp_step rfl (fun K' hK' => ?_)
   rw [if_pos (by rfl)]
   go_simp
   exact hK' _ _ ⟨_, x1, x2, x3, x4, x5, x6, x7, x8, rfl, g0, g1, g2, g3, g4, g5, g6, (fun _ => rfl), f1, f2, f3, f4, f5, f6, f7, f8⟩
  ·have n8 := hcl.no hDi (k := 8) (by decide) (by kernel_rfl)
   have n9 := hcl.no n8 (k := 9) (by decide) (by kernel_rfl)
   have q := f0 (hdep 0 (by kernel_rfl))
   subst q
   have nn := hcl.no hDi (k := 3) (by decide) (by kernel_rfl)
   have hR := g0 hDi
   have M3 := hcl.no hDi (k := 3) (by decide) (by kernel_rfl)
   have M5 := hcl.no M3 (k := 5) (by decide) (by kernel_rfl)
   have M7 := hcl.no M5 (k := 7) (by decide) (by kernel_rfl)
   refine wpOp_step rfl (fun K' hK' => ?_)
   rw [if_pos (by rfl)]
   go_simp
   refine (numb_z X K _ W' hR).mono ?_
   rintro y8 w8 ⟨rfl, hk8, hR8⟩
   go_simp
   exact hK' _ _ ⟨_, _, x2, x3, x4, x5, x6, x7, x8, rfl, (fun h => absurd h (by simp [updD])), (fun _ _ => hR8), (fun h => absurd (show D' 3 = true from h) (by rw [M3]; decide)), (fun h => absurd (show D' 5 = true from h) (by rw [M5]; decide)), (fun h => absurd (show D' 7 = true from h) (by rw [M7]; decide)), (fun _ => (g5 n9).trans hk8), (fun h => absurd (show D' 9 = true from h) (by rw [n9]; decide)), (fun _ => rfl), (fun _ => rfl), f2, f3, f4, f5, f6, f7, f8⟩
  ·have n3 := hcl.no hDi (k := 3) (by decide) (by kernel_rfl)
   have n8 := hcl.no n3 (k := 8) (by decide) (by kernel_rfl)
   have n9 := hcl.no n8 (k := 9) (by decide) (by kernel_rfl)
   have hc : W'.cell? ⟨P8, 0, none⟩ = some (.pointer (some ⟨X, 0, none⟩)) := (g5 n9).cell (by have := HO.out; omega) (by have := HO.out; omega) HC.out.1
   refine wpOp_step rfl (fun K' hK' => ?_)
   rw [if_pos (by rfl)]
   go_simp
   exact hK' _ _ ⟨x0, x1, _, x3, x4, x5, x6, x7, x8, rfl, g0, g1, g2, g3, g4, g5, g6, f0, f1, (fun _ => rfl), f3, f4, f5, f6, f7, f8⟩
  ·have n8 := hcl.no hDi (k := 8) (by decide) (by kernel_rfl)
   have n9 := hcl.no n8 (k := 9) (by decide) (by kernel_rfl)
   have q := f2 (hdep 2 (by kernel_rfl))
   subst q
   have nn := hcl.no hDi (k := 5) (by decide) (by kernel_rfl)
   have hR := g1 (hdep 1 (by kernel_rfl)) hDi
   have P1 := hdep 1 (by kernel_rfl)
   have M5 := hcl.no hDi (k := 5) (by decide) (by kernel_rfl)
   have M7 := hcl.no M5 (k := 7) (by decide) (by kernel_rfl)
   refine wpOp_step rfl (fun K' hK' => ?_)
   rw [if_pos (by rfl)]
   go_simp
   refine (numb_z X K _ W' hR).mono ?_
   rintro y8 w8 ⟨rfl, hk8, hR8⟩
   go_simp
   exact hK' _ _ ⟨x0, _, _, _, x4, x5, x6, x7, x8, rfl, (fun h => absurd (show D' 1 = false from h) (by rw [P1]; decide)), (fun _ h => absurd h (by simp [updD])), (fun _ _ => hR8), (fun h => absurd (show D' 5 = true from h) (by rw [M5]; decide)), (fun h => absurd (show D' 7 = true from h) (by rw [M7]; decide)), (fun _ => (g5 n9).trans hk8), (fun h => absurd (show D' 9 = true from h) (by rw [n9]; decide)), f0, (fun _ => rfl), (fun _ => rfl), (fun _ => rfl), f4, f5, f6, f7, f8⟩
  ·have n5 := hcl.no hDi (k := 5) (by decide) (by kernel_rfl)
   have n8 := hcl.no n5 (k := 8) (by decide) (by kernel_rfl)
   have n9 := hcl.no n8 (k := 9) (by decide) (by kernel_rfl)
   have hc : W'.cell? ⟨P8, 0, none⟩ = some (.pointer (some ⟨X, 0, none⟩)) := (g5 n9).cell (by have := HO.out; omega) (by have := HO.out; omega) HC.out.1
   refine wpOp_step rfl (fun K' hK' => ?_)
   rw [if_pos (by rfl)]
   go_simp
   exact hK' _ _ ⟨x0, x1, x2, x3, _, x5, x6, x7, x8, rfl, g0, g1, g2, g3, g4, g5, g6, f0, f1, f2, f3, (fun _ => rfl), f5, f6, f7, f8⟩
  ·have n8 := hcl.no hDi (k := 8) (by decide) (by kernel_rfl)
   have n9 := hcl.no n8 (k := 9) (by decide) (by kernel_rfl)
   have q := f4 (hdep 4 (by kernel_rfl))
   subst q
   have nn := hcl.no hDi (k := 7) (by decide) (by kernel_rfl)
   have hR := g2 (hdep 3 (by kernel_rfl)) hDi
   have P3 := hdep 3 (by kernel_rfl)
   have P1 := hcl 3 (by decide) P3 1 (by kernel_rfl)
   have M7 := hcl.no hDi (k := 7) (by decide) (by kernel_rfl)
   refine wpOp_step rfl (fun K' hK' => ?_)
   rw [if_pos (by rfl)]
   go_simp
   refine (numb_z X K _ W' hR).mono ?_
   rintro y8 w8 ⟨rfl, hk8, hR8⟩
   go_simp
   exact hK' _ _ ⟨x0, _, x2, _, _, _, x6, x7, x8, rfl, (fun h => absurd (show D' 1 = false from h) (by rw [P1]; decide)), (fun _ h => absurd (show D' 3 = false from h) (by rw [P3]; decide)), (fun _ h => absurd h (by simp [updD])), (fun _ _ => hR8), (fun h => absurd (show D' 7 = true from h) (by rw [M7]; decide)), (fun _ => (g5 n9).trans hk8), (fun h => absurd (show D' 9 = true from h) (by rw [n9]; decide)), f0, (fun _ => rfl), f2, (fun _ => rfl), (fun _ => rfl), (fun _ => rfl), f6, f7, f8⟩
  ·have n7 := hcl.no hDi (k := 7) (by decide) (by kernel_rfl)
   have n8 := hcl.no n7 (k := 8) (by decide) (by kernel_rfl)
   have n9 := hcl.no n8 (k := 9) (by decide) (by kernel_rfl)
   have hc : W'.cell? ⟨P8, 0, none⟩ = some (.pointer (some ⟨X, 0, none⟩)) := (g5 n9).cell (by have := HO.out; omega) (by have := HO.out; omega) HC.out.1
   refine wpOp_step rfl (fun K' hK' => ?_)
   rw [if_pos (by rfl)]
   go_simp
   exact hK' _ _ ⟨x0, x1, x2, x3, x4, x5, _, x7, x8, rfl, g0, g1, g2, g3, g4, g5, g6, f0, f1, f2, f3, f4, f5, (fun _ => rfl), f7, f8⟩
  ·have n8 := hcl.no hDi (k := 8) (by decide) (by kernel_rfl)
   have n9 := hcl.no n8 (k := 9) (by decide) (by kernel_rfl)
   have q := f6 (hdep 6 (by kernel_rfl))
   subst q
   have hR := g3 (hdep 5 (by kernel_rfl)) hDi
   have P5 := hdep 5 (by kernel_rfl)
   have P3 := hcl 5 (by decide) P5 3 (by kernel_rfl)
   have P1 := hcl 3 (by decide) P3 1 (by kernel_rfl)
   refine wpOp_step rfl (fun K' hK' => ?_)
   rw [if_pos (by rfl)]
   go_simp
   refine (numb_z X K _ W' hR).mono ?_
   rintro y8 w8 ⟨rfl, hk8, hR8⟩
   go_simp
   exact hK' _ _ ⟨x0, _, x2, _, x4, _, _, _, x8, rfl, (fun h => absurd (show D' 1 = false from h) (by rw [P1]; decide)), (fun _ h => absurd (show D' 3 = false from h) (by rw [P3]; decide)), (fun _ h => absurd (show D' 5 = false from h) (by rw [P5]; decide)), (fun _ h => absurd h (by simp [updD])), (fun _ _ => hR8), (fun _ => (g5 n9).trans hk8), (fun h => absurd (show D' 9 = true from h) (by rw [n9]; decide)), f0, (fun _ => rfl), f2, (fun _ => rfl), f4, (fun _ => rfl), (fun _ => rfl), (fun _ => rfl), f8⟩
  ·have n9 := hcl.no hDi (k := 9) (by decide) (by kernel_rfl)
   have q1 := f1 (hdep 1 (by kernel_rfl))
   subst q1
   have q3 := f3 (hdep 3 (by kernel_rfl))
   subst q3
   have q5 := f5 (hdep 5 (by kernel_rfl))
   subst q5
   have q7 := f7 (hdep 7 (by kernel_rfl))
   subst q7
   refine wpOp_step rfl (fun K' hK' => ?_)
   rw [if_pos (by rfl)]
   refine wp_build 106 _ rfl (by kernel_rfl) ?_
   rw [show (Tryz.prog.built 106 _).getD #[] = doneZ from by kernel_rfl]
   exact hK' _ _ ⟨x0, _, x2, _, x4, _, x6, _, _, rfl, g0, g1, g2, g3, g4, g5, g6, f0, (fun _ => rfl), f2, (fun _ => rfl), f4, (fun _ => rfl), f6, (fun _ => rfl), (fun _ => rfl)⟩
  ·have q8 := f8 (hdep 8 (by kernel_rfl))
   subst q8
   have P7d := hcl 8 (by decide) (hdep 8 (by kernel_rfl)) 7 (by kernel_rfl)
   have hR := g4 P7d hDi
   have hO := g5 hDi
   have hz := (hO.block P9 (by have := HO.out; omega) (by have := HO.out; omega)).trans HC.out.2
   have P5d := hcl 7 (by decide) P7d 5 (by kernel_rfl)
   have P3d := hcl 5 (by decide) P5d 3 (by kernel_rfl)
   have P1d := hcl 3 (by decide) P3d 1 (by kernel_rfl)
   have HH : Exc [X, P9] w (W'.setRow P9 doneZ) ∧ (∃ v, RdW X K (ansRow v 0 [] nilS) [nOk] (W'.setRow P9 doneZ)) ∧ (W'.setRow P9 doneZ).heap[P9]? = some (.cells doneZ 106 (0, 0)) := by
    refine ⟨(Exc.of_only hO (by simp)).trans (Exc.setRow W' P9 doneZ (by simp)), ?_, setRow_heap W' P9 _ _ 106 (0, 0) hz⟩
    obtain ⟨v, hv⟩ := hR
    exact ⟨v, hv.below ⟨rfl, rfl, rfl, by simp, fun k hk => setRow_other W' P9 k doneZ (by have := HO.out; omega)⟩⟩
   refine wpOp_step rfl (fun K' hK' => ?_)
   rw [if_pos (by rfl)]
   refine wp_store_row 106 (.tmp 2) (.tmp 13) rfl P9 doneZ rfl rfl 106 doneZ hz doneZ_info rfl doneZ_one ?_
   exact hK' _ _ ⟨x0, x1, x2, x3, x4, x5, x6, x7, _, rfl, (fun h => absurd (show D' 1 = false from h) (by rw [P1d]; decide)), (fun _ h => absurd (show D' 3 = false from h) (by rw [P3d]; decide)), (fun _ h => absurd (show D' 5 = false from h) (by rw [P5d]; decide)), (fun _ h => absurd (show D' 7 = false from h) (by rw [P7d]; decide)), (fun _ h => absurd h (by simp [updD])), (fun h => absurd h (by simp [updD])), (fun _ => HH), f0, f1, f2, f3, f4, f5, f6, f7, (fun _ => rfl)⟩
 ·rintro D' a' W' hD' ⟨x0, x1, x2, x3, x4, x5, x6, x7, x8, rfl, g0, g1, g2, g3, g4, g5, g6, f0, f1, f2, f3, f4, f5, f6, f7, f8⟩
  obtain ⟨hE, hR, hz⟩ := g6 (hD' 9 (by decide))
  have HE := Lib.hid (And.intro hE (And.intro hR hz))
  have e8 : W'.cell? ⟨P8, 0, none⟩ = some (.pointer (some ⟨X, 0, none⟩)) := by rw [World.cell?_of_block (a := ⟨P8, 0, none⟩) (hE.block P8 (by have := HO.out; omega) (by simp; have := HO.out; omega))]; exact HC.out.1
  clear g0 g1 g2 g3 g4 g5 g6 f0 f1 f2 f3 f4 f5 f6 f7 f8 hE hR hz hD'
  go_wp2_with fail
  refine (ans_z X K W' HE.out.2.1).mono ?_
  rintro y5 w5 ⟨rfl, hk5, v5, hr5⟩
  have hs5 := HE.out.1.size
  have e9 : w5.cell? ⟨P8, 0, none⟩ = some (.pointer (some ⟨X, 0, none⟩)) := hk5.cell (by have := HO.out; omega) (by have := HO.out; omega) e8
  have hz5 : w5.heap[P9]? = some (.cells doneZ 106 (0, 0)) := (hk5.block P9 (by have := HO.out; omega) (by have := HO.out; omega)).trans HE.out.2.2
  have hrg := ans_range hr5
  have hth : w5.there P9 4 (ansA 0 [] nilS).size := there_row hz5 (by decide)
  have hfz : (w5.setCells P9 4 (ansA 0 [] nilS).toList).heap[P9]? = some (.cells doneZ 106 (0, 0)) := setCells_row _ 4 w5 doneZ hz5
  have hfe := (HE.out.1.trans (Exc.of_only hk5 (by simp))).trans (Exc.setCells (bs := [X, P9]) (b := P9) (by simp) (ansA 0 [] nilS).toList 4 w5)
  have H5 := Lib.hid (And.intro hrg (And.intro hth (And.intro hfz hfe)))
  clear hk5 hr5 hz5 hrg hs5 e8 hth hfz hfe
  go_wp2_with (first | (refine wpList_load_mid rfl 81 (.tmp 18) rfl X 13 rfl (ansA 0 [] nilS).toList _ H5.out.1 Tryz.underlying81 rfl ansA_info ?_) | (refine wpList_store_mid rfl 81 (.tmp 20) (.tmp 19) rfl P9 4 (ansA 0 [] nilS) rfl rfl H5.out.2.1 ansA_info (ansA_one _ _ _ ⟨_, _, _, rfl⟩) ?_))
  go_end0
  exact ⟨rfl, H5.out.2.2.2, H5.out.2.2.1⟩
end Go.Proofs.YtkbedajbbakihaaGreatDoor

/-
 The limits that ScriptSmall asks, plainly: scripts. Conditions: none.
-/
namespace Go.Proofs.YtkbedajbbakihaaGreatDoor
open Go.Lib
set_option linter.unusedSimpArgs false
set_option linter.unusedVariables false

/-- a text n times -/
def repL (l : List UInt8) (n : Nat) : List UInt8 := (List.replicate n l).flatten
theorem repL_succ (l : List UInt8) (n : Nat) : repL l (n + 1) = l ++ repL l n := by simp [repL, List.replicate_succ]
theorem repL_snoc (l : List UInt8) (n : Nat) : repL l (n + 1) = repL l n ++ l := by simp [repL, List.replicate_succ']
theorem repL_len (l : List UInt8) (n : Nat) : (repL l n).length = n * l.length := by simp [repL]
theorem repL_one (c : UInt8) (n : Nat) : repL [c] n = List.replicate n c := by
 induction n with
 | zero => rfl
 | succ n ih => rw [repL_succ, ih]; rfl

/-! ### a request "remove 1" -/
def lmR : Req := { req0 with deed := 8, ten := 1 }
def lmL : List UInt8 := [48, 32, 114, 101, 109, 111, 118, 101, 32, 49]
theorem lmR_show : showP lmR = some [114, 101, 109, 111, 118, 101, 32, 49] := by
 refine (showP_iff _ _).2 ?_
 rw [show spl [114, 101, 109, 111, 118, 101, 32, 49] = [nameN 8, Lib.itoa 1] by decide +kernel]
 rw [readR, deedW_name 8 (by decide), Option.bind_some]
 show (stepF .ten (Lib.itoa 1) _).bind (foldF [] []) = _
 rw [stepF, num_itoa 1 (by decide) (by decide)]
 rfl
theorem zero_it : Lib.itoa 0 = [48] := by kernel_rfl
theorem lm_ent : entL (0, lmR) = some (lmL ++ [10]) := by
 rw [entL, lmR_show, Option.bind_some, if_pos (by decide)]
 show some (Lib.itoa 0 ++ _ ++ _) = _
 rw [zero_it]
 rfl
theorem stP_big {st : Scr} {x : List UInt8 × Bool} {y : List Int ⊕ (Int × Req)} (h : lnP x = some y) (hb : bigP (addP st y) = true) : stP st x = .error 3 := by
 unfold stP
 rw [h]
 show (if bigP (addP st y) = true then Except.error 3 else Except.ok (addP st y)) = _
 rw [if_pos hb]
theorem bigP_yes1 {st : Scr} (h : 4096 < st.1.length) : bigP st = true := by simp [bigP, h]
theorem bigP_yes2 {st : Scr} (h : 65536 < st.2.length) : bigP st = true := by simp [bigP, h]
theorem lm_ents (n : Nat) : entsL (List.replicate n (0, lmR)) = some (repL (lmL ++ [10]) n) := by
 induction n with
 | zero => rfl
 | succ n ih =>
  rw [List.replicate_succ, entsL, lm_ent, Option.bind_some, ih, repL_succ]
  rfl
theorem lm_fmt (n : Nat) (h : n ≤ 4096) : fmtP (List.replicate n (0, lmR), []) = .ok (repL (lmL ++ [10]) n) := by
 have hl : (repL (lmL ++ [10]) n).length = n * 11 := repL_len _ _
 rw [fmtP, if_neg (by rw [bigP_no (by simpa using h) (by simp)]; simp)]
 simp only [lm_ents]
 rw [if_neg (by simp only [pkF, List.append_nil]; omega)]
 simp [pkF]
theorem lm_parse (n : Nat) (h : n ≤ 4096) : parseP (repL (lmL ++ [10]) n) = .ok (List.replicate n (0, lmR), []) := parse_fmt (lm_fmt n h) (fun p hp => by cases hp)
theorem lm_line : lnP (lmL, true) = some (.inr (0, lmR)) := by
 obtain ⟨l, h1, -, h2⟩ := ent_line lm_ent
 rw [(List.append_cancel_right h1 : lmL = l)]
 exact h2
theorem lm_overN (n : Nat) (hn : n = 4096) : parseP (repL (lmL ++ [10]) (n + 1)) = .error (n, 3) := by
 have hl : (repL (lmL ++ [10]) (n + 1)).length = (n + 1) * 11 := repL_len _ _
 rw [parseP, if_neg (by omega), repL_snoc, run_ents (lmL ++ [10]) _ _ ([], []) 0 (lm_ents n) (by rw [List.length_replicate]; show 0 + n ≤ 4096; omega) (Nat.zero_le _)]
 rw [show lns (lmL ++ [10]) = [(lmL, true)] by decide +kernel, runP, stP_big lm_line (bigP_yes1 (by simp only [addP, List.length_append, List.length_replicate, List.length_nil, List.length_singleton]; omega))]
 show Except.error (0 + (List.replicate n ((0 : Int), lmR)).length, (3 : Int)) = _
 rw [List.length_replicate, Nat.zero_add]
theorem lm_over : parseP (repL (lmL ++ [10]) 4097) = .error (4096, 3) := lm_overN 4096 rfl

/-! ### picks -/
theorem tl_zero (n : Nat) : tl (List.replicate n 0) = repL [32, 48] n := by
 induction n with
 | zero => rfl
 | succ n ih =>
  rw [List.replicate_succ, repL_succ, ← ih]
  show (32 :: Lib.itoa 0) ++ tl (List.replicate n 0) = _
  rw [zero_it]
theorem in_zero (n : Nat) : ∀ p ∈ List.replicate n (0 : Int), inI p := by
 intro p hp
 obtain rfl := (List.mem_replicate.1 hp).2
 unfold inI; omega
theorem lp_line (n : Nat) (h : n ≠ 0) : ClnL (picksN ++ repL [32, 48] n) ∧ lnP (picksN ++ repL [32, 48] n, true) = some (.inl (List.replicate n 0)) := by
 have := pk_line (List.replicate n 0) (by simpa using h) (in_zero n)
 rw [jn_tl, tl_zero] at this
 exact this
theorem lp_parse (n : Nat) (h : n ≠ 0) (h2 : n ≤ 65536) : parseP (picksN ++ repL [32, 48] n ++ [10]) = .ok ([], List.replicate n 0) := by
 have hl : (repL [32, 48] n).length = n * 2 := repL_len _ _
 obtain ⟨h3, h4⟩ := lp_line n h
 rw [parseP, if_neg (by simp only [List.length_append, List.length_cons, List.length_nil, picksN]; omega), lns_line _ [] h3.no, runP_cons _ _ _ _ _ h4 (bigP_no (by simp [addP]) (by simpa [addP] using h2))]
 simp [lns, lnsA, runP, addP]
theorem lp_overN (n : Nat) (hn : n = 65536) : parseP (picksN ++ repL [32, 48] n ++ [10] ++ [112, 105, 99, 107, 115, 32, 49, 10]) = .error (1, 3) := by
 have hl : (repL [32, 48] n).length = n * 2 := repL_len _ _
 obtain ⟨h3, h4⟩ := lp_line n (by omega)
 have h5 := (pk_line [1] (by decide) (fun p hp => by obtain rfl := List.mem_singleton.1 hp; unfold inI; omega)).2
 rw [parseP, if_neg (by simp only [List.length_append, List.length_cons, List.length_nil, picksN]; omega), List.append_assoc, List.singleton_append, lns_line _ _ h3.no, runP_cons _ _ _ _ _ h4 (bigP_no (Nat.zero_le _) (by simp only [addP, List.length_append, List.length_replicate, List.length_nil]; omega))]
 rw [show lns [112, 105, 99, 107, 115, 32, 49, 10] = [(jn (picksN :: [1].map Lib.itoa), true)] by rw [show [(1 : Int)].map Lib.itoa = [[49]] by kernel_rfl]; decide +kernel, runP, stP_big h5 (bigP_yes2 (by simp only [addP, List.length_append, List.length_replicate, List.length_nil, List.length_singleton]; omega))]
theorem lp_over : parseP (picksN ++ repL [32, 48] 65536 ++ [10] ++ [112, 105, 99, 107, 115, 32, 49, 10]) = .error (1, 3) := lp_overN 65536 rfl
theorem pkF_zero (n : Nat) (hn : n % 16 = 0) (ps : List Int) : ∀ i, i + ps.length ≤ n → (pkF n i ps).length + (5 * ((i + 15) / 16) + i / 16) = ptot ps + (5 * ((i + ps.length + 15) / 16) + (i + ps.length) / 16) := by
 induction ps with
 | nil => intro i _; simp [pkF, ptot, tl]
 | cons p t ih =>
  intro i hi
  rw [List.length_cons] at hi
  have h := ih (i + 1) (by omega)
  rw [pkF, pkB]
  simp only [ptot, tl, List.flatMap_cons, List.length_append, List.length_cons] at h ⊢
  have e1 : (if i % 16 = 0 then picksN else []).length = if i % 16 = 0 then 5 else 0 := by split <;> rfl
  have e2 : (if i % 16 = 15 ∨ i + 1 = n then [10] else ([] : List UInt8)).length = if i % 16 = 15 ∨ i + 1 = n then 1 else 0 := by split <;> rfl
  rw [e1, e2]
  have e3 : i + 1 + t.length = i + (t.length + 1) := by omega
  rw [e3] at h
  generalize (List.flatMap (fun p => 32 :: Lib.itoa p) t).length = A at h ⊢
  generalize (pkF n (i + 1) t).length = B at h ⊢
  by_cases c1 : i % 16 = 0
  ·rw [if_pos c1, if_neg (by omega)]
   omega
  ·rw [if_neg c1]
   by_cases c4 : i % 16 = 15
   ·rw [if_pos (.inl c4)]
    omega
   ·rw [if_neg (by omega)]
    omega
theorem lp_fmtN (n : Nat) (hn : n = 65536) : ∃ t, fmtP ([], List.replicate n 0) = .ok t ∧ t.length = 155648 := by
 have h := pkF_zero n (by omega) (List.replicate n 0) 0 (by rw [List.length_replicate]; omega)
 have h2 : ptot (List.replicate n 0) = n * 2 := by rw [ptot, tl_zero, repL_len]; rfl
 rw [h2, List.length_replicate] at h
 have h3 : (pkF n 0 (List.replicate n 0)).length = 155648 := by omega
 refine ⟨_, ?_, h3⟩
 rw [fmtP, if_neg (by rw [bigP_no (Nat.zero_le _) (by rw [List.length_replicate]; omega)]; simp)]
 simp only [entsL, List.nil_append, List.length_replicate]
 rw [if_neg (by omega)]
theorem lp_fmt : ∃ t, fmtP ([], List.replicate 65536 0) = .ok t ∧ t.length = 155648 := lp_fmtN 65536 rfl
theorem lp_bigN (n : Nat) (hn : n = 65536) : fmtP ([], List.replicate n 0 ++ [0]) = .error 3 := by
 rw [fmtP, if_pos (bigP_yes2 (by simp only [List.length_append, List.length_replicate, List.length_singleton]; omega))]
theorem lm_bigN (n : Nat) (hn : n = 4096) : fmtP (List.replicate n (0, lmR) ++ [(0, lmR)], []) = .error 3 := by
 rw [fmtP, if_pos (bigP_yes1 (by simp only [List.length_append, List.length_replicate, List.length_singleton]; omega))]

/-! ### a long key -/
def lkR (n : Nat) : Req := { req0 with deed := 1, ht := 1, hg := 1, hr := 1, key := List.replicate n 97 }
theorem word_rep (n : Nat) (h : n ≠ 0) : word (List.replicate n 97) = List.replicate n 97 := by
 have h1 : ∀ n, (List.replicate n (97 : UInt8)).flatMap wordB = List.replicate n 97 := by
  intro n
  induction n with
  | zero => rfl
  | succ n ih => rw [List.replicate_succ, List.flatMap_cons, ih]; rfl
 rw [word, if_neg (by simpa using h), h1]
theorem lk_show (n : Nat) : showP (lkR n) = some (jn [nameN 1, showH 1 1 1, word (List.replicate n 97)]) := by
 refine (showP_iff _ _).2 ?_
 rw [spl_jn _ (by simp) (fun w hw => ?_)]
 ·rw [readR, deedW_name 1 (by decide), Option.bind_some]
  show (stepF .hdl (showH 1 1 1) _).bind (foldF [.key] [word _]) = _
  rw [stepF, rdH_show 1 1 1 (by decide) (by decide), Option.map_some, Option.bind_some]
  show (stepF .key _ _).bind (foldF [] []) = _
  rw [stepF, unword_word]
  rfl
 ·simp only [List.mem_cons, List.not_mem_nil, or_false] at hw
  rcases hw with rfl | rfl | rfl
  ·exact nameN_no 1 (by decide)
  ·exact showH_32 1 1 1
  ·exact word_no _
def lkT (n : Nat) : List UInt8 := [48, 32, 103, 101, 116, 32, 49, 46, 49, 46, 114, 32] ++ List.replicate n 97 ++ [10]
theorem lkT_len (n : Nat) : (lkT n).length = n + 13 := by simp [lkT]
theorem lk_ent (n : Nat) (h : n ≠ 0) : entL (0, lkR n) = some (lkT n) := by
 rw [entL]
 simp only [lk_show, Option.bind_some]
 rw [if_pos (by omega), word_rep n h]
 have h1 : showH 1 1 1 = [49, 46, 49, 46, 114] := by decide +kernel
 rw [h1]
 simp [lkT, jn, nameN, show Lib.itoa 0 = [48] by decide +kernel]
theorem lk_fmt (n : Nat) (h : n ≠ 0) (h2 : n ≤ 262131) : fmtP ([(0, lkR n)], []) = .ok (lkT n) := by
 have hl := lkT_len n
 rw [fmtP, if_neg (by rw [bigP_no (by simp) (by simp)]; simp)]
 simp only [entsL, lk_ent n h, Option.bind_some, Option.map_some, pkF, List.append_nil]
 rw [if_neg (by omega)]
theorem lk_big (n : Nat) (h : 262131 < n) : fmtP ([(0, lkR n)], []) = .error 3 := by
 have hl := lkT_len n
 rw [fmtP, if_neg (by rw [bigP_no (by simp) (by simp)]; simp)]
 simp only [entsL, lk_ent n (by omega), Option.bind_some, Option.map_some, pkF, List.append_nil]
 rw [if_pos (by omega)]
theorem lk_parse (n : Nat) (h : n ≠ 0) (h2 : n ≤ 262131) : parseP (lkT n) = .ok ([(0, lkR n)], []) := parse_fmt (lk_fmt n h h2) (fun p hp => by cases hp)
end Go.Proofs.YtkbedajbbakihaaGreatDoor
