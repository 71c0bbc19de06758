/-
 Texts of this proof, put together (Sh, Sh2): each part's first words say what it holds. Conditions: as each part says.
-/
import Derived.Test.YtkbedajbbakihaaGreatDoorQd1
import Derived.Test.YtkbedajbbakihaaGreatDoorQb
/-
 The forms' show functions, walked. Conditions: as Sk's.
-/
namespace Go.Proofs.YtkbedajbbakihaaGreatDoor
open Go.RowKit Go.Sort Go.Lib
set_option linter.unusedSimpArgs false
set_option linter.unusedVariables false

theorem mixedZ : Tryz.prog.follows .mixedOrders = true := by kernel_rfl
/-- how a form's words are made -/
def ShEnd (res : Option (List (List UInt8))) (w : World) (e : Ending) (w' : World) : Prop :=
 Later w w' ∧ match res with
  | none => e = wrongE
  | some ws => ∃ L, e = .returned (.slice (some ⟨L, 0, none⟩) ws.length ws.length) ∧ w'.heap[L]? = some (.cells (wsC ws).toArray 9 (0, 0)) ∧ w.heap.size ≤ L
theorem shFs_none {r : Req} {f : Fld} (hf : shF f r = none) : ∀ fs : List Fld, f ∈ fs → shFs r fs = none := by
 intro fs
 induction fs with
 | nil => intro h; cases h
 | cons g fs ih =>
  intro h
  rw [shFs]
  rcases List.mem_cons.1 h with rfl | h
  ·rw [hf]; rfl
  ·cases hg : shF g r with
   | none => rfl
   | some x => rw [Option.bind_some, ih h]; rfl
/-- a word has been made -/
def PV (r : Req) (f : Fld) (x : Value) : Prop := ∃ l, shF f r = some l ∧ x = strV l
/-- the slice of words has been made -/
def BS (r : Req) (fs : List Fld) (w V : World) (x : Value) : Prop := ∃ ws L, shFs r fs = some ws ∧ x = .slice (some ⟨L, 0, none⟩) ws.length ws.length ∧ V.heap[L]? = some (.cells (wsC ws).toArray 9 (0, 0)) ∧ w.heap.size ≤ L ∧ L < V.heap.size
theorem BS.later {r : Req} {fs : List Fld} {w V V2 : World} {x : Value} (h : BS r fs w V x) (hl : Later V V2) : BS r fs w V2 x := by
 obtain ⟨ws, L, h1, h2, h3, h4, h5⟩ := h
 exact ⟨ws, L, h1, h2, (hl.block L h5).trans h3, h4, Nat.lt_of_lt_of_le h5 hl.size⟩
theorem Word_v (l : List UInt8) (hl : l.length ≤ 1000000000) (w : World) : Calls Tryz.prog 11 #[strV l] w fun e w' => e = .returned (strV (word l)) ∧ Later w w' := Word_l l hl w

set_option maxRecDepth 100000 in
set_option maxHeartbeats 16000000 in
theorem show_get (r : Req) (hr : r.fit) (c0 c1 : Nat) (w : World) (hw : Laid w) (hc0 : w.cell? ⟨c0, 0, none⟩ = some (.func (.func 93) #[] #[])) (hc1 : w.cell? ⟨c1, 0, none⟩ = some (.func (.func 92) #[] #[])) : Calls Tryz.prog 98 #[reqV r, .pointer (some ⟨c0, 0, none⟩), .pointer (some ⟨c1, 0, none⟩)] w (ShEnd (shFs r [.hdl, .key]) w) := by
 obtain ⟨R, hR⟩ : ∃ R, reqA r = R := ⟨_, rfl⟩
 unfold reqV
 rw [hR]
 obtain ⟨W, hW⟩ : ∃ W, w.alloc (.cells R 39) = W := ⟨_, rfl⟩
 obtain ⟨b, hb⟩ : ∃ b, w.heap.size = b := ⟨_, rfl⟩
 have hlW : Later w W := by rw [← hW]; exact (Later.refl w).alloc _
 have hbk : W.heap[b]? = some (.cells R 39 (0, 0)) := by rw [← hW, ← hb]; exact (MapKept.heap_alloc w _).1
 have hbW : b < W.heap.size := by rw [← hW, ← hb]; simp
 have HWW := Lib.hid (And.intro hW (And.intro hb hbW))
 have HR := Lib.hid (And.intro hlW (And.intro hbk hR))
 have hcell : ∀ (V : World), Later W V → ∀ o u, R[o]? = some u → V.cell? ⟨b, o, none⟩ = some u := fun V hV o u hu => cell_at hV (by rw [Lib.cell_of_heap hbk]; exact hu) hbW
 have HC := Lib.hid hcell
 have Hc0 := Lib.hid (fun (V : World) (hV : Later W V) => cell_at (hlW.trans hV) hc0 (World.block_lt_of_cell? _ _ hc0))
 have Hc1 := Lib.hid (fun (V : World) (hV : Later W V) => cell_at (hlW.trans hV) hc1 (World.block_lt_of_cell? _ _ hc1))
 have HLD := Lib.hid (fun (V : World) (hV : Later W V) => hw.later (hlW.trans hV))
 clear hW hb hlW hbk hbW hcell hR hc0 hc1
 go_enter Tryz.func98, Tryz.ntmps98
 go_upto_region 1 with fail
 rw [HWW.out.1, HWW.out.2.1]
 refine wp_region_inv mixedZ (fun D a V => ∃ (y : Value) (x5 x6 x7 x8 x9 x10 x11 : Value), a = ⟨#[.agg R, .pointer (some ⟨c0, 0, none⟩), .pointer (some ⟨c1, 0, none⟩), .pointer (some ⟨b, 0, none⟩), y, x5, x6, x7, x8, x9, x10, x11], []⟩ ∧ Later W V ∧ (D 0 = true → x5 = .func (.func 93) #[] #[]) ∧ (D 1 = true → x6 = .agg R) ∧ (D 2 = true → PV r .hdl x7) ∧ (D 3 = true → x8 = .func (.func 92) #[] #[]) ∧ (D 4 = true → x9 = .agg R) ∧ (D 5 = true → PV r .key x10) ∧ (D 6 = true → BS r [.hdl, .key] w V x11) ∧ (D 7 = true → BS r [.hdl, .key] w V y)) (by kernel_rfl) ?h0 ?hstep ?hend
 case h0 => exact ⟨_, _, _, _, _, _, _, _, rfl, (Later.refl W).drew, (fun h => by cases h), (fun h => by cases h), (fun h => by cases h), (fun h => by cases h), (fun h => by cases h), (fun h => by cases h), (fun h => by cases h), (fun h => by cases h)⟩
 case hend =>
  intro D a V hD hI
  obtain ⟨y, x5, x6, x7, x8, x9, x10, x11, rfl, hl, -, -, -, -, -, -, -, hf⟩ := hI
  obtain ⟨ws, L, e1, rfl, e3, e4, e5⟩ := hf (hD 7 (by decide))
  have HF := Lib.hid (show ShEnd (shFs r [.hdl, .key]) w (.returned (.slice (some ⟨L, 0, none⟩) ws.length ws.length)) V from ⟨HR.out.1.trans hl, by rw [e1]; exact ⟨L, rfl, e3, e4⟩⟩)
  clear e1 e3 e4 e5 hl hD
  go_wp2_with fail
  go_ret
  exact HF.out
 case hstep =>
  intro i D a V hi hD hdep hI
  obtain ⟨y, x5, x6, x7, x8, x9, x10, x11, rfl, hl, f0, f1, f2, f3, f4, f5, f6, f7⟩ := hI
  have hi' : i = 0 ∨ i = 1 ∨ i = 2 ∨ i = 3 ∨ i = 4 ∨ i = 5 ∨ i = 6 ∨ i = 7 := by
   have : i < 8 := hi
   omega
  rcases hi' with rfl | rfl | rfl | rfl | rfl | rfl | rfl | rfl
  ·have hc := Hc0.out V hl
   refine wpOp_step rfl (fun K' hK => ?_)
   rw [if_pos (by rfl)]
   go_simp
   exact hK _ _ ⟨_, _, _, _, _, _, _, _, rfl, hl, fun _ => rfl, fun h => f1 (by simpa [updD] using h), fun h => f2 (by simpa [updD] using h), fun h => f3 (by simpa [updD] using h), fun h => f4 (by simpa [updD] using h), fun h => f5 (by simpa [updD] using h), fun h => f6 (by simpa [updD] using h), fun h => f7 (by simpa [updD] using h)⟩
  ·refine wpOp_step rfl (fun K' hK => ?_)
   rw [if_pos (by rfl)]
   refine wp_load_mid 39 (.tmp 3) rfl b 0 rfl R.toList _ (fun j u hj => by rw [Nat.zero_add]; exact HC.out V hl j u (by simpa using hj)) Tryz.underlying39 rfl (by rw [← HR.out.2.2]; exact reqA_info) ?_
   exact hK _ _ ⟨_, _, _, _, _, _, _, _, rfl, hl, fun h => f0 (by simpa [updD] using h), fun _ => by simp, fun h => f2 (by simpa [updD] using h), fun h => f3 (by simpa [updD] using h), fun h => f4 (by simpa [updD] using h), fun h => f5 (by simpa [updD] using h), fun h => f6 (by simpa [updD] using h), fun h => f7 (by simpa [updD] using h)⟩
  ·have g0 := f0 (hdep 0 (by kernel_rfl))
   have g1 := f1 (hdep 1 (by kernel_rfl))
   subst g0
   subst g1
   refine wpOp_step rfl (fun K' hK => ?_)
   rw [if_pos (by rfl)]
   go_simp
   rw [← HR.out.2.2]
   refine (held93 r hr V (HLD.out V hl)).mono ?_
   rintro e V2 ⟨hl2, he⟩
   rw [HR.out.2.2]
   cases hs : shF .hdl r with
   | none =>
    rw [hs] at he
    subst he
    exact ⟨rfl, (HR.out.1.trans hl).trans hl2, by rw [shFs_none hs [.hdl, .key] (by simp)]; rfl⟩
   | some l =>
    rw [hs] at he
    subst he
    exact hK _ _ ⟨_, _, _, _, _, _, _, _, rfl, hl.trans hl2, fun h => f0 (by simpa [updD] using h), fun h => f1 (by simpa [updD] using h), fun _ => ⟨l, hs, rfl⟩, fun h => f3 (by simpa [updD] using h), fun h => f4 (by simpa [updD] using h), fun h => f5 (by simpa [updD] using h), fun h => (f6 (by simpa [updD] using h)).later hl2, fun h => (f7 (by simpa [updD] using h)).later hl2⟩
  ·have hc := Hc1.out V hl
   refine wpOp_step rfl (fun K' hK => ?_)
   rw [if_pos (by rfl)]
   go_simp
   exact hK _ _ ⟨_, _, _, _, _, _, _, _, rfl, hl, fun h => f0 (by simpa [updD] using h), fun h => f1 (by simpa [updD] using h), fun h => f2 (by simpa [updD] using h), fun _ => rfl, fun h => f4 (by simpa [updD] using h), fun h => f5 (by simpa [updD] using h), fun h => f6 (by simpa [updD] using h), fun h => f7 (by simpa [updD] using h)⟩
  ·refine wpOp_step rfl (fun K' hK => ?_)
   rw [if_pos (by rfl)]
   refine wp_load_mid 39 (.tmp 3) rfl b 0 rfl R.toList _ (fun j u hj => by rw [Nat.zero_add]; exact HC.out V hl j u (by simpa using hj)) Tryz.underlying39 rfl (by rw [← HR.out.2.2]; exact reqA_info) ?_
   exact hK _ _ ⟨_, _, _, _, _, _, _, _, rfl, hl, fun h => f0 (by simpa [updD] using h), fun h => f1 (by simpa [updD] using h), fun h => f2 (by simpa [updD] using h), fun h => f3 (by simpa [updD] using h), fun _ => by simp, fun h => f5 (by simpa [updD] using h), fun h => f6 (by simpa [updD] using h), fun h => f7 (by simpa [updD] using h)⟩
  ·have g3 := f3 (hdep 3 (by kernel_rfl))
   have g4 := f4 (hdep 4 (by kernel_rfl))
   subst g3
   subst g4
   refine wpOp_step rfl (fun K' hK => ?_)
   rw [if_pos (by rfl)]
   go_simp
   rw [← HR.out.2.2]
   refine (key92 r (by have := hr.len; omega) V).mono ?_
   rintro e V2 ⟨hl2, he⟩
   subst he
   rw [HR.out.2.2]
   exact hK _ _ ⟨_, _, _, _, _, _, _, _, rfl, hl.trans hl2, fun h => f0 (by simpa [updD] using h), fun h => f1 (by simpa [updD] using h), fun h => f2 (by simpa [updD] using h), fun h => f3 (by simpa [updD] using h), fun h => f4 (by simpa [updD] using h), fun _ => ⟨_, rfl, rfl⟩, fun h => (f6 (by simpa [updD] using h)).later hl2, fun h => (f7 (by simpa [updD] using h)).later hl2⟩
  ·have g2 := f2 (hdep 2 (by kernel_rfl))
   have g5 := f5 (hdep 5 (by kernel_rfl))
   refine wpOp_step rfl (fun K' hK => ?_)
   rw [if_pos (by rfl)]
   obtain ⟨l2, e2, rfl⟩ := g2
   obtain ⟨l5, e5, rfl⟩ := g5
   go_simp
   have hl2 : Later V (V.alloc (.cells #[strV l2, strV l5] 9)) := (Later.refl V).alloc _
   exact hK _ _ ⟨_, _, _, _, _, _, _, _, rfl, hl.trans hl2, fun h => f0 (by simpa [updD] using h), fun h => f1 (by simpa [updD] using h), fun h => f2 (by simpa [updD] using h), fun h => f3 (by simpa [updD] using h), fun h => f4 (by simpa [updD] using h), fun h => f5 (by simpa [updD] using h), fun _ => ⟨[l2, l5], V.heap.size, by simp [shFs, e2, e5], rfl, (MapKept.heap_alloc V _).1, (HR.out.1.trans hl).size, by simp⟩, fun h => (f7 (by simpa [updD] using h)).later hl2⟩
  ·have g6 := f6 (hdep 6 (by kernel_rfl))
   refine wpOp_step rfl (fun K' hK => ?_)
   rw [if_pos (by rfl)]
   go_simp
   exact hK _ _ ⟨_, _, _, _, _, _, _, _, rfl, hl, fun h => f0 (by simpa [updD] using h), fun h => f1 (by simpa [updD] using h), fun h => f2 (by simpa [updD] using h), fun h => f3 (by simpa [updD] using h), fun h => f4 (by simpa [updD] using h), fun h => f5 (by simpa [updD] using h), fun h => f6 (by simpa [updD] using h), fun _ => g6⟩
set_option maxRecDepth 100000 in
set_option maxHeartbeats 16000000 in
theorem show_put (r : Req) (hr : r.fit) (c0 c1 : Nat) (w : World) (hw : Laid w) (hc0 : w.cell? ⟨c0, 0, none⟩ = some (.func (.func 93) #[] #[])) (hc1 : w.cell? ⟨c1, 0, none⟩ = some (.func (.func 92) #[] #[])) : Calls Tryz.prog 100 #[reqV r, .pointer (some ⟨c0, 0, none⟩), .pointer (some ⟨c1, 0, none⟩)] w (ShEnd (shFs r [.hdl, .key, .val]) w) := by
 obtain ⟨R, hR⟩ : ∃ R, reqA r = R := ⟨_, rfl⟩
 unfold reqV
 rw [hR]
 obtain ⟨W, hW⟩ : ∃ W, w.alloc (.cells R 39) = W := ⟨_, rfl⟩
 obtain ⟨b, hb⟩ : ∃ b, w.heap.size = b := ⟨_, rfl⟩
 have hlW : Later w W := by rw [← hW]; exact (Later.refl w).alloc _
 have hbk : W.heap[b]? = some (.cells R 39 (0, 0)) := by rw [← hW, ← hb]; exact (MapKept.heap_alloc w _).1
 have hbW : b < W.heap.size := by rw [← hW, ← hb]; simp
 have HWW := Lib.hid (And.intro hW (And.intro hb hbW))
 have HR := Lib.hid (And.intro hlW (And.intro hbk hR))
 have hcell : ∀ (V : World), Later W V → ∀ o u, R[o]? = some u → V.cell? ⟨b, o, none⟩ = some u := fun V hV o u hu => cell_at hV (by rw [Lib.cell_of_heap hbk]; exact hu) hbW
 have HC := Lib.hid hcell
 have Hc0 := Lib.hid (fun (V : World) (hV : Later W V) => cell_at (hlW.trans hV) hc0 (World.block_lt_of_cell? _ _ hc0))
 have Hc1 := Lib.hid (fun (V : World) (hV : Later W V) => cell_at (hlW.trans hV) hc1 (World.block_lt_of_cell? _ _ hc1))
 have HLD := Lib.hid (fun (V : World) (hV : Later W V) => hw.later (hlW.trans hV))
 clear hW hb hlW hbk hbW hcell hR hc0 hc1
 go_enter Tryz.func100, Tryz.ntmps100
 go_upto_region 1 with fail
 rw [HWW.out.1, HWW.out.2.1]
 refine wp_region_inv mixedZ (fun D a V => ∃ (y : Value) (x5 x6 x7 x8 x9 x10 x11 x12 x13 x14 : Value), a = ⟨#[.agg R, .pointer (some ⟨c0, 0, none⟩), .pointer (some ⟨c1, 0, none⟩), .pointer (some ⟨b, 0, none⟩), y, x5, x6, x7, x8, x9, x10, x11, x12, x13, x14], []⟩ ∧ Later W V ∧ (D 0 = true → x5 = .func (.func 93) #[] #[]) ∧ (D 1 = true → x6 = .agg R) ∧ (D 2 = true → PV r .hdl x7) ∧ (D 3 = true → x8 = .func (.func 92) #[] #[]) ∧ (D 4 = true → x9 = .agg R) ∧ (D 5 = true → PV r .key x10) ∧ (D 6 = true → x11 = .pointer (some ⟨b, 5, none⟩)) ∧ (D 7 = true → x12 = strV r.val) ∧ (D 8 = true → PV r .val x13) ∧ (D 9 = true → BS r [.hdl, .key, .val] w V x14) ∧ (D 10 = true → BS r [.hdl, .key, .val] w V y)) (by kernel_rfl) ?h0 ?hstep ?hend
 case h0 => exact ⟨_, _, _, _, _, _, _, _, _, _, _, rfl, (Later.refl W).drew, (fun h => by cases h), (fun h => by cases h), (fun h => by cases h), (fun h => by cases h), (fun h => by cases h), (fun h => by cases h), (fun h => by cases h), (fun h => by cases h), (fun h => by cases h), (fun h => by cases h), (fun h => by cases h)⟩
 case hend =>
  intro D a V hD hI
  obtain ⟨y, x5, x6, x7, x8, x9, x10, x11, x12, x13, x14, rfl, hl, -, -, -, -, -, -, -, -, -, -, hf⟩ := hI
  obtain ⟨ws, L, e1, rfl, e3, e4, e5⟩ := hf (hD 10 (by decide))
  have HF := Lib.hid (show ShEnd (shFs r [.hdl, .key, .val]) w (.returned (.slice (some ⟨L, 0, none⟩) ws.length ws.length)) V from ⟨HR.out.1.trans hl, by rw [e1]; exact ⟨L, rfl, e3, e4⟩⟩)
  clear e1 e3 e4 e5 hl hD
  go_wp2_with fail
  go_ret
  exact HF.out
 case hstep =>
  intro i D a V hi hD hdep hI
  obtain ⟨y, x5, x6, x7, x8, x9, x10, x11, x12, x13, x14, rfl, hl, f0, f1, f2, f3, f4, f5, f6, f7, f8, f9, f10⟩ := hI
  have hi' : i = 0 ∨ i = 1 ∨ i = 2 ∨ i = 3 ∨ i = 4 ∨ i = 5 ∨ i = 6 ∨ i = 7 ∨ i = 8 ∨ i = 9 ∨ i = 10 := by
   have : i < 11 := hi
   omega
  rcases hi' with rfl | rfl | rfl | rfl | rfl | rfl | rfl | rfl | rfl | rfl | rfl
  ·have hc := Hc0.out V hl
   refine wpOp_step rfl (fun K' hK => ?_)
   rw [if_pos (by rfl)]
   go_simp
   exact hK _ _ ⟨_, _, _, _, _, _, _, _, _, _, _, rfl, hl, fun _ => rfl, fun h => f1 (by simpa [updD] using h), fun h => f2 (by simpa [updD] using h), fun h => f3 (by simpa [updD] using h), fun h => f4 (by simpa [updD] using h), fun h => f5 (by simpa [updD] using h), fun h => f6 (by simpa [updD] using h), fun h => f7 (by simpa [updD] using h), fun h => f8 (by simpa [updD] using h), fun h => f9 (by simpa [updD] using h), fun h => f10 (by simpa [updD] using h)⟩
  ·refine wpOp_step rfl (fun K' hK => ?_)
   rw [if_pos (by rfl)]
   refine wp_load_mid 39 (.tmp 3) rfl b 0 rfl R.toList _ (fun j u hj => by rw [Nat.zero_add]; exact HC.out V hl j u (by simpa using hj)) Tryz.underlying39 rfl (by rw [← HR.out.2.2]; exact reqA_info) ?_
   exact hK _ _ ⟨_, _, _, _, _, _, _, _, _, _, _, rfl, hl, fun h => f0 (by simpa [updD] using h), fun _ => by simp, fun h => f2 (by simpa [updD] using h), fun h => f3 (by simpa [updD] using h), fun h => f4 (by simpa [updD] using h), fun h => f5 (by simpa [updD] using h), fun h => f6 (by simpa [updD] using h), fun h => f7 (by simpa [updD] using h), fun h => f8 (by simpa [updD] using h), fun h => f9 (by simpa [updD] using h), fun h => f10 (by simpa [updD] using h)⟩
  ·have g0 := f0 (hdep 0 (by kernel_rfl))
   have g1 := f1 (hdep 1 (by kernel_rfl))
   subst g0
   subst g1
   refine wpOp_step rfl (fun K' hK => ?_)
   rw [if_pos (by rfl)]
   go_simp
   rw [← HR.out.2.2]
   refine (held93 r hr V (HLD.out V hl)).mono ?_
   rintro e V2 ⟨hl2, he⟩
   rw [HR.out.2.2]
   cases hs : shF .hdl r with
   | none =>
    rw [hs] at he
    subst he
    exact ⟨rfl, (HR.out.1.trans hl).trans hl2, by rw [shFs_none hs [.hdl, .key, .val] (by simp)]; rfl⟩
   | some l =>
    rw [hs] at he
    subst he
    exact hK _ _ ⟨_, _, _, _, _, _, _, _, _, _, _, rfl, hl.trans hl2, fun h => f0 (by simpa [updD] using h), fun h => f1 (by simpa [updD] using h), fun _ => ⟨l, hs, rfl⟩, fun h => f3 (by simpa [updD] using h), fun h => f4 (by simpa [updD] using h), fun h => f5 (by simpa [updD] using h), fun h => f6 (by simpa [updD] using h), fun h => f7 (by simpa [updD] using h), fun h => f8 (by simpa [updD] using h), fun h => (f9 (by simpa [updD] using h)).later hl2, fun h => (f10 (by simpa [updD] using h)).later hl2⟩
  ·have hc := Hc1.out V hl
   refine wpOp_step rfl (fun K' hK => ?_)
   rw [if_pos (by rfl)]
   go_simp
   exact hK _ _ ⟨_, _, _, _, _, _, _, _, _, _, _, rfl, hl, fun h => f0 (by simpa [updD] using h), fun h => f1 (by simpa [updD] using h), fun h => f2 (by simpa [updD] using h), fun _ => rfl, fun h => f4 (by simpa [updD] using h), fun h => f5 (by simpa [updD] using h), fun h => f6 (by simpa [updD] using h), fun h => f7 (by simpa [updD] using h), fun h => f8 (by simpa [updD] using h), fun h => f9 (by simpa [updD] using h), fun h => f10 (by simpa [updD] using h)⟩
  ·refine wpOp_step rfl (fun K' hK => ?_)
   rw [if_pos (by rfl)]
   refine wp_load_mid 39 (.tmp 3) rfl b 0 rfl R.toList _ (fun j u hj => by rw [Nat.zero_add]; exact HC.out V hl j u (by simpa using hj)) Tryz.underlying39 rfl (by rw [← HR.out.2.2]; exact reqA_info) ?_
   exact hK _ _ ⟨_, _, _, _, _, _, _, _, _, _, _, rfl, hl, fun h => f0 (by simpa [updD] using h), fun h => f1 (by simpa [updD] using h), fun h => f2 (by simpa [updD] using h), fun h => f3 (by simpa [updD] using h), fun _ => by simp, fun h => f5 (by simpa [updD] using h), fun h => f6 (by simpa [updD] using h), fun h => f7 (by simpa [updD] using h), fun h => f8 (by simpa [updD] using h), fun h => f9 (by simpa [updD] using h), fun h => f10 (by simpa [updD] using h)⟩
  ·have g3 := f3 (hdep 3 (by kernel_rfl))
   have g4 := f4 (hdep 4 (by kernel_rfl))
   subst g3
   subst g4
   refine wpOp_step rfl (fun K' hK => ?_)
   rw [if_pos (by rfl)]
   go_simp
   rw [← HR.out.2.2]
   refine (key92 r (by have := hr.len; omega) V).mono ?_
   rintro e V2 ⟨hl2, he⟩
   subst he
   rw [HR.out.2.2]
   exact hK _ _ ⟨_, _, _, _, _, _, _, _, _, _, _, rfl, hl.trans hl2, fun h => f0 (by simpa [updD] using h), fun h => f1 (by simpa [updD] using h), fun h => f2 (by simpa [updD] using h), fun h => f3 (by simpa [updD] using h), fun h => f4 (by simpa [updD] using h), fun _ => ⟨_, rfl, rfl⟩, fun h => f6 (by simpa [updD] using h), fun h => f7 (by simpa [updD] using h), fun h => f8 (by simpa [updD] using h), fun h => (f9 (by simpa [updD] using h)).later hl2, fun h => (f10 (by simpa [updD] using h)).later hl2⟩
  ·refine wpOp_step rfl (fun K' hK => ?_)
   rw [if_pos (by rfl)]
   go_simp
   exact hK _ _ ⟨_, _, _, _, _, _, _, _, _, _, _, rfl, hl, fun h => f0 (by simpa [updD] using h), fun h => f1 (by simpa [updD] using h), fun h => f2 (by simpa [updD] using h), fun h => f3 (by simpa [updD] using h), fun h => f4 (by simpa [updD] using h), fun h => f5 (by simpa [updD] using h), fun _ => rfl, fun h => f7 (by simpa [updD] using h), fun h => f8 (by simpa [updD] using h), fun h => f9 (by simpa [updD] using h), fun h => f10 (by simpa [updD] using h)⟩
  ·have g6 := f6 (hdep 6 (by kernel_rfl))
   subst g6
   have hc := HC.out V hl 5 (strV r.val) (by rw [← HR.out.2.2]; rfl)
   unfold strV at hc
   refine wpOp_step rfl (fun K' hK => ?_)
   rw [if_pos (by rfl)]
   go_simp
   exact hK _ _ ⟨_, _, _, _, _, _, _, _, _, _, _, rfl, hl, fun h => f0 (by simpa [updD] using h), fun h => f1 (by simpa [updD] using h), fun h => f2 (by simpa [updD] using h), fun h => f3 (by simpa [updD] using h), fun h => f4 (by simpa [updD] using h), fun h => f5 (by simpa [updD] using h), fun h => f6 (by simpa [updD] using h), fun _ => rfl, fun h => f8 (by simpa [updD] using h), fun h => f9 (by simpa [updD] using h), fun h => f10 (by simpa [updD] using h)⟩
  ·have g7 := f7 (hdep 7 (by kernel_rfl))
   subst g7
   refine wpOp_step rfl (fun K' hK => ?_)
   rw [if_pos (by rfl)]
   go_simp
   refine (Word_v r.val (by have := hr.len; omega) V).mono ?_
   rintro e V2 ⟨rfl, hl2⟩
   exact hK _ _ ⟨_, _, _, _, _, _, _, _, _, _, _, rfl, hl.trans hl2, fun h => f0 (by simpa [updD] using h), fun h => f1 (by simpa [updD] using h), fun h => f2 (by simpa [updD] using h), fun h => f3 (by simpa [updD] using h), fun h => f4 (by simpa [updD] using h), fun h => f5 (by simpa [updD] using h), fun h => f6 (by simpa [updD] using h), fun h => f7 (by simpa [updD] using h), fun _ => ⟨_, rfl, rfl⟩, fun h => (f9 (by simpa [updD] using h)).later hl2, fun h => (f10 (by simpa [updD] using h)).later hl2⟩
  ·have g2 := f2 (hdep 2 (by kernel_rfl))
   have g5 := f5 (hdep 5 (by kernel_rfl))
   have g8 := f8 (hdep 8 (by kernel_rfl))
   refine wpOp_step rfl (fun K' hK => ?_)
   rw [if_pos (by rfl)]
   obtain ⟨l2, e2, rfl⟩ := g2
   obtain ⟨l5, e5, rfl⟩ := g5
   obtain ⟨l8, e8, rfl⟩ := g8
   go_simp
   have hl2 : Later V (V.alloc (.cells #[strV l2, strV l5, strV l8] 9)) := (Later.refl V).alloc _
   exact hK _ _ ⟨_, _, _, _, _, _, _, _, _, _, _, rfl, hl.trans hl2, fun h => f0 (by simpa [updD] using h), fun h => f1 (by simpa [updD] using h), fun h => f2 (by simpa [updD] using h), fun h => f3 (by simpa [updD] using h), fun h => f4 (by simpa [updD] using h), fun h => f5 (by simpa [updD] using h), fun h => f6 (by simpa [updD] using h), fun h => f7 (by simpa [updD] using h), fun h => f8 (by simpa [updD] using h), fun _ => ⟨[l2, l5, l8], V.heap.size, by simp [shFs, e2, e5, e8], rfl, (MapKept.heap_alloc V _).1, (HR.out.1.trans hl).size, by simp⟩, fun h => (f10 (by simpa [updD] using h)).later hl2⟩
  ·have g9 := f9 (hdep 9 (by kernel_rfl))
   refine wpOp_step rfl (fun K' hK => ?_)
   rw [if_pos (by rfl)]
   go_simp
   exact hK _ _ ⟨_, _, _, _, _, _, _, _, _, _, _, rfl, hl, fun h => f0 (by simpa [updD] using h), fun h => f1 (by simpa [updD] using h), fun h => f2 (by simpa [updD] using h), fun h => f3 (by simpa [updD] using h), fun h => f4 (by simpa [updD] using h), fun h => f5 (by simpa [updD] using h), fun h => f6 (by simpa [updD] using h), fun h => f7 (by simpa [updD] using h), fun h => f8 (by simpa [updD] using h), fun h => f9 (by simpa [updD] using h), fun _ => g9⟩
set_option maxRecDepth 100000 in
set_option maxHeartbeats 16000000 in
theorem show_delete (r : Req) (hr : r.fit) (c0 c1 : Nat) (w : World) (hw : Laid w) (hc0 : w.cell? ⟨c0, 0, none⟩ = some (.func (.func 93) #[] #[])) (hc1 : w.cell? ⟨c1, 0, none⟩ = some (.func (.func 92) #[] #[])) : Calls Tryz.prog 101 #[reqV r, .pointer (some ⟨c0, 0, none⟩), .pointer (some ⟨c1, 0, none⟩)] w (ShEnd (shFs r [.hdl, .key]) w) := by
 obtain ⟨R, hR⟩ : ∃ R, reqA r = R := ⟨_, rfl⟩
 unfold reqV
 rw [hR]
 obtain ⟨W, hW⟩ : ∃ W, w.alloc (.cells R 39) = W := ⟨_, rfl⟩
 obtain ⟨b, hb⟩ : ∃ b, w.heap.size = b := ⟨_, rfl⟩
 have hlW : Later w W := by rw [← hW]; exact (Later.refl w).alloc _
 have hbk : W.heap[b]? = some (.cells R 39 (0, 0)) := by rw [← hW, ← hb]; exact (MapKept.heap_alloc w _).1
 have hbW : b < W.heap.size := by rw [← hW, ← hb]; simp
 have HWW := Lib.hid (And.intro hW (And.intro hb hbW))
 have HR := Lib.hid (And.intro hlW (And.intro hbk hR))
 have hcell : ∀ (V : World), Later W V → ∀ o u, R[o]? = some u → V.cell? ⟨b, o, none⟩ = some u := fun V hV o u hu => cell_at hV (by rw [Lib.cell_of_heap hbk]; exact hu) hbW
 have HC := Lib.hid hcell
 have Hc0 := Lib.hid (fun (V : World) (hV : Later W V) => cell_at (hlW.trans hV) hc0 (World.block_lt_of_cell? _ _ hc0))
 have Hc1 := Lib.hid (fun (V : World) (hV : Later W V) => cell_at (hlW.trans hV) hc1 (World.block_lt_of_cell? _ _ hc1))
 have HLD := Lib.hid (fun (V : World) (hV : Later W V) => hw.later (hlW.trans hV))
 clear hW hb hlW hbk hbW hcell hR hc0 hc1
 go_enter Tryz.func101, Tryz.ntmps101
 go_upto_region 1 with fail
 rw [HWW.out.1, HWW.out.2.1]
 refine wp_region_inv mixedZ (fun D a V => ∃ (y : Value) (x5 x6 x7 x8 x9 x10 x11 : Value), a = ⟨#[.agg R, .pointer (some ⟨c0, 0, none⟩), .pointer (some ⟨c1, 0, none⟩), .pointer (some ⟨b, 0, none⟩), y, x5, x6, x7, x8, x9, x10, x11], []⟩ ∧ Later W V ∧ (D 0 = true → x5 = .func (.func 93) #[] #[]) ∧ (D 1 = true → x6 = .agg R) ∧ (D 2 = true → PV r .hdl x7) ∧ (D 3 = true → x8 = .func (.func 92) #[] #[]) ∧ (D 4 = true → x9 = .agg R) ∧ (D 5 = true → PV r .key x10) ∧ (D 6 = true → BS r [.hdl, .key] w V x11) ∧ (D 7 = true → BS r [.hdl, .key] w V y)) (by kernel_rfl) ?h0 ?hstep ?hend
 case h0 => exact ⟨_, _, _, _, _, _, _, _, rfl, (Later.refl W).drew, (fun h => by cases h), (fun h => by cases h), (fun h => by cases h), (fun h => by cases h), (fun h => by cases h), (fun h => by cases h), (fun h => by cases h), (fun h => by cases h)⟩
 case hend =>
  intro D a V hD hI
  obtain ⟨y, x5, x6, x7, x8, x9, x10, x11, rfl, hl, -, -, -, -, -, -, -, hf⟩ := hI
  obtain ⟨ws, L, e1, rfl, e3, e4, e5⟩ := hf (hD 7 (by decide))
  have HF := Lib.hid (show ShEnd (shFs r [.hdl, .key]) w (.returned (.slice (some ⟨L, 0, none⟩) ws.length ws.length)) V from ⟨HR.out.1.trans hl, by rw [e1]; exact ⟨L, rfl, e3, e4⟩⟩)
  clear e1 e3 e4 e5 hl hD
  go_wp2_with fail
  go_ret
  exact HF.out
 case hstep =>
  intro i D a V hi hD hdep hI
  obtain ⟨y, x5, x6, x7, x8, x9, x10, x11, rfl, hl, f0, f1, f2, f3, f4, f5, f6, f7⟩ := hI
  have hi' : i = 0 ∨ i = 1 ∨ i = 2 ∨ i = 3 ∨ i = 4 ∨ i = 5 ∨ i = 6 ∨ i = 7 := by
   have : i < 8 := hi
   omega
  rcases hi' with rfl | rfl | rfl | rfl | rfl | rfl | rfl | rfl
  ·have hc := Hc0.out V hl
   refine wpOp_step rfl (fun K' hK => ?_)
   rw [if_pos (by rfl)]
   go_simp
   exact hK _ _ ⟨_, _, _, _, _, _, _, _, rfl, hl, fun _ => rfl, fun h => f1 (by simpa [updD] using h), fun h => f2 (by simpa [updD] using h), fun h => f3 (by simpa [updD] using h), fun h => f4 (by simpa [updD] using h), fun h => f5 (by simpa [updD] using h), fun h => f6 (by simpa [updD] using h), fun h => f7 (by simpa [updD] using h)⟩
  ·refine wpOp_step rfl (fun K' hK => ?_)
   rw [if_pos (by rfl)]
   refine wp_load_mid 39 (.tmp 3) rfl b 0 rfl R.toList _ (fun j u hj => by rw [Nat.zero_add]; exact HC.out V hl j u (by simpa using hj)) Tryz.underlying39 rfl (by rw [← HR.out.2.2]; exact reqA_info) ?_
   exact hK _ _ ⟨_, _, _, _, _, _, _, _, rfl, hl, fun h => f0 (by simpa [updD] using h), fun _ => by simp, fun h => f2 (by simpa [updD] using h), fun h => f3 (by simpa [updD] using h), fun h => f4 (by simpa [updD] using h), fun h => f5 (by simpa [updD] using h), fun h => f6 (by simpa [updD] using h), fun h => f7 (by simpa [updD] using h)⟩
  ·have g0 := f0 (hdep 0 (by kernel_rfl))
   have g1 := f1 (hdep 1 (by kernel_rfl))
   subst g0
   subst g1
   refine wpOp_step rfl (fun K' hK => ?_)
   rw [if_pos (by rfl)]
   go_simp
   rw [← HR.out.2.2]
   refine (held93 r hr V (HLD.out V hl)).mono ?_
   rintro e V2 ⟨hl2, he⟩
   rw [HR.out.2.2]
   cases hs : shF .hdl r with
   | none =>
    rw [hs] at he
    subst he
    exact ⟨rfl, (HR.out.1.trans hl).trans hl2, by rw [shFs_none hs [.hdl, .key] (by simp)]; rfl⟩
   | some l =>
    rw [hs] at he
    subst he
    exact hK _ _ ⟨_, _, _, _, _, _, _, _, rfl, hl.trans hl2, fun h => f0 (by simpa [updD] using h), fun h => f1 (by simpa [updD] using h), fun _ => ⟨l, hs, rfl⟩, fun h => f3 (by simpa [updD] using h), fun h => f4 (by simpa [updD] using h), fun h => f5 (by simpa [updD] using h), fun h => (f6 (by simpa [updD] using h)).later hl2, fun h => (f7 (by simpa [updD] using h)).later hl2⟩
  ·have hc := Hc1.out V hl
   refine wpOp_step rfl (fun K' hK => ?_)
   rw [if_pos (by rfl)]
   go_simp
   exact hK _ _ ⟨_, _, _, _, _, _, _, _, rfl, hl, fun h => f0 (by simpa [updD] using h), fun h => f1 (by simpa [updD] using h), fun h => f2 (by simpa [updD] using h), fun _ => rfl, fun h => f4 (by simpa [updD] using h), fun h => f5 (by simpa [updD] using h), fun h => f6 (by simpa [updD] using h), fun h => f7 (by simpa [updD] using h)⟩
  ·refine wpOp_step rfl (fun K' hK => ?_)
   rw [if_pos (by rfl)]
   refine wp_load_mid 39 (.tmp 3) rfl b 0 rfl R.toList _ (fun j u hj => by rw [Nat.zero_add]; exact HC.out V hl j u (by simpa using hj)) Tryz.underlying39 rfl (by rw [← HR.out.2.2]; exact reqA_info) ?_
   exact hK _ _ ⟨_, _, _, _, _, _, _, _, rfl, hl, fun h => f0 (by simpa [updD] using h), fun h => f1 (by simpa [updD] using h), fun h => f2 (by simpa [updD] using h), fun h => f3 (by simpa [updD] using h), fun _ => by simp, fun h => f5 (by simpa [updD] using h), fun h => f6 (by simpa [updD] using h), fun h => f7 (by simpa [updD] using h)⟩
  ·have g3 := f3 (hdep 3 (by kernel_rfl))
   have g4 := f4 (hdep 4 (by kernel_rfl))
   subst g3
   subst g4
   refine wpOp_step rfl (fun K' hK => ?_)
   rw [if_pos (by rfl)]
   go_simp
   rw [← HR.out.2.2]
   refine (key92 r (by have := hr.len; omega) V).mono ?_
   rintro e V2 ⟨hl2, he⟩
   subst he
   rw [HR.out.2.2]
   exact hK _ _ ⟨_, _, _, _, _, _, _, _, rfl, hl.trans hl2, fun h => f0 (by simpa [updD] using h), fun h => f1 (by simpa [updD] using h), fun h => f2 (by simpa [updD] using h), fun h => f3 (by simpa [updD] using h), fun h => f4 (by simpa [updD] using h), fun _ => ⟨_, rfl, rfl⟩, fun h => (f6 (by simpa [updD] using h)).later hl2, fun h => (f7 (by simpa [updD] using h)).later hl2⟩
  ·have g2 := f2 (hdep 2 (by kernel_rfl))
   have g5 := f5 (hdep 5 (by kernel_rfl))
   refine wpOp_step rfl (fun K' hK => ?_)
   rw [if_pos (by rfl)]
   obtain ⟨l2, e2, rfl⟩ := g2
   obtain ⟨l5, e5, rfl⟩ := g5
   go_simp
   have hl2 : Later V (V.alloc (.cells #[strV l2, strV l5] 9)) := (Later.refl V).alloc _
   exact hK _ _ ⟨_, _, _, _, _, _, _, _, rfl, hl.trans hl2, fun h => f0 (by simpa [updD] using h), fun h => f1 (by simpa [updD] using h), fun h => f2 (by simpa [updD] using h), fun h => f3 (by simpa [updD] using h), fun h => f4 (by simpa [updD] using h), fun h => f5 (by simpa [updD] using h), fun _ => ⟨[l2, l5], V.heap.size, by simp [shFs, e2, e5], rfl, (MapKept.heap_alloc V _).1, (HR.out.1.trans hl).size, by simp⟩, fun h => (f7 (by simpa [updD] using h)).later hl2⟩
  ·have g6 := f6 (hdep 6 (by kernel_rfl))
   refine wpOp_step rfl (fun K' hK => ?_)
   rw [if_pos (by rfl)]
   go_simp
   exact hK _ _ ⟨_, _, _, _, _, _, _, _, rfl, hl, fun h => f0 (by simpa [updD] using h), fun h => f1 (by simpa [updD] using h), fun h => f2 (by simpa [updD] using h), fun h => f3 (by simpa [updD] using h), fun h => f4 (by simpa [updD] using h), fun h => f5 (by simpa [updD] using h), fun h => f6 (by simpa [updD] using h), fun _ => g6⟩
set_option maxRecDepth 100000 in
set_option maxHeartbeats 16000000 in
theorem show_swap (r : Req) (hr : r.fit) (c0 c1 : Nat) (w : World) (hw : Laid w) (hc0 : w.cell? ⟨c0, 0, none⟩ = some (.func (.func 93) #[] #[])) (hc1 : w.cell? ⟨c1, 0, none⟩ = some (.func (.func 92) #[] #[])) : Calls Tryz.prog 103 #[reqV r, .pointer (some ⟨c0, 0, none⟩), .pointer (some ⟨c1, 0, none⟩)] w (ShEnd (shFs r [.hdl, .key, .old, .val]) w) := by
 obtain ⟨R, hR⟩ : ∃ R, reqA r = R := ⟨_, rfl⟩
 unfold reqV
 rw [hR]
 obtain ⟨W, hW⟩ : ∃ W, w.alloc (.cells R 39) = W := ⟨_, rfl⟩
 obtain ⟨b, hb⟩ : ∃ b, w.heap.size = b := ⟨_, rfl⟩
 have hlW : Later w W := by rw [← hW]; exact (Later.refl w).alloc _
 have hbk : W.heap[b]? = some (.cells R 39 (0, 0)) := by rw [← hW, ← hb]; exact (MapKept.heap_alloc w _).1
 have hbW : b < W.heap.size := by rw [← hW, ← hb]; simp
 have HWW := Lib.hid (And.intro hW (And.intro hb hbW))
 have HR := Lib.hid (And.intro hlW (And.intro hbk hR))
 have hcell : ∀ (V : World), Later W V → ∀ o u, R[o]? = some u → V.cell? ⟨b, o, none⟩ = some u := fun V hV o u hu => cell_at hV (by rw [Lib.cell_of_heap hbk]; exact hu) hbW
 have HC := Lib.hid hcell
 have Hc0 := Lib.hid (fun (V : World) (hV : Later W V) => cell_at (hlW.trans hV) hc0 (World.block_lt_of_cell? _ _ hc0))
 have Hc1 := Lib.hid (fun (V : World) (hV : Later W V) => cell_at (hlW.trans hV) hc1 (World.block_lt_of_cell? _ _ hc1))
 have HLD := Lib.hid (fun (V : World) (hV : Later W V) => hw.later (hlW.trans hV))
 clear hW hb hlW hbk hbW hcell hR hc0 hc1
 go_enter Tryz.func103, Tryz.ntmps103
 go_upto_region 1 with fail
 rw [HWW.out.1, HWW.out.2.1]
 refine wp_region_inv mixedZ (fun D a V => ∃ (y : Value) (x5 x6 x7 x8 x9 x10 x11 x12 x13 x14 x15 x16 x17 : Value), a = ⟨#[.agg R, .pointer (some ⟨c0, 0, none⟩), .pointer (some ⟨c1, 0, none⟩), .pointer (some ⟨b, 0, none⟩), y, x5, x6, x7, x8, x9, x10, x11, x12, x13, x14, x15, x16, x17], []⟩ ∧ Later W V ∧ (D 0 = true → x5 = .func (.func 93) #[] #[]) ∧ (D 1 = true → x6 = .agg R) ∧ (D 2 = true → PV r .hdl x7) ∧ (D 3 = true → x8 = .func (.func 92) #[] #[]) ∧ (D 4 = true → x9 = .agg R) ∧ (D 5 = true → PV r .key x10) ∧ (D 6 = true → x11 = .pointer (some ⟨b, 6, none⟩)) ∧ (D 7 = true → x12 = strV r.old) ∧ (D 8 = true → PV r .old x13) ∧ (D 9 = true → x14 = .pointer (some ⟨b, 5, none⟩)) ∧ (D 10 = true → x15 = strV r.val) ∧ (D 11 = true → PV r .val x16) ∧ (D 12 = true → BS r [.hdl, .key, .old, .val] w V x17) ∧ (D 13 = true → BS r [.hdl, .key, .old, .val] w V y)) (by kernel_rfl) ?h0 ?hstep ?hend
 case h0 => exact ⟨_, _, _, _, _, _, _, _, _, _, _, _, _, _, rfl, (Later.refl W).drew, (fun h => by cases h), (fun h => by cases h), (fun h => by cases h), (fun h => by cases h), (fun h => by cases h), (fun h => by cases h), (fun h => by cases h), (fun h => by cases h), (fun h => by cases h), (fun h => by cases h), (fun h => by cases h), (fun h => by cases h), (fun h => by cases h), (fun h => by cases h)⟩
 case hend =>
  intro D a V hD hI
  obtain ⟨y, x5, x6, x7, x8, x9, x10, x11, x12, x13, x14, x15, x16, x17, rfl, hl, -, -, -, -, -, -, -, -, -, -, -, -, -, hf⟩ := hI
  obtain ⟨ws, L, e1, rfl, e3, e4, e5⟩ := hf (hD 13 (by decide))
  have HF := Lib.hid (show ShEnd (shFs r [.hdl, .key, .old, .val]) w (.returned (.slice (some ⟨L, 0, none⟩) ws.length ws.length)) V from ⟨HR.out.1.trans hl, by rw [e1]; exact ⟨L, rfl, e3, e4⟩⟩)
  clear e1 e3 e4 e5 hl hD
  go_wp2_with fail
  go_ret
  exact HF.out
 case hstep =>
  intro i D a V hi hD hdep hI
  obtain ⟨y, x5, x6, x7, x8, x9, x10, x11, x12, x13, x14, x15, x16, x17, rfl, hl, f0, f1, f2, f3, f4, f5, f6, f7, f8, f9, f10, f11, f12, f13⟩ := hI
  have hi' : i = 0 ∨ i = 1 ∨ i = 2 ∨ i = 3 ∨ i = 4 ∨ i = 5 ∨ i = 6 ∨ i = 7 ∨ i = 8 ∨ i = 9 ∨ i = 10 ∨ i = 11 ∨ i = 12 ∨ i = 13 := by
   have : i < 14 := hi
   omega
  rcases hi' with rfl | rfl | rfl | rfl | rfl | rfl | rfl | rfl | rfl | rfl | rfl | rfl | rfl | rfl
  ·have hc := Hc0.out V hl
   refine wpOp_step rfl (fun K' hK => ?_)
   rw [if_pos (by rfl)]
   go_simp
   exact hK _ _ ⟨_, _, _, _, _, _, _, _, _, _, _, _, _, _, rfl, hl, fun _ => rfl, fun h => f1 (by simpa [updD] using h), fun h => f2 (by simpa [updD] using h), fun h => f3 (by simpa [updD] using h), fun h => f4 (by simpa [updD] using h), fun h => f5 (by simpa [updD] using h), fun h => f6 (by simpa [updD] using h), fun h => f7 (by simpa [updD] using h), fun h => f8 (by simpa [updD] using h), fun h => f9 (by simpa [updD] using h), fun h => f10 (by simpa [updD] using h), fun h => f11 (by simpa [updD] using h), fun h => f12 (by simpa [updD] using h), fun h => f13 (by simpa [updD] using h)⟩
  ·refine wpOp_step rfl (fun K' hK => ?_)
   rw [if_pos (by rfl)]
   refine wp_load_mid 39 (.tmp 3) rfl b 0 rfl R.toList _ (fun j u hj => by rw [Nat.zero_add]; exact HC.out V hl j u (by simpa using hj)) Tryz.underlying39 rfl (by rw [← HR.out.2.2]; exact reqA_info) ?_
   exact hK _ _ ⟨_, _, _, _, _, _, _, _, _, _, _, _, _, _, rfl, hl, fun h => f0 (by simpa [updD] using h), fun _ => by simp, fun h => f2 (by simpa [updD] using h), fun h => f3 (by simpa [updD] using h), fun h => f4 (by simpa [updD] using h), fun h => f5 (by simpa [updD] using h), fun h => f6 (by simpa [updD] using h), fun h => f7 (by simpa [updD] using h), fun h => f8 (by simpa [updD] using h), fun h => f9 (by simpa [updD] using h), fun h => f10 (by simpa [updD] using h), fun h => f11 (by simpa [updD] using h), fun h => f12 (by simpa [updD] using h), fun h => f13 (by simpa [updD] using h)⟩
  ·have g0 := f0 (hdep 0 (by kernel_rfl))
   have g1 := f1 (hdep 1 (by kernel_rfl))
   subst g0
   subst g1
   refine wpOp_step rfl (fun K' hK => ?_)
   rw [if_pos (by rfl)]
   go_simp
   rw [← HR.out.2.2]
   refine (held93 r hr V (HLD.out V hl)).mono ?_
   rintro e V2 ⟨hl2, he⟩
   rw [HR.out.2.2]
   cases hs : shF .hdl r with
   | none =>
    rw [hs] at he
    subst he
    exact ⟨rfl, (HR.out.1.trans hl).trans hl2, by rw [shFs_none hs [.hdl, .key, .old, .val] (by simp)]; rfl⟩
   | some l =>
    rw [hs] at he
    subst he
    exact hK _ _ ⟨_, _, _, _, _, _, _, _, _, _, _, _, _, _, rfl, hl.trans hl2, fun h => f0 (by simpa [updD] using h), fun h => f1 (by simpa [updD] using h), fun _ => ⟨l, hs, rfl⟩, fun h => f3 (by simpa [updD] using h), fun h => f4 (by simpa [updD] using h), fun h => f5 (by simpa [updD] using h), fun h => f6 (by simpa [updD] using h), fun h => f7 (by simpa [updD] using h), fun h => f8 (by simpa [updD] using h), fun h => f9 (by simpa [updD] using h), fun h => f10 (by simpa [updD] using h), fun h => f11 (by simpa [updD] using h), fun h => (f12 (by simpa [updD] using h)).later hl2, fun h => (f13 (by simpa [updD] using h)).later hl2⟩
  ·have hc := Hc1.out V hl
   refine wpOp_step rfl (fun K' hK => ?_)
   rw [if_pos (by rfl)]
   go_simp
   exact hK _ _ ⟨_, _, _, _, _, _, _, _, _, _, _, _, _, _, rfl, hl, fun h => f0 (by simpa [updD] using h), fun h => f1 (by simpa [updD] using h), fun h => f2 (by simpa [updD] using h), fun _ => rfl, fun h => f4 (by simpa [updD] using h), fun h => f5 (by simpa [updD] using h), fun h => f6 (by simpa [updD] using h), fun h => f7 (by simpa [updD] using h), fun h => f8 (by simpa [updD] using h), fun h => f9 (by simpa [updD] using h), fun h => f10 (by simpa [updD] using h), fun h => f11 (by simpa [updD] using h), fun h => f12 (by simpa [updD] using h), fun h => f13 (by simpa [updD] using h)⟩
  ·refine wpOp_step rfl (fun K' hK => ?_)
   rw [if_pos (by rfl)]
   refine wp_load_mid 39 (.tmp 3) rfl b 0 rfl R.toList _ (fun j u hj => by rw [Nat.zero_add]; exact HC.out V hl j u (by simpa using hj)) Tryz.underlying39 rfl (by rw [← HR.out.2.2]; exact reqA_info) ?_
   exact hK _ _ ⟨_, _, _, _, _, _, _, _, _, _, _, _, _, _, rfl, hl, fun h => f0 (by simpa [updD] using h), fun h => f1 (by simpa [updD] using h), fun h => f2 (by simpa [updD] using h), fun h => f3 (by simpa [updD] using h), fun _ => by simp, fun h => f5 (by simpa [updD] using h), fun h => f6 (by simpa [updD] using h), fun h => f7 (by simpa [updD] using h), fun h => f8 (by simpa [updD] using h), fun h => f9 (by simpa [updD] using h), fun h => f10 (by simpa [updD] using h), fun h => f11 (by simpa [updD] using h), fun h => f12 (by simpa [updD] using h), fun h => f13 (by simpa [updD] using h)⟩
  ·have g3 := f3 (hdep 3 (by kernel_rfl))
   have g4 := f4 (hdep 4 (by kernel_rfl))
   subst g3
   subst g4
   refine wpOp_step rfl (fun K' hK => ?_)
   rw [if_pos (by rfl)]
   go_simp
   rw [← HR.out.2.2]
   refine (key92 r (by have := hr.len; omega) V).mono ?_
   rintro e V2 ⟨hl2, he⟩
   subst he
   rw [HR.out.2.2]
   exact hK _ _ ⟨_, _, _, _, _, _, _, _, _, _, _, _, _, _, rfl, hl.trans hl2, fun h => f0 (by simpa [updD] using h), fun h => f1 (by simpa [updD] using h), fun h => f2 (by simpa [updD] using h), fun h => f3 (by simpa [updD] using h), fun h => f4 (by simpa [updD] using h), fun _ => ⟨_, rfl, rfl⟩, fun h => f6 (by simpa [updD] using h), fun h => f7 (by simpa [updD] using h), fun h => f8 (by simpa [updD] using h), fun h => f9 (by simpa [updD] using h), fun h => f10 (by simpa [updD] using h), fun h => f11 (by simpa [updD] using h), fun h => (f12 (by simpa [updD] using h)).later hl2, fun h => (f13 (by simpa [updD] using h)).later hl2⟩
  ·refine wpOp_step rfl (fun K' hK => ?_)
   rw [if_pos (by rfl)]
   go_simp
   exact hK _ _ ⟨_, _, _, _, _, _, _, _, _, _, _, _, _, _, rfl, hl, fun h => f0 (by simpa [updD] using h), fun h => f1 (by simpa [updD] using h), fun h => f2 (by simpa [updD] using h), fun h => f3 (by simpa [updD] using h), fun h => f4 (by simpa [updD] using h), fun h => f5 (by simpa [updD] using h), fun _ => rfl, fun h => f7 (by simpa [updD] using h), fun h => f8 (by simpa [updD] using h), fun h => f9 (by simpa [updD] using h), fun h => f10 (by simpa [updD] using h), fun h => f11 (by simpa [updD] using h), fun h => f12 (by simpa [updD] using h), fun h => f13 (by simpa [updD] using h)⟩
  ·have g6 := f6 (hdep 6 (by kernel_rfl))
   subst g6
   have hc := HC.out V hl 6 (strV r.old) (by rw [← HR.out.2.2]; rfl)
   unfold strV at hc
   refine wpOp_step rfl (fun K' hK => ?_)
   rw [if_pos (by rfl)]
   go_simp
   exact hK _ _ ⟨_, _, _, _, _, _, _, _, _, _, _, _, _, _, rfl, hl, fun h => f0 (by simpa [updD] using h), fun h => f1 (by simpa [updD] using h), fun h => f2 (by simpa [updD] using h), fun h => f3 (by simpa [updD] using h), fun h => f4 (by simpa [updD] using h), fun h => f5 (by simpa [updD] using h), fun h => f6 (by simpa [updD] using h), fun _ => rfl, fun h => f8 (by simpa [updD] using h), fun h => f9 (by simpa [updD] using h), fun h => f10 (by simpa [updD] using h), fun h => f11 (by simpa [updD] using h), fun h => f12 (by simpa [updD] using h), fun h => f13 (by simpa [updD] using h)⟩
  ·have g7 := f7 (hdep 7 (by kernel_rfl))
   subst g7
   refine wpOp_step rfl (fun K' hK => ?_)
   rw [if_pos (by rfl)]
   go_simp
   refine (Word_v r.old (by have := hr.len; omega) V).mono ?_
   rintro e V2 ⟨rfl, hl2⟩
   exact hK _ _ ⟨_, _, _, _, _, _, _, _, _, _, _, _, _, _, rfl, hl.trans hl2, fun h => f0 (by simpa [updD] using h), fun h => f1 (by simpa [updD] using h), fun h => f2 (by simpa [updD] using h), fun h => f3 (by simpa [updD] using h), fun h => f4 (by simpa [updD] using h), fun h => f5 (by simpa [updD] using h), fun h => f6 (by simpa [updD] using h), fun h => f7 (by simpa [updD] using h), fun _ => ⟨_, rfl, rfl⟩, fun h => f9 (by simpa [updD] using h), fun h => f10 (by simpa [updD] using h), fun h => f11 (by simpa [updD] using h), fun h => (f12 (by simpa [updD] using h)).later hl2, fun h => (f13 (by simpa [updD] using h)).later hl2⟩
  ·refine wpOp_step rfl (fun K' hK => ?_)
   rw [if_pos (by rfl)]
   go_simp
   exact hK _ _ ⟨_, _, _, _, _, _, _, _, _, _, _, _, _, _, rfl, hl, fun h => f0 (by simpa [updD] using h), fun h => f1 (by simpa [updD] using h), fun h => f2 (by simpa [updD] using h), fun h => f3 (by simpa [updD] using h), fun h => f4 (by simpa [updD] using h), fun h => f5 (by simpa [updD] using h), fun h => f6 (by simpa [updD] using h), fun h => f7 (by simpa [updD] using h), fun h => f8 (by simpa [updD] using h), fun _ => rfl, fun h => f10 (by simpa [updD] using h), fun h => f11 (by simpa [updD] using h), fun h => f12 (by simpa [updD] using h), fun h => f13 (by simpa [updD] using h)⟩
  ·have g9 := f9 (hdep 9 (by kernel_rfl))
   subst g9
   have hc := HC.out V hl 5 (strV r.val) (by rw [← HR.out.2.2]; rfl)
   unfold strV at hc
   refine wpOp_step rfl (fun K' hK => ?_)
   rw [if_pos (by rfl)]
   go_simp
   exact hK _ _ ⟨_, _, _, _, _, _, _, _, _, _, _, _, _, _, rfl, hl, fun h => f0 (by simpa [updD] using h), fun h => f1 (by simpa [updD] using h), fun h => f2 (by simpa [updD] using h), fun h => f3 (by simpa [updD] using h), fun h => f4 (by simpa [updD] using h), fun h => f5 (by simpa [updD] using h), fun h => f6 (by simpa [updD] using h), fun h => f7 (by simpa [updD] using h), fun h => f8 (by simpa [updD] using h), fun h => f9 (by simpa [updD] using h), fun _ => rfl, fun h => f11 (by simpa [updD] using h), fun h => f12 (by simpa [updD] using h), fun h => f13 (by simpa [updD] using h)⟩
  ·have g10 := f10 (hdep 10 (by kernel_rfl))
   subst g10
   refine wpOp_step rfl (fun K' hK => ?_)
   rw [if_pos (by rfl)]
   go_simp
   refine (Word_v r.val (by have := hr.len; omega) V).mono ?_
   rintro e V2 ⟨rfl, hl2⟩
   exact hK _ _ ⟨_, _, _, _, _, _, _, _, _, _, _, _, _, _, rfl, hl.trans hl2, fun h => f0 (by simpa [updD] using h), fun h => f1 (by simpa [updD] using h), fun h => f2 (by simpa [updD] using h), fun h => f3 (by simpa [updD] using h), fun h => f4 (by simpa [updD] using h), fun h => f5 (by simpa [updD] using h), fun h => f6 (by simpa [updD] using h), fun h => f7 (by simpa [updD] using h), fun h => f8 (by simpa [updD] using h), fun h => f9 (by simpa [updD] using h), fun h => f10 (by simpa [updD] using h), fun _ => ⟨_, rfl, rfl⟩, fun h => (f12 (by simpa [updD] using h)).later hl2, fun h => (f13 (by simpa [updD] using h)).later hl2⟩
  ·have g2 := f2 (hdep 2 (by kernel_rfl))
   have g5 := f5 (hdep 5 (by kernel_rfl))
   have g8 := f8 (hdep 8 (by kernel_rfl))
   have g11 := f11 (hdep 11 (by kernel_rfl))
   refine wpOp_step rfl (fun K' hK => ?_)
   rw [if_pos (by rfl)]
   obtain ⟨l2, e2, rfl⟩ := g2
   obtain ⟨l5, e5, rfl⟩ := g5
   obtain ⟨l8, e8, rfl⟩ := g8
   obtain ⟨l11, e11, rfl⟩ := g11
   go_simp
   have hl2 : Later V (V.alloc (.cells #[strV l2, strV l5, strV l8, strV l11] 9)) := (Later.refl V).alloc _
   exact hK _ _ ⟨_, _, _, _, _, _, _, _, _, _, _, _, _, _, rfl, hl.trans hl2, fun h => f0 (by simpa [updD] using h), fun h => f1 (by simpa [updD] using h), fun h => f2 (by simpa [updD] using h), fun h => f3 (by simpa [updD] using h), fun h => f4 (by simpa [updD] using h), fun h => f5 (by simpa [updD] using h), fun h => f6 (by simpa [updD] using h), fun h => f7 (by simpa [updD] using h), fun h => f8 (by simpa [updD] using h), fun h => f9 (by simpa [updD] using h), fun h => f10 (by simpa [updD] using h), fun h => f11 (by simpa [updD] using h), fun _ => ⟨[l2, l5, l8, l11], V.heap.size, by simp [shFs, e2, e5, e8, e11], rfl, (MapKept.heap_alloc V _).1, (HR.out.1.trans hl).size, by simp⟩, fun h => (f13 (by simpa [updD] using h)).later hl2⟩
  ·have g12 := f12 (hdep 12 (by kernel_rfl))
   refine wpOp_step rfl (fun K' hK => ?_)
   rw [if_pos (by rfl)]
   go_simp
   exact hK _ _ ⟨_, _, _, _, _, _, _, _, _, _, _, _, _, _, rfl, hl, fun h => f0 (by simpa [updD] using h), fun h => f1 (by simpa [updD] using h), fun h => f2 (by simpa [updD] using h), fun h => f3 (by simpa [updD] using h), fun h => f4 (by simpa [updD] using h), fun h => f5 (by simpa [updD] using h), fun h => f6 (by simpa [updD] using h), fun h => f7 (by simpa [updD] using h), fun h => f8 (by simpa [updD] using h), fun h => f9 (by simpa [updD] using h), fun h => f10 (by simpa [updD] using h), fun h => f11 (by simpa [updD] using h), fun h => f12 (by simpa [updD] using h), fun _ => g12⟩
set_option maxRecDepth 100000 in
set_option maxHeartbeats 16000000 in
theorem show_scan (r : Req) (hr : r.fit) (c0 c1 : Nat) (w : World) (hw : Laid w) (hc0 : w.cell? ⟨c0, 0, none⟩ = some (.func (.func 93) #[] #[])) (hc1 : w.cell? ⟨c1, 0, none⟩ = some (.func (.func 92) #[] #[])) : Calls Tryz.prog 105 #[reqV r, .pointer (some ⟨c0, 0, none⟩), .pointer (some ⟨c1, 0, none⟩)] w (ShEnd (shFs r [.hdl, .key, .lim]) w) := by
 obtain ⟨R, hR⟩ : ∃ R, reqA r = R := ⟨_, rfl⟩
 unfold reqV
 rw [hR]
 obtain ⟨W, hW⟩ : ∃ W, w.alloc (.cells R 39) = W := ⟨_, rfl⟩
 obtain ⟨b, hb⟩ : ∃ b, w.heap.size = b := ⟨_, rfl⟩
 have hlW : Later w W := by rw [← hW]; exact (Later.refl w).alloc _
 have hbk : W.heap[b]? = some (.cells R 39 (0, 0)) := by rw [← hW, ← hb]; exact (MapKept.heap_alloc w _).1
 have hbW : b < W.heap.size := by rw [← hW, ← hb]; simp
 have HWW := Lib.hid (And.intro hW (And.intro hb hbW))
 have HR := Lib.hid (And.intro hlW (And.intro hbk hR))
 have hcell : ∀ (V : World), Later W V → ∀ o u, R[o]? = some u → V.cell? ⟨b, o, none⟩ = some u := fun V hV o u hu => cell_at hV (by rw [Lib.cell_of_heap hbk]; exact hu) hbW
 have HC := Lib.hid hcell
 have Hc0 := Lib.hid (fun (V : World) (hV : Later W V) => cell_at (hlW.trans hV) hc0 (World.block_lt_of_cell? _ _ hc0))
 have Hc1 := Lib.hid (fun (V : World) (hV : Later W V) => cell_at (hlW.trans hV) hc1 (World.block_lt_of_cell? _ _ hc1))
 have HLD := Lib.hid (fun (V : World) (hV : Later W V) => hw.later (hlW.trans hV))
 clear hW hb hlW hbk hbW hcell hR hc0 hc1
 go_enter Tryz.func105, Tryz.ntmps105
 go_upto_region 1 with fail
 rw [HWW.out.1, HWW.out.2.1]
 refine wp_region_inv mixedZ (fun D a V => ∃ (y : Value) (x5 x6 x7 x8 x9 x10 x11 x12 x13 x14 : Value), a = ⟨#[.agg R, .pointer (some ⟨c0, 0, none⟩), .pointer (some ⟨c1, 0, none⟩), .pointer (some ⟨b, 0, none⟩), y, x5, x6, x7, x8, x9, x10, x11, x12, x13, x14], []⟩ ∧ Later W V ∧ (D 0 = true → x5 = .func (.func 93) #[] #[]) ∧ (D 1 = true → x6 = .agg R) ∧ (D 2 = true → PV r .hdl x7) ∧ (D 3 = true → x8 = .func (.func 92) #[] #[]) ∧ (D 4 = true → x9 = .agg R) ∧ (D 5 = true → PV r .key x10) ∧ (D 6 = true → x11 = .pointer (some ⟨b, 7, none⟩)) ∧ (D 7 = true → x12 = .int .i64 r.lim) ∧ (D 8 = true → PV r .lim x13) ∧ (D 9 = true → BS r [.hdl, .key, .lim] w V x14) ∧ (D 10 = true → BS r [.hdl, .key, .lim] w V y)) (by kernel_rfl) ?h0 ?hstep ?hend
 case h0 => exact ⟨_, _, _, _, _, _, _, _, _, _, _, rfl, (Later.refl W).drew, (fun h => by cases h), (fun h => by cases h), (fun h => by cases h), (fun h => by cases h), (fun h => by cases h), (fun h => by cases h), (fun h => by cases h), (fun h => by cases h), (fun h => by cases h), (fun h => by cases h), (fun h => by cases h)⟩
 case hend =>
  intro D a V hD hI
  obtain ⟨y, x5, x6, x7, x8, x9, x10, x11, x12, x13, x14, rfl, hl, -, -, -, -, -, -, -, -, -, -, hf⟩ := hI
  obtain ⟨ws, L, e1, rfl, e3, e4, e5⟩ := hf (hD 10 (by decide))
  have HF := Lib.hid (show ShEnd (shFs r [.hdl, .key, .lim]) w (.returned (.slice (some ⟨L, 0, none⟩) ws.length ws.length)) V from ⟨HR.out.1.trans hl, by rw [e1]; exact ⟨L, rfl, e3, e4⟩⟩)
  clear e1 e3 e4 e5 hl hD
  go_wp2_with fail
  go_ret
  exact HF.out
 case hstep =>
  intro i D a V hi hD hdep hI
  obtain ⟨y, x5, x6, x7, x8, x9, x10, x11, x12, x13, x14, rfl, hl, f0, f1, f2, f3, f4, f5, f6, f7, f8, f9, f10⟩ := hI
  have hi' : i = 0 ∨ i = 1 ∨ i = 2 ∨ i = 3 ∨ i = 4 ∨ i = 5 ∨ i = 6 ∨ i = 7 ∨ i = 8 ∨ i = 9 ∨ i = 10 := by
   have : i < 11 := hi
   omega
  rcases hi' with rfl | rfl | rfl | rfl | rfl | rfl | rfl | rfl | rfl | rfl | rfl
  ·have hc := Hc0.out V hl
   refine wpOp_step rfl (fun K' hK => ?_)
   rw [if_pos (by rfl)]
   go_simp
   exact hK _ _ ⟨_, _, _, _, _, _, _, _, _, _, _, rfl, hl, fun _ => rfl, fun h => f1 (by simpa [updD] using h), fun h => f2 (by simpa [updD] using h), fun h => f3 (by simpa [updD] using h), fun h => f4 (by simpa [updD] using h), fun h => f5 (by simpa [updD] using h), fun h => f6 (by simpa [updD] using h), fun h => f7 (by simpa [updD] using h), fun h => f8 (by simpa [updD] using h), fun h => f9 (by simpa [updD] using h), fun h => f10 (by simpa [updD] using h)⟩
  ·refine wpOp_step rfl (fun K' hK => ?_)
   rw [if_pos (by rfl)]
   refine wp_load_mid 39 (.tmp 3) rfl b 0 rfl R.toList _ (fun j u hj => by rw [Nat.zero_add]; exact HC.out V hl j u (by simpa using hj)) Tryz.underlying39 rfl (by rw [← HR.out.2.2]; exact reqA_info) ?_
   exact hK _ _ ⟨_, _, _, _, _, _, _, _, _, _, _, rfl, hl, fun h => f0 (by simpa [updD] using h), fun _ => by simp, fun h => f2 (by simpa [updD] using h), fun h => f3 (by simpa [updD] using h), fun h => f4 (by simpa [updD] using h), fun h => f5 (by simpa [updD] using h), fun h => f6 (by simpa [updD] using h), fun h => f7 (by simpa [updD] using h), fun h => f8 (by simpa [updD] using h), fun h => f9 (by simpa [updD] using h), fun h => f10 (by simpa [updD] using h)⟩
  ·have g0 := f0 (hdep 0 (by kernel_rfl))
   have g1 := f1 (hdep 1 (by kernel_rfl))
   subst g0
   subst g1
   refine wpOp_step rfl (fun K' hK => ?_)
   rw [if_pos (by rfl)]
   go_simp
   rw [← HR.out.2.2]
   refine (held93 r hr V (HLD.out V hl)).mono ?_
   rintro e V2 ⟨hl2, he⟩
   rw [HR.out.2.2]
   cases hs : shF .hdl r with
   | none =>
    rw [hs] at he
    subst he
    exact ⟨rfl, (HR.out.1.trans hl).trans hl2, by rw [shFs_none hs [.hdl, .key, .lim] (by simp)]; rfl⟩
   | some l =>
    rw [hs] at he
    subst he
    exact hK _ _ ⟨_, _, _, _, _, _, _, _, _, _, _, rfl, hl.trans hl2, fun h => f0 (by simpa [updD] using h), fun h => f1 (by simpa [updD] using h), fun _ => ⟨l, hs, rfl⟩, fun h => f3 (by simpa [updD] using h), fun h => f4 (by simpa [updD] using h), fun h => f5 (by simpa [updD] using h), fun h => f6 (by simpa [updD] using h), fun h => f7 (by simpa [updD] using h), fun h => f8 (by simpa [updD] using h), fun h => (f9 (by simpa [updD] using h)).later hl2, fun h => (f10 (by simpa [updD] using h)).later hl2⟩
  ·have hc := Hc1.out V hl
   refine wpOp_step rfl (fun K' hK => ?_)
   rw [if_pos (by rfl)]
   go_simp
   exact hK _ _ ⟨_, _, _, _, _, _, _, _, _, _, _, rfl, hl, fun h => f0 (by simpa [updD] using h), fun h => f1 (by simpa [updD] using h), fun h => f2 (by simpa [updD] using h), fun _ => rfl, fun h => f4 (by simpa [updD] using h), fun h => f5 (by simpa [updD] using h), fun h => f6 (by simpa [updD] using h), fun h => f7 (by simpa [updD] using h), fun h => f8 (by simpa [updD] using h), fun h => f9 (by simpa [updD] using h), fun h => f10 (by simpa [updD] using h)⟩
  ·refine wpOp_step rfl (fun K' hK => ?_)
   rw [if_pos (by rfl)]
   refine wp_load_mid 39 (.tmp 3) rfl b 0 rfl R.toList _ (fun j u hj => by rw [Nat.zero_add]; exact HC.out V hl j u (by simpa using hj)) Tryz.underlying39 rfl (by rw [← HR.out.2.2]; exact reqA_info) ?_
   exact hK _ _ ⟨_, _, _, _, _, _, _, _, _, _, _, rfl, hl, fun h => f0 (by simpa [updD] using h), fun h => f1 (by simpa [updD] using h), fun h => f2 (by simpa [updD] using h), fun h => f3 (by simpa [updD] using h), fun _ => by simp, fun h => f5 (by simpa [updD] using h), fun h => f6 (by simpa [updD] using h), fun h => f7 (by simpa [updD] using h), fun h => f8 (by simpa [updD] using h), fun h => f9 (by simpa [updD] using h), fun h => f10 (by simpa [updD] using h)⟩
  ·have g3 := f3 (hdep 3 (by kernel_rfl))
   have g4 := f4 (hdep 4 (by kernel_rfl))
   subst g3
   subst g4
   refine wpOp_step rfl (fun K' hK => ?_)
   rw [if_pos (by rfl)]
   go_simp
   rw [← HR.out.2.2]
   refine (key92 r (by have := hr.len; omega) V).mono ?_
   rintro e V2 ⟨hl2, he⟩
   subst he
   rw [HR.out.2.2]
   exact hK _ _ ⟨_, _, _, _, _, _, _, _, _, _, _, rfl, hl.trans hl2, fun h => f0 (by simpa [updD] using h), fun h => f1 (by simpa [updD] using h), fun h => f2 (by simpa [updD] using h), fun h => f3 (by simpa [updD] using h), fun h => f4 (by simpa [updD] using h), fun _ => ⟨_, rfl, rfl⟩, fun h => f6 (by simpa [updD] using h), fun h => f7 (by simpa [updD] using h), fun h => f8 (by simpa [updD] using h), fun h => (f9 (by simpa [updD] using h)).later hl2, fun h => (f10 (by simpa [updD] using h)).later hl2⟩
  ·refine wpOp_step rfl (fun K' hK => ?_)
   rw [if_pos (by rfl)]
   go_simp
   exact hK _ _ ⟨_, _, _, _, _, _, _, _, _, _, _, rfl, hl, fun h => f0 (by simpa [updD] using h), fun h => f1 (by simpa [updD] using h), fun h => f2 (by simpa [updD] using h), fun h => f3 (by simpa [updD] using h), fun h => f4 (by simpa [updD] using h), fun h => f5 (by simpa [updD] using h), fun _ => rfl, fun h => f7 (by simpa [updD] using h), fun h => f8 (by simpa [updD] using h), fun h => f9 (by simpa [updD] using h), fun h => f10 (by simpa [updD] using h)⟩
  ·have g6 := f6 (hdep 6 (by kernel_rfl))
   subst g6
   have hc := HC.out V hl 7 (.int .i64 r.lim) (by rw [← HR.out.2.2]; rfl)
   refine wpOp_step rfl (fun K' hK => ?_)
   rw [if_pos (by rfl)]
   go_simp
   exact hK _ _ ⟨_, _, _, _, _, _, _, _, _, _, _, rfl, hl, fun h => f0 (by simpa [updD] using h), fun h => f1 (by simpa [updD] using h), fun h => f2 (by simpa [updD] using h), fun h => f3 (by simpa [updD] using h), fun h => f4 (by simpa [updD] using h), fun h => f5 (by simpa [updD] using h), fun h => f6 (by simpa [updD] using h), fun _ => rfl, fun h => f8 (by simpa [updD] using h), fun h => f9 (by simpa [updD] using h), fun h => f10 (by simpa [updD] using h)⟩
  ·have g7 := f7 (hdep 7 (by kernel_rfl))
   subst g7
   refine wpOp_step rfl (fun K' hK => ?_)
   rw [if_pos (by rfl)]
   go_simp
   refine (itoa_is r.lim hr.lim.1 hr.lim.2 V (HLD.out V hl)).mono ?_
   rintro e V2 ⟨rfl, hl2⟩
   exact hK _ _ ⟨_, _, _, _, _, _, _, _, _, _, _, rfl, hl.trans hl2, fun h => f0 (by simpa [updD] using h), fun h => f1 (by simpa [updD] using h), fun h => f2 (by simpa [updD] using h), fun h => f3 (by simpa [updD] using h), fun h => f4 (by simpa [updD] using h), fun h => f5 (by simpa [updD] using h), fun h => f6 (by simpa [updD] using h), fun h => f7 (by simpa [updD] using h), fun _ => ⟨_, rfl, rfl⟩, fun h => (f9 (by simpa [updD] using h)).later hl2, fun h => (f10 (by simpa [updD] using h)).later hl2⟩
  ·have g2 := f2 (hdep 2 (by kernel_rfl))
   have g5 := f5 (hdep 5 (by kernel_rfl))
   have g8 := f8 (hdep 8 (by kernel_rfl))
   refine wpOp_step rfl (fun K' hK => ?_)
   rw [if_pos (by rfl)]
   obtain ⟨l2, e2, rfl⟩ := g2
   obtain ⟨l5, e5, rfl⟩ := g5
   obtain ⟨l8, e8, rfl⟩ := g8
   go_simp
   have hl2 : Later V (V.alloc (.cells #[strV l2, strV l5, strV l8] 9)) := (Later.refl V).alloc _
   exact hK _ _ ⟨_, _, _, _, _, _, _, _, _, _, _, rfl, hl.trans hl2, fun h => f0 (by simpa [updD] using h), fun h => f1 (by simpa [updD] using h), fun h => f2 (by simpa [updD] using h), fun h => f3 (by simpa [updD] using h), fun h => f4 (by simpa [updD] using h), fun h => f5 (by simpa [updD] using h), fun h => f6 (by simpa [updD] using h), fun h => f7 (by simpa [updD] using h), fun h => f8 (by simpa [updD] using h), fun _ => ⟨[l2, l5, l8], V.heap.size, by simp [shFs, e2, e5, e8], rfl, (MapKept.heap_alloc V _).1, (HR.out.1.trans hl).size, by simp⟩, fun h => (f10 (by simpa [updD] using h)).later hl2⟩
  ·have g9 := f9 (hdep 9 (by kernel_rfl))
   refine wpOp_step rfl (fun K' hK => ?_)
   rw [if_pos (by rfl)]
   go_simp
   exact hK _ _ ⟨_, _, _, _, _, _, _, _, _, _, _, rfl, hl, fun h => f0 (by simpa [updD] using h), fun h => f1 (by simpa [updD] using h), fun h => f2 (by simpa [updD] using h), fun h => f3 (by simpa [updD] using h), fun h => f4 (by simpa [updD] using h), fun h => f5 (by simpa [updD] using h), fun h => f6 (by simpa [updD] using h), fun h => f7 (by simpa [updD] using h), fun h => f8 (by simpa [updD] using h), fun h => f9 (by simpa [updD] using h), fun _ => g9⟩
set_option maxRecDepth 100000 in
set_option maxHeartbeats 16000000 in
theorem show_create (r : Req) (hr : r.fit) (c0 : Nat) (w : World) (hw : Laid w) (hc0 : w.cell? ⟨c0, 0, none⟩ = some (.func (.func 94) #[] #[])) : Calls Tryz.prog 110 #[reqV r, .pointer (some ⟨c0, 0, none⟩)] w (ShEnd (shFs r [.ten, .qk, .qb]) w) := by
 obtain ⟨R, hR⟩ : ∃ R, reqA r = R := ⟨_, rfl⟩
 unfold reqV
 rw [hR]
 obtain ⟨W, hW⟩ : ∃ W, w.alloc (.cells R 39) = W := ⟨_, rfl⟩
 obtain ⟨b, hb⟩ : ∃ b, w.heap.size = b := ⟨_, rfl⟩
 have hlW : Later w W := by rw [← hW]; exact (Later.refl w).alloc _
 have hbk : W.heap[b]? = some (.cells R 39 (0, 0)) := by rw [← hW, ← hb]; exact (MapKept.heap_alloc w _).1
 have hbW : b < W.heap.size := by rw [← hW, ← hb]; simp
 have HWW := Lib.hid (And.intro hW (And.intro hb hbW))
 have HR := Lib.hid (And.intro hlW (And.intro hbk hR))
 have hcell : ∀ (V : World), Later W V → ∀ o u, R[o]? = some u → V.cell? ⟨b, o, none⟩ = some u := fun V hV o u hu => cell_at hV (by rw [Lib.cell_of_heap hbk]; exact hu) hbW
 have HC := Lib.hid hcell
 have Hc0 := Lib.hid (fun (V : World) (hV : Later W V) => cell_at (hlW.trans hV) hc0 (World.block_lt_of_cell? _ _ hc0))
 have HLD := Lib.hid (fun (V : World) (hV : Later W V) => hw.later (hlW.trans hV))
 clear hW hb hlW hbk hbW hcell hR hc0
 go_enter Tryz.func110, Tryz.ntmps110
 go_upto_region 1 with fail
 rw [HWW.out.1, HWW.out.2.1]
 refine wp_region_inv mixedZ (fun D a V => ∃ (y : Value) (x4 x5 x6 x7 x8 x9 x10 x11 x12 x13 x14 x15 : Value), a = ⟨#[.agg R, .pointer (some ⟨c0, 0, none⟩), .pointer (some ⟨b, 0, none⟩), y, x4, x5, x6, x7, x8, x9, x10, x11, x12, x13, x14, x15], []⟩ ∧ Later W V ∧ (D 0 = true → x4 = .func (.func 94) #[] #[]) ∧ (D 1 = true → x5 = .agg R) ∧ (D 2 = true → PV r .ten x6) ∧ (D 3 = true → x7 = .pointer (some ⟨b, 9, none⟩)) ∧ (D 4 = true → x8 = .pointer (some ⟨b, 9, none⟩)) ∧ (D 5 = true → x9 = .int .u64 r.qk) ∧ (D 6 = true → PV r .qk x10) ∧ (D 7 = true → x11 = .pointer (some ⟨b, 9, none⟩)) ∧ (D 8 = true → x12 = .pointer (some ⟨b, 10, none⟩)) ∧ (D 9 = true → x13 = .int .u64 r.qb) ∧ (D 10 = true → PV r .qb x14) ∧ (D 11 = true → BS r [.ten, .qk, .qb] w V x15) ∧ (D 12 = true → BS r [.ten, .qk, .qb] w V y)) (by kernel_rfl) ?h0 ?hstep ?hend
 case h0 => exact ⟨_, _, _, _, _, _, _, _, _, _, _, _, _, rfl, (Later.refl W).drew, (fun h => by cases h), (fun h => by cases h), (fun h => by cases h), (fun h => by cases h), (fun h => by cases h), (fun h => by cases h), (fun h => by cases h), (fun h => by cases h), (fun h => by cases h), (fun h => by cases h), (fun h => by cases h), (fun h => by cases h), (fun h => by cases h)⟩
 case hend =>
  intro D a V hD hI
  obtain ⟨y, x4, x5, x6, x7, x8, x9, x10, x11, x12, x13, x14, x15, rfl, hl, -, -, -, -, -, -, -, -, -, -, -, -, hf⟩ := hI
  obtain ⟨ws, L, e1, rfl, e3, e4, e5⟩ := hf (hD 12 (by decide))
  have HF := Lib.hid (show ShEnd (shFs r [.ten, .qk, .qb]) w (.returned (.slice (some ⟨L, 0, none⟩) ws.length ws.length)) V from ⟨HR.out.1.trans hl, by rw [e1]; exact ⟨L, rfl, e3, e4⟩⟩)
  clear e1 e3 e4 e5 hl hD
  go_wp2_with fail
  go_ret
  exact HF.out
 case hstep =>
  intro i D a V hi hD hdep hI
  obtain ⟨y, x4, x5, x6, x7, x8, x9, x10, x11, x12, x13, x14, x15, rfl, hl, f0, f1, f2, f3, f4, f5, f6, f7, f8, f9, f10, f11, f12⟩ := hI
  have hi' : i = 0 ∨ i = 1 ∨ i = 2 ∨ i = 3 ∨ i = 4 ∨ i = 5 ∨ i = 6 ∨ i = 7 ∨ i = 8 ∨ i = 9 ∨ i = 10 ∨ i = 11 ∨ i = 12 := by
   have : i < 13 := hi
   omega
  rcases hi' with rfl | rfl | rfl | rfl | rfl | rfl | rfl | rfl | rfl | rfl | rfl | rfl | rfl
  ·have hc := Hc0.out V hl
   refine wpOp_step rfl (fun K' hK => ?_)
   rw [if_pos (by rfl)]
   go_simp
   exact hK _ _ ⟨_, _, _, _, _, _, _, _, _, _, _, _, _, rfl, hl, fun _ => rfl, fun h => f1 (by simpa [updD] using h), fun h => f2 (by simpa [updD] using h), fun h => f3 (by simpa [updD] using h), fun h => f4 (by simpa [updD] using h), fun h => f5 (by simpa [updD] using h), fun h => f6 (by simpa [updD] using h), fun h => f7 (by simpa [updD] using h), fun h => f8 (by simpa [updD] using h), fun h => f9 (by simpa [updD] using h), fun h => f10 (by simpa [updD] using h), fun h => f11 (by simpa [updD] using h), fun h => f12 (by simpa [updD] using h)⟩
  ·refine wpOp_step rfl (fun K' hK => ?_)
   rw [if_pos (by rfl)]
   refine wp_load_mid 39 (.tmp 2) rfl b 0 rfl R.toList _ (fun j u hj => by rw [Nat.zero_add]; exact HC.out V hl j u (by simpa using hj)) Tryz.underlying39 rfl (by rw [← HR.out.2.2]; exact reqA_info) ?_
   exact hK _ _ ⟨_, _, _, _, _, _, _, _, _, _, _, _, _, rfl, hl, fun h => f0 (by simpa [updD] using h), fun _ => by simp, fun h => f2 (by simpa [updD] using h), fun h => f3 (by simpa [updD] using h), fun h => f4 (by simpa [updD] using h), fun h => f5 (by simpa [updD] using h), fun h => f6 (by simpa [updD] using h), fun h => f7 (by simpa [updD] using h), fun h => f8 (by simpa [updD] using h), fun h => f9 (by simpa [updD] using h), fun h => f10 (by simpa [updD] using h), fun h => f11 (by simpa [updD] using h), fun h => f12 (by simpa [updD] using h)⟩
  ·have g0 := f0 (hdep 0 (by kernel_rfl))
   have g1 := f1 (hdep 1 (by kernel_rfl))
   subst g0
   subst g1
   refine wpOp_step rfl (fun K' hK => ?_)
   rw [if_pos (by rfl)]
   go_simp
   rw [← HR.out.2.2]
   refine (ten94 r hr V (HLD.out V hl)).mono ?_
   rintro e V2 ⟨hl2, he⟩
   rw [HR.out.2.2]
   cases hs : shF .ten r with
   | none =>
    rw [hs] at he
    subst he
    exact ⟨rfl, (HR.out.1.trans hl).trans hl2, by rw [shFs_none hs [.ten, .qk, .qb] (by simp)]; rfl⟩
   | some l =>
    rw [hs] at he
    subst he
    exact hK _ _ ⟨_, _, _, _, _, _, _, _, _, _, _, _, _, rfl, hl.trans hl2, fun h => f0 (by simpa [updD] using h), fun h => f1 (by simpa [updD] using h), fun _ => ⟨l, hs, rfl⟩, fun h => f3 (by simpa [updD] using h), fun h => f4 (by simpa [updD] using h), fun h => f5 (by simpa [updD] using h), fun h => f6 (by simpa [updD] using h), fun h => f7 (by simpa [updD] using h), fun h => f8 (by simpa [updD] using h), fun h => f9 (by simpa [updD] using h), fun h => f10 (by simpa [updD] using h), fun h => (f11 (by simpa [updD] using h)).later hl2, fun h => (f12 (by simpa [updD] using h)).later hl2⟩
  ·refine wpOp_step rfl (fun K' hK => ?_)
   rw [if_pos (by rfl)]
   go_simp
   exact hK _ _ ⟨_, _, _, _, _, _, _, _, _, _, _, _, _, rfl, hl, fun h => f0 (by simpa [updD] using h), fun h => f1 (by simpa [updD] using h), fun h => f2 (by simpa [updD] using h), fun _ => rfl, fun h => f4 (by simpa [updD] using h), fun h => f5 (by simpa [updD] using h), fun h => f6 (by simpa [updD] using h), fun h => f7 (by simpa [updD] using h), fun h => f8 (by simpa [updD] using h), fun h => f9 (by simpa [updD] using h), fun h => f10 (by simpa [updD] using h), fun h => f11 (by simpa [updD] using h), fun h => f12 (by simpa [updD] using h)⟩
  ·have g3 := f3 (hdep 3 (by kernel_rfl))
   subst g3
   refine wpOp_step rfl (fun K' hK => ?_)
   rw [if_pos (by rfl)]
   go_simp
   exact hK _ _ ⟨_, _, _, _, _, _, _, _, _, _, _, _, _, rfl, hl, fun h => f0 (by simpa [updD] using h), fun h => f1 (by simpa [updD] using h), fun h => f2 (by simpa [updD] using h), fun h => f3 (by simpa [updD] using h), fun _ => rfl, fun h => f5 (by simpa [updD] using h), fun h => f6 (by simpa [updD] using h), fun h => f7 (by simpa [updD] using h), fun h => f8 (by simpa [updD] using h), fun h => f9 (by simpa [updD] using h), fun h => f10 (by simpa [updD] using h), fun h => f11 (by simpa [updD] using h), fun h => f12 (by simpa [updD] using h)⟩
  ·have g4 := f4 (hdep 4 (by kernel_rfl))
   subst g4
   have hc := HC.out V hl 9 (.int .u64 r.qk) (by rw [← HR.out.2.2]; rfl)
   refine wpOp_step rfl (fun K' hK => ?_)
   rw [if_pos (by rfl)]
   go_simp
   exact hK _ _ ⟨_, _, _, _, _, _, _, _, _, _, _, _, _, rfl, hl, fun h => f0 (by simpa [updD] using h), fun h => f1 (by simpa [updD] using h), fun h => f2 (by simpa [updD] using h), fun h => f3 (by simpa [updD] using h), fun h => f4 (by simpa [updD] using h), fun _ => rfl, fun h => f6 (by simpa [updD] using h), fun h => f7 (by simpa [updD] using h), fun h => f8 (by simpa [updD] using h), fun h => f9 (by simpa [updD] using h), fun h => f10 (by simpa [updD] using h), fun h => f11 (by simpa [updD] using h), fun h => f12 (by simpa [updD] using h)⟩
  ·have g5 := f5 (hdep 5 (by kernel_rfl))
   subst g5
   refine wpOp_step rfl (fun K' hK => ?_)
   rw [if_pos (by rfl)]
   go_simp
   refine (fmtu_is r.qk hr.qk.1 hr.qk.2 V (HLD.out V hl)).mono ?_
   rintro e V2 ⟨rfl, hl2⟩
   exact hK _ _ ⟨_, _, _, _, _, _, _, _, _, _, _, _, _, rfl, hl.trans hl2, fun h => f0 (by simpa [updD] using h), fun h => f1 (by simpa [updD] using h), fun h => f2 (by simpa [updD] using h), fun h => f3 (by simpa [updD] using h), fun h => f4 (by simpa [updD] using h), fun h => f5 (by simpa [updD] using h), fun _ => ⟨_, rfl, rfl⟩, fun h => f7 (by simpa [updD] using h), fun h => f8 (by simpa [updD] using h), fun h => f9 (by simpa [updD] using h), fun h => f10 (by simpa [updD] using h), fun h => (f11 (by simpa [updD] using h)).later hl2, fun h => (f12 (by simpa [updD] using h)).later hl2⟩
  ·refine wpOp_step rfl (fun K' hK => ?_)
   rw [if_pos (by rfl)]
   go_simp
   exact hK _ _ ⟨_, _, _, _, _, _, _, _, _, _, _, _, _, rfl, hl, fun h => f0 (by simpa [updD] using h), fun h => f1 (by simpa [updD] using h), fun h => f2 (by simpa [updD] using h), fun h => f3 (by simpa [updD] using h), fun h => f4 (by simpa [updD] using h), fun h => f5 (by simpa [updD] using h), fun h => f6 (by simpa [updD] using h), fun _ => rfl, fun h => f8 (by simpa [updD] using h), fun h => f9 (by simpa [updD] using h), fun h => f10 (by simpa [updD] using h), fun h => f11 (by simpa [updD] using h), fun h => f12 (by simpa [updD] using h)⟩
  ·have g7 := f7 (hdep 7 (by kernel_rfl))
   subst g7
   refine wpOp_step rfl (fun K' hK => ?_)
   rw [if_pos (by rfl)]
   go_simp
   exact hK _ _ ⟨_, _, _, _, _, _, _, _, _, _, _, _, _, rfl, hl, fun h => f0 (by simpa [updD] using h), fun h => f1 (by simpa [updD] using h), fun h => f2 (by simpa [updD] using h), fun h => f3 (by simpa [updD] using h), fun h => f4 (by simpa [updD] using h), fun h => f5 (by simpa [updD] using h), fun h => f6 (by simpa [updD] using h), fun h => f7 (by simpa [updD] using h), fun _ => rfl, fun h => f9 (by simpa [updD] using h), fun h => f10 (by simpa [updD] using h), fun h => f11 (by simpa [updD] using h), fun h => f12 (by simpa [updD] using h)⟩
  ·have g8 := f8 (hdep 8 (by kernel_rfl))
   subst g8
   have hc := HC.out V hl 10 (.int .u64 r.qb) (by rw [← HR.out.2.2]; rfl)
   refine wpOp_step rfl (fun K' hK => ?_)
   rw [if_pos (by rfl)]
   go_simp
   exact hK _ _ ⟨_, _, _, _, _, _, _, _, _, _, _, _, _, rfl, hl, fun h => f0 (by simpa [updD] using h), fun h => f1 (by simpa [updD] using h), fun h => f2 (by simpa [updD] using h), fun h => f3 (by simpa [updD] using h), fun h => f4 (by simpa [updD] using h), fun h => f5 (by simpa [updD] using h), fun h => f6 (by simpa [updD] using h), fun h => f7 (by simpa [updD] using h), fun h => f8 (by simpa [updD] using h), fun _ => rfl, fun h => f10 (by simpa [updD] using h), fun h => f11 (by simpa [updD] using h), fun h => f12 (by simpa [updD] using h)⟩
  ·have g9 := f9 (hdep 9 (by kernel_rfl))
   subst g9
   refine wpOp_step rfl (fun K' hK => ?_)
   rw [if_pos (by rfl)]
   go_simp
   refine (fmtu_is r.qb hr.qb.1 hr.qb.2 V (HLD.out V hl)).mono ?_
   rintro e V2 ⟨rfl, hl2⟩
   exact hK _ _ ⟨_, _, _, _, _, _, _, _, _, _, _, _, _, rfl, hl.trans hl2, fun h => f0 (by simpa [updD] using h), fun h => f1 (by simpa [updD] using h), fun h => f2 (by simpa [updD] using h), fun h => f3 (by simpa [updD] using h), fun h => f4 (by simpa [updD] using h), fun h => f5 (by simpa [updD] using h), fun h => f6 (by simpa [updD] using h), fun h => f7 (by simpa [updD] using h), fun h => f8 (by simpa [updD] using h), fun h => f9 (by simpa [updD] using h), fun _ => ⟨_, rfl, rfl⟩, fun h => (f11 (by simpa [updD] using h)).later hl2, fun h => (f12 (by simpa [updD] using h)).later hl2⟩
  ·have g2 := f2 (hdep 2 (by kernel_rfl))
   have g6 := f6 (hdep 6 (by kernel_rfl))
   have g10 := f10 (hdep 10 (by kernel_rfl))
   refine wpOp_step rfl (fun K' hK => ?_)
   rw [if_pos (by rfl)]
   obtain ⟨l2, e2, rfl⟩ := g2
   obtain ⟨l6, e6, rfl⟩ := g6
   obtain ⟨l10, e10, rfl⟩ := g10
   go_simp
   have hl2 : Later V (V.alloc (.cells #[strV l2, strV l6, strV l10] 9)) := (Later.refl V).alloc _
   exact hK _ _ ⟨_, _, _, _, _, _, _, _, _, _, _, _, _, rfl, hl.trans hl2, fun h => f0 (by simpa [updD] using h), fun h => f1 (by simpa [updD] using h), fun h => f2 (by simpa [updD] using h), fun h => f3 (by simpa [updD] using h), fun h => f4 (by simpa [updD] using h), fun h => f5 (by simpa [updD] using h), fun h => f6 (by simpa [updD] using h), fun h => f7 (by simpa [updD] using h), fun h => f8 (by simpa [updD] using h), fun h => f9 (by simpa [updD] using h), fun h => f10 (by simpa [updD] using h), fun _ => ⟨[l2, l6, l10], V.heap.size, by simp [shFs, e2, e6, e10], rfl, (MapKept.heap_alloc V _).1, (HR.out.1.trans hl).size, by simp⟩, fun h => (f12 (by simpa [updD] using h)).later hl2⟩
  ·have g11 := f11 (hdep 11 (by kernel_rfl))
   refine wpOp_step rfl (fun K' hK => ?_)
   rw [if_pos (by rfl)]
   go_simp
   exact hK _ _ ⟨_, _, _, _, _, _, _, _, _, _, _, _, _, rfl, hl, fun h => f0 (by simpa [updD] using h), fun h => f1 (by simpa [updD] using h), fun h => f2 (by simpa [updD] using h), fun h => f3 (by simpa [updD] using h), fun h => f4 (by simpa [updD] using h), fun h => f5 (by simpa [updD] using h), fun h => f6 (by simpa [updD] using h), fun h => f7 (by simpa [updD] using h), fun h => f8 (by simpa [updD] using h), fun h => f9 (by simpa [updD] using h), fun h => f10 (by simpa [updD] using h), fun h => f11 (by simpa [updD] using h), fun _ => g11⟩
set_option maxRecDepth 100000 in
set_option maxHeartbeats 16000000 in
theorem show_issue (r : Req) (hr : r.fit) (c0 c1 : Nat) (w : World) (hw : Laid w) (hc0 : w.cell? ⟨c0, 0, none⟩ = some (.func (.func 94) #[] #[])) (hc1 : w.cell? ⟨c1, 0, none⟩ = some (.func (.func 95) #[] #[])) : Calls Tryz.prog 114 #[reqV r, .pointer (some ⟨c0, 0, none⟩), .pointer (some ⟨c1, 0, none⟩)] w (ShEnd (shFs r [.ten, .rts]) w) := by
 obtain ⟨R, hR⟩ : ∃ R, reqA r = R := ⟨_, rfl⟩
 unfold reqV
 rw [hR]
 obtain ⟨W, hW⟩ : ∃ W, w.alloc (.cells R 39) = W := ⟨_, rfl⟩
 obtain ⟨b, hb⟩ : ∃ b, w.heap.size = b := ⟨_, rfl⟩
 have hlW : Later w W := by rw [← hW]; exact (Later.refl w).alloc _
 have hbk : W.heap[b]? = some (.cells R 39 (0, 0)) := by rw [← hW, ← hb]; exact (MapKept.heap_alloc w _).1
 have hbW : b < W.heap.size := by rw [← hW, ← hb]; simp
 have HWW := Lib.hid (And.intro hW (And.intro hb hbW))
 have HR := Lib.hid (And.intro hlW (And.intro hbk hR))
 have hcell : ∀ (V : World), Later W V → ∀ o u, R[o]? = some u → V.cell? ⟨b, o, none⟩ = some u := fun V hV o u hu => cell_at hV (by rw [Lib.cell_of_heap hbk]; exact hu) hbW
 have HC := Lib.hid hcell
 have Hc0 := Lib.hid (fun (V : World) (hV : Later W V) => cell_at (hlW.trans hV) hc0 (World.block_lt_of_cell? _ _ hc0))
 have Hc1 := Lib.hid (fun (V : World) (hV : Later W V) => cell_at (hlW.trans hV) hc1 (World.block_lt_of_cell? _ _ hc1))
 have HLD := Lib.hid (fun (V : World) (hV : Later W V) => hw.later (hlW.trans hV))
 clear hW hb hlW hbk hbW hcell hR hc0 hc1
 go_enter Tryz.func114, Tryz.ntmps114
 go_upto_region 1 with fail
 rw [HWW.out.1, HWW.out.2.1]
 refine wp_region_inv mixedZ (fun D a V => ∃ (y : Value) (x5 x6 x7 x8 x9 x10 x11 : Value), a = ⟨#[.agg R, .pointer (some ⟨c0, 0, none⟩), .pointer (some ⟨c1, 0, none⟩), .pointer (some ⟨b, 0, none⟩), y, x5, x6, x7, x8, x9, x10, x11], []⟩ ∧ Later W V ∧ (D 0 = true → x5 = .func (.func 94) #[] #[]) ∧ (D 1 = true → x6 = .agg R) ∧ (D 2 = true → PV r .ten x7) ∧ (D 3 = true → x8 = .func (.func 95) #[] #[]) ∧ (D 4 = true → x9 = .agg R) ∧ (D 5 = true → PV r .rts x10) ∧ (D 6 = true → BS r [.ten, .rts] w V x11) ∧ (D 7 = true → BS r [.ten, .rts] w V y)) (by kernel_rfl) ?h0 ?hstep ?hend
 case h0 => exact ⟨_, _, _, _, _, _, _, _, rfl, (Later.refl W).drew, (fun h => by cases h), (fun h => by cases h), (fun h => by cases h), (fun h => by cases h), (fun h => by cases h), (fun h => by cases h), (fun h => by cases h), (fun h => by cases h)⟩
 case hend =>
  intro D a V hD hI
  obtain ⟨y, x5, x6, x7, x8, x9, x10, x11, rfl, hl, -, -, -, -, -, -, -, hf⟩ := hI
  obtain ⟨ws, L, e1, rfl, e3, e4, e5⟩ := hf (hD 7 (by decide))
  have HF := Lib.hid (show ShEnd (shFs r [.ten, .rts]) w (.returned (.slice (some ⟨L, 0, none⟩) ws.length ws.length)) V from ⟨HR.out.1.trans hl, by rw [e1]; exact ⟨L, rfl, e3, e4⟩⟩)
  clear e1 e3 e4 e5 hl hD
  go_wp2_with fail
  go_ret
  exact HF.out
 case hstep =>
  intro i D a V hi hD hdep hI
  obtain ⟨y, x5, x6, x7, x8, x9, x10, x11, rfl, hl, f0, f1, f2, f3, f4, f5, f6, f7⟩ := hI
  have hi' : i = 0 ∨ i = 1 ∨ i = 2 ∨ i = 3 ∨ i = 4 ∨ i = 5 ∨ i = 6 ∨ i = 7 := by
   have : i < 8 := hi
   omega
  rcases hi' with rfl | rfl | rfl | rfl | rfl | rfl | rfl | rfl
  ·have hc := Hc0.out V hl
   refine wpOp_step rfl (fun K' hK => ?_)
   rw [if_pos (by rfl)]
   go_simp
   exact hK _ _ ⟨_, _, _, _, _, _, _, _, rfl, hl, fun _ => rfl, fun h => f1 (by simpa [updD] using h), fun h => f2 (by simpa [updD] using h), fun h => f3 (by simpa [updD] using h), fun h => f4 (by simpa [updD] using h), fun h => f5 (by simpa [updD] using h), fun h => f6 (by simpa [updD] using h), fun h => f7 (by simpa [updD] using h)⟩
  ·refine wpOp_step rfl (fun K' hK => ?_)
   rw [if_pos (by rfl)]
   refine wp_load_mid 39 (.tmp 3) rfl b 0 rfl R.toList _ (fun j u hj => by rw [Nat.zero_add]; exact HC.out V hl j u (by simpa using hj)) Tryz.underlying39 rfl (by rw [← HR.out.2.2]; exact reqA_info) ?_
   exact hK _ _ ⟨_, _, _, _, _, _, _, _, rfl, hl, fun h => f0 (by simpa [updD] using h), fun _ => by simp, fun h => f2 (by simpa [updD] using h), fun h => f3 (by simpa [updD] using h), fun h => f4 (by simpa [updD] using h), fun h => f5 (by simpa [updD] using h), fun h => f6 (by simpa [updD] using h), fun h => f7 (by simpa [updD] using h)⟩
  ·have g0 := f0 (hdep 0 (by kernel_rfl))
   have g1 := f1 (hdep 1 (by kernel_rfl))
   subst g0
   subst g1
   refine wpOp_step rfl (fun K' hK => ?_)
   rw [if_pos (by rfl)]
   go_simp
   rw [← HR.out.2.2]
   refine (ten94 r hr V (HLD.out V hl)).mono ?_
   rintro e V2 ⟨hl2, he⟩
   rw [HR.out.2.2]
   cases hs : shF .ten r with
   | none =>
    rw [hs] at he
    subst he
    exact ⟨rfl, (HR.out.1.trans hl).trans hl2, by rw [shFs_none hs [.ten, .rts] (by simp)]; rfl⟩
   | some l =>
    rw [hs] at he
    subst he
    exact hK _ _ ⟨_, _, _, _, _, _, _, _, rfl, hl.trans hl2, fun h => f0 (by simpa [updD] using h), fun h => f1 (by simpa [updD] using h), fun _ => ⟨l, hs, rfl⟩, fun h => f3 (by simpa [updD] using h), fun h => f4 (by simpa [updD] using h), fun h => f5 (by simpa [updD] using h), fun h => (f6 (by simpa [updD] using h)).later hl2, fun h => (f7 (by simpa [updD] using h)).later hl2⟩
  ·have hc := Hc1.out V hl
   refine wpOp_step rfl (fun K' hK => ?_)
   rw [if_pos (by rfl)]
   go_simp
   exact hK _ _ ⟨_, _, _, _, _, _, _, _, rfl, hl, fun h => f0 (by simpa [updD] using h), fun h => f1 (by simpa [updD] using h), fun h => f2 (by simpa [updD] using h), fun _ => rfl, fun h => f4 (by simpa [updD] using h), fun h => f5 (by simpa [updD] using h), fun h => f6 (by simpa [updD] using h), fun h => f7 (by simpa [updD] using h)⟩
  ·refine wpOp_step rfl (fun K' hK => ?_)
   rw [if_pos (by rfl)]
   refine wp_load_mid 39 (.tmp 3) rfl b 0 rfl R.toList _ (fun j u hj => by rw [Nat.zero_add]; exact HC.out V hl j u (by simpa using hj)) Tryz.underlying39 rfl (by rw [← HR.out.2.2]; exact reqA_info) ?_
   exact hK _ _ ⟨_, _, _, _, _, _, _, _, rfl, hl, fun h => f0 (by simpa [updD] using h), fun h => f1 (by simpa [updD] using h), fun h => f2 (by simpa [updD] using h), fun h => f3 (by simpa [updD] using h), fun _ => by simp, fun h => f5 (by simpa [updD] using h), fun h => f6 (by simpa [updD] using h), fun h => f7 (by simpa [updD] using h)⟩
  ·have g3 := f3 (hdep 3 (by kernel_rfl))
   have g4 := f4 (hdep 4 (by kernel_rfl))
   subst g3
   subst g4
   refine wpOp_step rfl (fun K' hK => ?_)
   rw [if_pos (by rfl)]
   go_simp
   rw [← HR.out.2.2]
   refine (rts95 r hr V (HLD.out V hl)).mono ?_
   rintro e V2 ⟨hl2, he⟩
   rw [HR.out.2.2]
   cases hs : shF .rts r with
   | none =>
    rw [hs] at he
    subst he
    exact ⟨rfl, (HR.out.1.trans hl).trans hl2, by rw [shFs_none hs [.ten, .rts] (by simp)]; rfl⟩
   | some l =>
    rw [hs] at he
    subst he
    exact hK _ _ ⟨_, _, _, _, _, _, _, _, rfl, hl.trans hl2, fun h => f0 (by simpa [updD] using h), fun h => f1 (by simpa [updD] using h), fun h => f2 (by simpa [updD] using h), fun h => f3 (by simpa [updD] using h), fun h => f4 (by simpa [updD] using h), fun _ => ⟨l, hs, rfl⟩, fun h => (f6 (by simpa [updD] using h)).later hl2, fun h => (f7 (by simpa [updD] using h)).later hl2⟩
  ·have g2 := f2 (hdep 2 (by kernel_rfl))
   have g5 := f5 (hdep 5 (by kernel_rfl))
   refine wpOp_step rfl (fun K' hK => ?_)
   rw [if_pos (by rfl)]
   obtain ⟨l2, e2, rfl⟩ := g2
   obtain ⟨l5, e5, rfl⟩ := g5
   go_simp
   have hl2 : Later V (V.alloc (.cells #[strV l2, strV l5] 9)) := (Later.refl V).alloc _
   exact hK _ _ ⟨_, _, _, _, _, _, _, _, rfl, hl.trans hl2, fun h => f0 (by simpa [updD] using h), fun h => f1 (by simpa [updD] using h), fun h => f2 (by simpa [updD] using h), fun h => f3 (by simpa [updD] using h), fun h => f4 (by simpa [updD] using h), fun h => f5 (by simpa [updD] using h), fun _ => ⟨[l2, l5], V.heap.size, by simp [shFs, e2, e5], rfl, (MapKept.heap_alloc V _).1, (HR.out.1.trans hl).size, by simp⟩, fun h => (f7 (by simpa [updD] using h)).later hl2⟩
  ·have g6 := f6 (hdep 6 (by kernel_rfl))
   refine wpOp_step rfl (fun K' hK => ?_)
   rw [if_pos (by rfl)]
   go_simp
   exact hK _ _ ⟨_, _, _, _, _, _, _, _, rfl, hl, fun h => f0 (by simpa [updD] using h), fun h => f1 (by simpa [updD] using h), fun h => f2 (by simpa [updD] using h), fun h => f3 (by simpa [updD] using h), fun h => f4 (by simpa [updD] using h), fun h => f5 (by simpa [updD] using h), fun h => f6 (by simpa [updD] using h), fun _ => g6⟩
end Go.Proofs.YtkbedajbbakihaaGreatDoor

/-
 The forms' show functions of one word, walked. Conditions: as Sk's.
-/
namespace Go.Proofs.YtkbedajbbakihaaGreatDoor
open Go.RowKit Go.Sort Go.Lib
set_option linter.unusedSimpArgs false
set_option linter.unusedVariables false

set_option maxRecDepth 100000 in
theorem show_tell (r : Req) (hr : r.fit) (c0 : Nat) (w : World) (hw : Laid w) (hc0 : w.cell? ⟨c0, 0, none⟩ = some (.func (.func 93) #[] #[])) : Calls Tryz.prog 106 #[reqV r, .pointer (some ⟨c0, 0, none⟩)] w (ShEnd (shFs r [.hdl]) w) := by
 obtain ⟨R, hR⟩ : ∃ R, reqA r = R := ⟨_, rfl⟩
 have hl : Later w (w.alloc (.cells R 39)) := (Later.refl w).alloc _
 have hS := held93 r hr (w.alloc (.cells R 39)) (hw.later hl)
 unfold reqV at hS ⊢
 rw [hR] at hS ⊢
 have hc1 := cell_at hl hc0 (World.block_lt_of_cell? _ _ hc0)
 have hbk : (w.alloc (.cells R 39)).heap[w.heap.size]? = some (.cells R 39 (0, 0)) := (MapKept.heap_alloc w _).1
 have hrg : (w.alloc (.cells R 39)).rangeAt w.heap.size 0 R.toList := fun j u hj => by rw [Lib.cell_of_heap hbk, Nat.zero_add]; simpa using hj
 have HRG := Lib.hid (And.intro hrg hR)
 have HL := Lib.hid hl
 have HS := Lib.hid hS
 obtain ⟨res, hres⟩ : ∃ res, shF .hdl r = res := ⟨_, rfl⟩
 rw [hres] at HS
 have e1 : shFs r [.hdl] = res.map fun x => [x] := by
  rw [shFs, hres]
  cases res <;> rfl
 rw [e1]
 clear hR hl hS hc0 hbk hrg e1 hres
 obtain ⟨W, hW⟩ : ∃ W, w.alloc (.cells R 39) = W := ⟨_, rfl⟩
 have hcW := hc1
 rw [hW] at HRG HS HL hcW
 have HWW := Lib.hid hW
 clear hW hc1
 cases res with
 | none =>
  show Calls Tryz.prog 106 _ w (ShEnd none w)
  go_enter Tryz.func106, Tryz.ntmps106
  go_upto_region 1 with fail
  rw [HWW.out]
  go_wp2_with (refine wpList_load_mid rfl 39 (.tmp 2) rfl w.heap.size 0 rfl R.toList _ HRG.out.1 Tryz.underlying39 rfl (by rw [← HRG.out.2]; exact reqA_info) ?_)
  refine HS.out.mono ?_
  rintro e w1 ⟨hl1, he⟩
  have HF := Lib.hid (show ShEnd none w wrongE w1 from ⟨HL.out.trans hl1, rfl⟩)
  cases he
  clear hl1
  unfold wrongE
  go_wp2_with fail
  exact ⟨rfl, HF.out⟩
 | some x =>
  show Calls Tryz.prog 106 _ w (ShEnd (some [x]) w)
  go_enter Tryz.func106, Tryz.ntmps106
  go_upto_region 1 with fail
  rw [HWW.out]
  go_wp2_with (refine wpList_load_mid rfl 39 (.tmp 2) rfl w.heap.size 0 rfl R.toList _ HRG.out.1 Tryz.underlying39 rfl (by rw [← HRG.out.2]; exact reqA_info) ?_)
  refine HS.out.mono ?_
  rintro e w1 ⟨hl1, he⟩
  have HF := Lib.hid (show ShEnd (some [x]) w (.returned (.slice (some ⟨w1.heap.size, 0, none⟩) 1 1)) (w1.alloc (.cells #[strV x] 9)) from ⟨(HL.out.trans hl1).alloc _, w1.heap.size, rfl, (MapKept.heap_alloc w1 _).1, (HL.out.trans hl1).size⟩)
  unfold strV at HF he
  cases he
  clear hl1
  go_wp2_with fail
  go_ret
  exact HF.out

set_option maxRecDepth 100000 in
theorem show_remove (r : Req) (hr : r.fit) (c0 : Nat) (w : World) (hw : Laid w) (hc0 : w.cell? ⟨c0, 0, none⟩ = some (.func (.func 94) #[] #[])) : Calls Tryz.prog 112 #[reqV r, .pointer (some ⟨c0, 0, none⟩)] w (ShEnd (shFs r [.ten]) w) := by
 obtain ⟨R, hR⟩ : ∃ R, reqA r = R := ⟨_, rfl⟩
 have hl : Later w (w.alloc (.cells R 39)) := (Later.refl w).alloc _
 have hS := ten94 r hr (w.alloc (.cells R 39)) (hw.later hl)
 unfold reqV at hS ⊢
 rw [hR] at hS ⊢
 have hc1 := cell_at hl hc0 (World.block_lt_of_cell? _ _ hc0)
 have hbk : (w.alloc (.cells R 39)).heap[w.heap.size]? = some (.cells R 39 (0, 0)) := (MapKept.heap_alloc w _).1
 have hrg : (w.alloc (.cells R 39)).rangeAt w.heap.size 0 R.toList := fun j u hj => by rw [Lib.cell_of_heap hbk, Nat.zero_add]; simpa using hj
 have HRG := Lib.hid (And.intro hrg hR)
 have HL := Lib.hid hl
 have HS := Lib.hid hS
 obtain ⟨res, hres⟩ : ∃ res, shF .ten r = res := ⟨_, rfl⟩
 rw [hres] at HS
 have e1 : shFs r [.ten] = res.map fun x => [x] := by
  rw [shFs, hres]
  cases res <;> rfl
 rw [e1]
 clear hR hl hS hc0 hbk hrg e1 hres
 obtain ⟨W, hW⟩ : ∃ W, w.alloc (.cells R 39) = W := ⟨_, rfl⟩
 have hcW := hc1
 rw [hW] at HRG HS HL hcW
 have HWW := Lib.hid hW
 clear hW hc1
 cases res with
 | none =>
  show Calls Tryz.prog 112 _ w (ShEnd none w)
  go_enter Tryz.func112, Tryz.ntmps112
  go_upto_region 1 with fail
  rw [HWW.out]
  go_wp2_with (refine wpList_load_mid rfl 39 (.tmp 2) rfl w.heap.size 0 rfl R.toList _ HRG.out.1 Tryz.underlying39 rfl (by rw [← HRG.out.2]; exact reqA_info) ?_)
  refine HS.out.mono ?_
  rintro e w1 ⟨hl1, he⟩
  have HF := Lib.hid (show ShEnd none w wrongE w1 from ⟨HL.out.trans hl1, rfl⟩)
  cases he
  clear hl1
  unfold wrongE
  go_wp2_with fail
  exact ⟨rfl, HF.out⟩
 | some x =>
  show Calls Tryz.prog 112 _ w (ShEnd (some [x]) w)
  go_enter Tryz.func112, Tryz.ntmps112
  go_upto_region 1 with fail
  rw [HWW.out]
  go_wp2_with (refine wpList_load_mid rfl 39 (.tmp 2) rfl w.heap.size 0 rfl R.toList _ HRG.out.1 Tryz.underlying39 rfl (by rw [← HRG.out.2]; exact reqA_info) ?_)
  refine HS.out.mono ?_
  rintro e w1 ⟨hl1, he⟩
  have HF := Lib.hid (show ShEnd (some [x]) w (.returned (.slice (some ⟨w1.heap.size, 0, none⟩) 1 1)) (w1.alloc (.cells #[strV x] 9)) from ⟨(HL.out.trans hl1).alloc _, w1.heap.size, rfl, (MapKept.heap_alloc w1 _).1, (HL.out.trans hl1).size⟩)
  unfold strV at HF he
  cases he
  clear hl1
  go_wp2_with fail
  go_ret
  exact HF.out

set_option maxRecDepth 100000 in
theorem show_revoke (r : Req) (hr : r.fit) (c0 : Nat) (w : World) (hw : Laid w) (hc0 : w.cell? ⟨c0, 0, none⟩ = some (.func (.func 94) #[] #[])) : Calls Tryz.prog 115 #[reqV r, .pointer (some ⟨c0, 0, none⟩)] w (ShEnd (shFs r [.ten]) w) := by
 obtain ⟨R, hR⟩ : ∃ R, reqA r = R := ⟨_, rfl⟩
 have hl : Later w (w.alloc (.cells R 39)) := (Later.refl w).alloc _
 have hS := ten94 r hr (w.alloc (.cells R 39)) (hw.later hl)
 unfold reqV at hS ⊢
 rw [hR] at hS ⊢
 have hc1 := cell_at hl hc0 (World.block_lt_of_cell? _ _ hc0)
 have hbk : (w.alloc (.cells R 39)).heap[w.heap.size]? = some (.cells R 39 (0, 0)) := (MapKept.heap_alloc w _).1
 have hrg : (w.alloc (.cells R 39)).rangeAt w.heap.size 0 R.toList := fun j u hj => by rw [Lib.cell_of_heap hbk, Nat.zero_add]; simpa using hj
 have HRG := Lib.hid (And.intro hrg hR)
 have HL := Lib.hid hl
 have HS := Lib.hid hS
 obtain ⟨res, hres⟩ : ∃ res, shF .ten r = res := ⟨_, rfl⟩
 rw [hres] at HS
 have e1 : shFs r [.ten] = res.map fun x => [x] := by
  rw [shFs, hres]
  cases res <;> rfl
 rw [e1]
 clear hR hl hS hc0 hbk hrg e1 hres
 obtain ⟨W, hW⟩ : ∃ W, w.alloc (.cells R 39) = W := ⟨_, rfl⟩
 have hcW := hc1
 rw [hW] at HRG HS HL hcW
 have HWW := Lib.hid hW
 clear hW hc1
 cases res with
 | none =>
  show Calls Tryz.prog 115 _ w (ShEnd none w)
  go_enter Tryz.func115, Tryz.ntmps115
  go_upto_region 1 with fail
  rw [HWW.out]
  go_wp2_with (refine wpList_load_mid rfl 39 (.tmp 2) rfl w.heap.size 0 rfl R.toList _ HRG.out.1 Tryz.underlying39 rfl (by rw [← HRG.out.2]; exact reqA_info) ?_)
  refine HS.out.mono ?_
  rintro e w1 ⟨hl1, he⟩
  have HF := Lib.hid (show ShEnd none w wrongE w1 from ⟨HL.out.trans hl1, rfl⟩)
  cases he
  clear hl1
  unfold wrongE
  go_wp2_with fail
  exact ⟨rfl, HF.out⟩
 | some x =>
  show Calls Tryz.prog 115 _ w (ShEnd (some [x]) w)
  go_enter Tryz.func115, Tryz.ntmps115
  go_upto_region 1 with fail
  rw [HWW.out]
  go_wp2_with (refine wpList_load_mid rfl 39 (.tmp 2) rfl w.heap.size 0 rfl R.toList _ HRG.out.1 Tryz.underlying39 rfl (by rw [← HRG.out.2]; exact reqA_info) ?_)
  refine HS.out.mono ?_
  rintro e w1 ⟨hl1, he⟩
  have HF := Lib.hid (show ShEnd (some [x]) w (.returned (.slice (some ⟨w1.heap.size, 0, none⟩) 1 1)) (w1.alloc (.cells #[strV x] 9)) from ⟨(HL.out.trans hl1).alloc _, w1.heap.size, rfl, (MapKept.heap_alloc w1 _).1, (HL.out.trans hl1).size⟩)
  unfold strV at HF he
  cases he
  clear hl1
  go_wp2_with fail
  go_ret
  exact HF.out

end Go.Proofs.YtkbedajbbakihaaGreatDoor
