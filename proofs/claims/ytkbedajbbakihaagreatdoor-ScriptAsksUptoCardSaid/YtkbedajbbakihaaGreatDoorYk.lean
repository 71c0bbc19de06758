/-
 Texts of this proof, put together (Hw, Hr, Lg, Sg, Tq0): each part's first words say what it holds. Conditions: as each part says.
-/
import Derived.Test.YtkbedajbbakihaaGreatDoorQc
import Derived.BigRegion
import Derived.Test.YtkbedajbbakihaaGreatDoorQb1
import Derived.Test.YtkbedajbbakihaaGreatDoorXc
import Derived.Test.YtkbedajbbakihaaGreatDoorYu
import Derived.Test.YtkbedajbbakihaaGreatDoorQg1
/-
 What the reference's Read makes of a text, in plain words. Conditions: none.
-/
namespace Go.Proofs.YtkbedajbbakihaaGreatDoor
open Go.RowKit Go.Sort Go.Lib

/-- the three numbers, the field, the rights -/
structure RS where
 a : Int
 b : Int
 c : Int
 f : Nat
 r : Int
def digR (x : Int) (ch : UInt8) : Int := (x * 10 + ((ch.toNat : Int) - 48)) % 1099511627776
def RS.step (s : RS) (ch : UInt8) : RS :=
 if ch.toNat = 46 then { s with f := min (s.f + 1) 2 }
 else if 48 ≤ ch.toNat ∧ ch.toNat ≤ 57 then
  (if s.f = 0 then { s with a := digR s.a ch } else if s.f = 1 then { s with b := digR s.b ch } else { s with c := digR s.c ch })
 else if ch.toNat = 114 then { s with r := bits .or .i64 s.r 1 }
 else if ch.toNat = 119 then { s with r := bits .or .i64 s.r 2 }
 else if ch.toNat = 115 then { s with r := bits .or .i64 s.r 4 }
 else s
def RS.run (l : List UInt8) : RS := l.foldl RS.step ⟨0, 0, 0, 0, 0⟩
def RS.ok (s : RS) : Prop := ((0 ≤ s.a ∧ s.a < 1099511627776) ∧ (0 ≤ s.b ∧ s.b < 1099511627776) ∧ (0 ≤ s.c ∧ s.c < 1099511627776)) ∧ s.f ≤ 2 ∧ 0 ≤ s.r ∧ s.r ≤ 7

theorem eight (r : Int) (h : 0 ≤ r ∧ r ≤ 7) : r = 0 ∨ r = 1 ∨ r = 2 ∨ r = 3 ∨ r = 4 ∨ r = 5 ∨ r = 6 ∨ r = 7 := by omega
theorem or_le (r q : Int) (h : 0 ≤ r ∧ r ≤ 7) (hq : q = 1 ∨ q = 2 ∨ q = 4) : 0 ≤ bits .or .i64 r q ∧ bits .or .i64 r q ≤ 7 := by
 rcases eight r h with rfl | rfl | rfl | rfl | rfl | rfl | rfl | rfl <;> rcases hq with rfl | rfl | rfl <;> decide
theorem digR_le (x : Int) (ch : UInt8) : 0 ≤ digR x ch ∧ digR x ch < 1099511627776 := by unfold digR; omega
theorem RS.step_ok (s : RS) (ch : UInt8) (h : s.ok) : (s.step ch).ok := by
 obtain ⟨⟨h1, h2, h3⟩, h4, h5, h6⟩ := h
 unfold RS.step
 split
 ·exact ⟨⟨h1, h2, h3⟩, by show min (s.f + 1) 2 ≤ 2; omega, h5, h6⟩
 split
 ·split
  ·exact ⟨⟨digR_le _ _, h2, h3⟩, h4, h5, h6⟩
  split
  ·exact ⟨⟨h1, digR_le _ _, h3⟩, h4, h5, h6⟩
  ·exact ⟨⟨h1, h2, digR_le _ _⟩, h4, h5, h6⟩
 split
 ·exact ⟨⟨h1, h2, h3⟩, h4, or_le _ _ ⟨h5, h6⟩ (by omega)⟩
 split
 ·exact ⟨⟨h1, h2, h3⟩, h4, or_le _ _ ⟨h5, h6⟩ (by omega)⟩
 split
 ·exact ⟨⟨h1, h2, h3⟩, h4, or_le _ _ ⟨h5, h6⟩ (by omega)⟩
 ·exact ⟨⟨h1, h2, h3⟩, h4, h5, h6⟩
theorem RS.fold_ok (l : List UInt8) : ∀ s : RS, s.ok → (l.foldl RS.step s).ok := by
 induction l with
 | nil => exact fun s h => h
 | cons c r ih => exact fun s h => ih _ (s.step_ok c h)
theorem RS.run_ok (l : List UInt8) : (RS.run l).ok := RS.fold_ok l _ ⟨⟨by simp, by simp, by simp⟩, by simp, by simp, by simp⟩
theorem RS.run_snoc (l : List UInt8) (c : UInt8) : RS.run (l ++ [c]) = (RS.run l).step c := by simp [RS.run, List.foldl_append]

theorem ofNat_toNat (n : Nat) (h : n < 10) : (UInt8.ofNat (48 + n)).toNat = 48 + n := by simp; omega
theorem digits_0 (b c : Int) (r : Int) (n : Nat) (hn : n < 1099511627776) : (Lib.decDigits n).foldl RS.step ⟨0, b, c, 0, r⟩ = ⟨n, b, c, 0, r⟩ := by
 induction n using Nat.strongRecOn with
 | ind n ih =>
  rw [Lib.decDigits]
  split
  ·have e := ofNat_toNat n (by omega)
   simp only [List.foldl_cons, List.foldl_nil, RS.step, e]
   rw [if_neg (by omega), if_pos (by omega), if_pos trivial, digR, e]
   congr 1
   omega
  ·have e := ofNat_toNat (n % 10) (by omega)
   rw [List.foldl_append, ih (n / 10) (by omega) (by omega)]
   simp only [List.foldl_cons, List.foldl_nil, RS.step, e]
   rw [if_neg (by omega), if_pos (by omega), if_pos trivial, digR, e]
   congr 1
   omega
theorem digits_1 (a c : Int) (r : Int) (n : Nat) (hn : n < 1099511627776) : (Lib.decDigits n).foldl RS.step ⟨a, 0, c, 1, r⟩ = ⟨a, n, c, 1, r⟩ := by
 induction n using Nat.strongRecOn with
 | ind n ih =>
  rw [Lib.decDigits]
  split
  ·have e := ofNat_toNat n (by omega)
   simp only [List.foldl_cons, List.foldl_nil, RS.step, e]
   rw [if_neg (by omega), if_pos (by omega), if_neg (by simp), if_pos trivial, digR, e]
   congr 1
   omega
  ·have e := ofNat_toNat (n % 10) (by omega)
   rw [List.foldl_append, ih (n / 10) (by omega) (by omega)]
   simp only [List.foldl_cons, List.foldl_nil, RS.step, e]
   rw [if_neg (by omega), if_pos (by omega), if_neg (by simp), if_pos trivial, digR, e]
   congr 1
   omega
theorem letters_2 (a b c : Int) (r : Int) (h : 1 ≤ r ∧ r ≤ 7) : (lettersR r).foldl RS.step ⟨a, b, c, 2, 0⟩ = ⟨a, b, c, 2, r⟩ := by
 rcases seven r h with rfl | rfl | rfl | rfl | rfl | rfl | rfl <;> kernel_rfl
theorem point (s : RS) : s.step 46 = { s with f := min (s.f + 1) 2 } := by simp [RS.step]
/-- a handle's text is read as the handle -/
theorem RS.run_show (t g : Nat) (r : Int) (ho : okH t g r = true) (hg : g ≤ 4294967295) : RS.run (showH t g r) = ⟨t, g, 0, 2, r⟩ := by
 have h := (okH_iff _ _ _).1 ho
 rw [RS.run, showH, List.foldl_append, digits_0 _ _ _ t (by omega), List.foldl_cons, point, List.foldl_append]
 have e : (min ((⟨t, 0, 0, 0, 0⟩ : RS).f + 1) 2) = 1 := rfl
 rw [e]
 rw [digits_1 _ _ _ g (by omega), List.foldl_cons, point]
 have e2 : (min ((⟨t, g, 0, 1, 0⟩ : RS).f + 1) 2) = 2 := rfl
 rw [e2]
 exact letters_2 _ _ _ r h.2.2

/-- the reference's answer, where the second number is too great -/
theorem refEnd_great (l : List UInt8) (h : ¬ (RS.run l).b < 4294967296) : ReadEnd l 0 0 0 7 :=
 .inr ⟨rfl, rfl, rfl, rfl, fun t g r ho hg e => by
  rw [e, RS.run_show t g r ho hg] at h
  simp only at h
  omega⟩
/-- where the handle is not valid -/
theorem refEnd_bad (l : List UInt8) (h : okH (RS.run l).a (RS.run l).b (RS.run l).r = false) : ReadEnd l 0 0 0 7 :=
 .inr ⟨rfl, rfl, rfl, rfl, fun t g r ho hg e => by
  rw [e, RS.run_show t g r ho hg] at h
  simp only at h
  rw [ho] at h; cases h⟩
/-- where its text is another one -/
theorem refEnd_other (l : List UInt8) (h : l ≠ showH (RS.run l).a.toNat (RS.run l).b.toNat (RS.run l).r) : ReadEnd l 0 0 0 7 :=
 .inr ⟨rfl, rfl, rfl, rfl, fun t g r ho hg e => by
  rw [e, RS.run_show t g r ho hg] at h
  exact h rfl⟩
end Go.Proofs.YtkbedajbbakihaaGreatDoor

/-
 The reference's Read, walked. Conditions: the text is short.
-/
namespace Go.Proofs.YtkbedajbbakihaaGreatDoor
open Go.RowKit Go.Sort Go.Lib

/-- what the loop keeps: the result's cells (block R) and the three numbers (block N) -/
def NInv (w V : World) (R N : Nat) (a b c : Int) : Prop :=
 Later w V ∧ (w.heap.size ≤ R ∧ R < N ∧ N < V.heap.size) ∧ (V.cell? ⟨R, 0, none⟩ = some (.int .i64 0) ∧ V.cell? ⟨R, 1, none⟩ = some (.int .u32 0) ∧ V.cell? ⟨R, 2, none⟩ = some (.int .u8 0)) ∧
 (V.frozen? ⟨R, 0, none⟩ = false ∧ V.frozen? ⟨R, 1, none⟩ = false ∧ V.frozen? ⟨R, 2, none⟩ = false) ∧
 (V.cell? ⟨N, 0, none⟩ = some (.int .i64 a) ∧ V.cell? ⟨N, 1, none⟩ = some (.int .i64 b) ∧ V.cell? ⟨N, 2, none⟩ = some (.int .i64 c)) ∧
 (V.frozen? ⟨N, 0, none⟩ = false ∧ V.frozen? ⟨N, 1, none⟩ = false ∧ V.frozen? ⟨N, 2, none⟩ = false)
theorem NInv.later {w V U : World} {R N : Nat} {a b c : Int} (h : NInv w V R N a b c) (hl : Later V U) : NInv w U R N a b c := by
 obtain ⟨h1, ⟨h2, h3, h4⟩, ⟨a0, a1, a2⟩, ⟨f0, f1, f2⟩, ⟨b0, b1, b2⟩, ⟨g0, g1, g2⟩⟩ := h
 have hR : R < V.heap.size := by omega
 exact ⟨h1.trans hl, ⟨h2, h3, Nat.lt_of_lt_of_le h4 hl.size⟩, ⟨cell_at hl a0 hR, cell_at hl a1 hR, cell_at hl a2 hR⟩, ⟨frz_at hl f0 hR, frz_at hl f1 hR, frz_at hl f2 hR⟩,
  ⟨cell_at hl b0 h4, cell_at hl b1 h4, cell_at hl b2 h4⟩, ⟨frz_at hl g0 h4, frz_at hl g1 h4, frz_at hl g2 h4⟩⟩
theorem NInv.store0 {w V : World} {R N : Nat} {a b c : Int} (h : NInv w V R N a b c) (y : Int) : NInv w (V.setCell ⟨N, 0, none⟩ (.int .i64 y)) R N y b c := by
 obtain ⟨h1, ⟨h2, h3, h4⟩, ⟨a0, a1, a2⟩, ⟨f0, f1, f2⟩, ⟨b0, b1, b2⟩, ⟨g0, g1, g2⟩⟩ := h
 refine ⟨h1.setCell _ _ (by show w.heap.size ≤ N; omega), ⟨h2, h3, by simpa using h4⟩, ⟨?_, ?_, ?_⟩, ⟨by simpa using f0, by simpa using f1, by simpa using f2⟩, ⟨World.cell?_setCell_same V _ _ b0, (World.cell?_setCell_other V _ _ _ (by simp)).trans b1, (World.cell?_setCell_other V _ _ _ (by simp)).trans b2⟩, ⟨by simpa using g0, by simpa using g1, by simpa using g2⟩⟩
 ·exact (World.cell?_setCell_other V _ _ _ (by intro h; injection h with h; omega)).trans a0
 ·exact (World.cell?_setCell_other V _ _ _ (by intro h; injection h with h; omega)).trans a1
 ·exact (World.cell?_setCell_other V _ _ _ (by intro h; injection h with h; omega)).trans a2
theorem NInv.store1 {w V : World} {R N : Nat} {a b c : Int} (h : NInv w V R N a b c) (y : Int) : NInv w (V.setCell ⟨N, 1, none⟩ (.int .i64 y)) R N a y c := by
 obtain ⟨h1, ⟨h2, h3, h4⟩, ⟨a0, a1, a2⟩, ⟨f0, f1, f2⟩, ⟨b0, b1, b2⟩, ⟨g0, g1, g2⟩⟩ := h
 refine ⟨h1.setCell _ _ (by show w.heap.size ≤ N; omega), ⟨h2, h3, by simpa using h4⟩, ⟨?_, ?_, ?_⟩, ⟨by simpa using f0, by simpa using f1, by simpa using f2⟩, ⟨(World.cell?_setCell_other V _ _ _ (by simp)).trans b0, World.cell?_setCell_same V _ _ b1, (World.cell?_setCell_other V _ _ _ (by simp)).trans b2⟩, ⟨by simpa using g0, by simpa using g1, by simpa using g2⟩⟩
 ·exact (World.cell?_setCell_other V _ _ _ (by intro h; injection h with h; omega)).trans a0
 ·exact (World.cell?_setCell_other V _ _ _ (by intro h; injection h with h; omega)).trans a1
 ·exact (World.cell?_setCell_other V _ _ _ (by intro h; injection h with h; omega)).trans a2
theorem NInv.store2 {w V : World} {R N : Nat} {a b c : Int} (h : NInv w V R N a b c) (y : Int) : NInv w (V.setCell ⟨N, 2, none⟩ (.int .i64 y)) R N a b y := by
 obtain ⟨h1, ⟨h2, h3, h4⟩, ⟨a0, a1, a2⟩, ⟨f0, f1, f2⟩, ⟨b0, b1, b2⟩, ⟨g0, g1, g2⟩⟩ := h
 refine ⟨h1.setCell _ _ (by show w.heap.size ≤ N; omega), ⟨h2, h3, by simpa using h4⟩, ⟨?_, ?_, ?_⟩, ⟨by simpa using f0, by simpa using f1, by simpa using f2⟩, ⟨(World.cell?_setCell_other V _ _ _ (by simp)).trans b0, (World.cell?_setCell_other V _ _ _ (by simp)).trans b1, World.cell?_setCell_same V _ _ b2⟩, ⟨by simpa using g0, by simpa using g1, by simpa using g2⟩⟩
 ·exact (World.cell?_setCell_other V _ _ _ (by intro h; injection h with h; omega)).trans a0
 ·exact (World.cell?_setCell_other V _ _ _ (by intro h; injection h with h; omega)).trans a1
 ·exact (World.cell?_setCell_other V _ _ _ (by intro h; injection h with h; omega)).trans a2

theorem take_snoc (s : ByteArray) (k : Nat) (h : k < s.size) : s.data.toList.take (k + 1) = s.data.toList.take k ++ [s[k]] := by
 rw [List.take_succ_eq_append_getElem (by simpa using h)]; rfl
def RSIs (l : List UInt8) (a b c : Int) (f : Nat) (r : Int) : Prop := RS.run l = ⟨a, b, c, f, r⟩
theorem RSIs.ok {l : List UInt8} {a b c : Int} {f : Nat} {r : Int} (h : RSIs l a b c f r) : ((0 ≤ a ∧ a < 1099511627776) ∧ (0 ≤ b ∧ b < 1099511627776) ∧ (0 ≤ c ∧ c < 1099511627776)) ∧ f ≤ 2 ∧ 0 ≤ r ∧ r ≤ 7 := by
 have := RS.run_ok l
 unfold RSIs at h
 rw [h] at this
 exact this
theorem RSIs.next {s : ByteArray} {k : Nat} {a b c : Int} {f : Nat} {r : Int} (h : RSIs (s.data.toList.take k) a b c f r) (hlt : k < s.size) {a' b' c' : Int} {f' : Nat} {r' : Int} (hs : RS.step ⟨a, b, c, f, r⟩ s[k] = ⟨a', b', c', f', r'⟩) :
  RSIs (s.data.toList.take (k + 1)) a' b' c' f' r' := by
 unfold RSIs at h ⊢
 rw [take_snoc s k hlt, RS.run_snoc, h, hs]

theorem ReadEnd.unique {l : List UInt8} {x y z k x' y' z' k' : Int} (h : ReadEnd l x y z k) (h' : ReadEnd l x' y' z' k') : x = x' ∧ y = y' ∧ z = z' ∧ k = k' := by
 rcases h' with ⟨t, g, rfl, rfl, ho, hg, hl, rfl⟩ | ⟨rfl, rfl, rfl, rfl, hn⟩
 ·exact h.of_show ho hg hl
 ·exact h.of_not hn

set_option maxRecDepth 100000 in
set_option maxHeartbeats 6400000 in
theorem refRead_is (s : ByteArray) (hl : s.size ≤ 1000000000) (x y z k : Int) (hE : ReadEnd s.data.toList x y z k) (w : World) :
  Calls Tryz.prog 79 #[.string s] w fun e w' => e = .returned (.tuple #[.agg #[.int .i64 x, .int .u32 y, .int .u8 z], .int .i64 k]) ∧ Later w w' := by
 have HE := Lib.hid hE
 clear hE
 go_enter Tryz.func79, Tryz.ntmps79
 go_wp2_with fail
 obtain ⟨W0, hW0⟩ : ∃ W0, (w.alloc (Obj.cells #[Value.int IntKind.i64 0, Value.int IntKind.u32 0, Value.int IntKind.u8 0] 34)).alloc (Obj.cells #[Value.int IntKind.i64 0, Value.int IntKind.i64 0, Value.int IntKind.i64 0] 3) = W0 := ⟨_, rfl⟩
 obtain ⟨N, hN⟩ : ∃ N, w.heap.size + 1 = N := ⟨_, rfl⟩
 obtain ⟨R, hR⟩ : ∃ R, w.heap.size = R := ⟨_, rfl⟩
 have hI0 : NInv w W0 R N 0 0 0 := by
  have hl0 : Later w W0 := by rw [← hW0]; exact ((Later.refl w).alloc _).alloc _
  subst hN hR
  refine ⟨hl0, ⟨Nat.le_refl _, by omega, by rw [← hW0]; simp⟩, ⟨?_, ?_, ?_⟩, ⟨?_, ?_, ?_⟩, ⟨?_, ?_, ?_⟩, ⟨?_, ?_, ?_⟩⟩ <;> rw [← hW0] <;> simp
 have hN2 : R < N := by omega
 rw [hW0, hN, hR]
 clear hW0 hN hR
 go_loopw [5, 6, 7] (fun v5 v6 v7 wr => ∃ (j : Nat) (a b c : Int) (f : Nat) (r : Int), j ≤ s.size ∧ RSIs (s.data.toList.take j) a b c f r ∧ v5 = .int .i64 f ∧ v6 = .int .i64 r ∧ v7 = .int .i64 j ∧ NInv w wr R N a b c) (fun _ _ v7 _ => s.size - (RowKit.intOf v7).toNat)
 case atStart => exact ⟨0, 0, 0, 0, 0, 0, by omega, rfl, rfl, rfl, rfl, hI0⟩
 case round =>
  obtain ⟨j, a, b, c, f, r, hj, hS, rfl, rfl, rfl, hI⟩ := hrel
  rename World => wk
  clear hI0
  have hok := hS.ok
  obtain ⟨⟨⟨ha0, ha1⟩, ⟨hb0, hb1⟩, hc0, hc1⟩, hf2, hr0, hr7⟩ := hok
  by_cases hlt : j < s.size
  ·have hn0 : (0 : Int) ≤ (s[j].toNat : Int) := by omega
   have hn1 : (s[j].toNat : Int) ≤ 255 := by have := s[j].toNat_lt; omega
   have HS := Lib.hid hS
   have HI := Lib.hid hI
   clear hS hI
   have hcases : s[j].toNat = 46 ∨ (48 ≤ s[j].toNat ∧ s[j].toNat ≤ 57) ∨ s[j].toNat = 114 ∨ s[j].toNat = 119 ∨ s[j].toNat = 115 ∨ (¬ s[j].toNat = 46 ∧ ¬ (48 ≤ s[j].toNat ∧ s[j].toNat ≤ 57) ∧ ¬ s[j].toNat = 114 ∧ ¬ s[j].toNat = 119 ∧ ¬ s[j].toNat = 115) := by omega
   rcases hcases with hc | hc | hc | hc | hc | hc
   ·have HSTEP := Lib.hid (show RS.step ⟨a, b, c, f, r⟩ s[j] = ⟨a, b, c, min (f + 1) 2, r⟩ by simp [RS.step, hc])
    go_wp2_with fail
    go_roundw
    case rel => exact ⟨j + 1, a, b, c, min (f + 1) 2, r, by omega, HS.out.next hlt HSTEP.out, by first | rfl | go_num | (congr 1; omega), rfl, by go_num, HI.out⟩
    case measure => simp [RowKit.intOf]; omega
   ·have t1 : ((s[j].toNat : Int) == 46) = false := by simp; omega
    obtain ⟨n, hn⟩ : ∃ n : Int, (s[j].toNat : Int) = n := ⟨_, rfl⟩
    have n1 : 48 ≤ n := by omega
    have n2 : n ≤ 57 := by omega
    have hf : f = 0 ∨ f = 1 ∨ f = 2 := by omega
    rcases hf with rfl | rfl | rfl
    ·have HSTEP := Lib.hid (show RS.step ⟨a, b, c, 0, r⟩ s[j] = ⟨(a * 10 + (n - 48)) % 1099511627776, b, c, 0, r⟩ by simp [RS.step, digR, hn, hc]; omega)
     obtain ⟨⟨h1, h2, h3⟩, h4, ⟨f0, f1, f2⟩, ⟨b0, b1, b2⟩, ⟨g0, g1, g2⟩⟩ := HI.out
     go_wp2_with fail
     go_region
     go_wp2_with fail
     go_roundw
     case rel => exact ⟨j + 1, _, b, c, 0, r, by omega, HS.out.next hlt HSTEP.out, rfl, rfl, by go_num, (HI.out.store0 _).later (Later.refl _).drew⟩
     case measure => simp [RowKit.intOf]; omega
    ·have HSTEP := Lib.hid (show RS.step ⟨a, b, c, 1, r⟩ s[j] = ⟨a, (b * 10 + (n - 48)) % 1099511627776, c, 1, r⟩ by simp [RS.step, digR, hn, hc]; omega)
     obtain ⟨⟨h1, h2, h3⟩, h4, ⟨f0, f1, f2⟩, ⟨b0, b1, b2⟩, ⟨g0, g1, g2⟩⟩ := HI.out
     go_wp2_with fail
     go_region
     go_wp2_with fail
     go_roundw
     case rel => exact ⟨j + 1, a, _, c, 1, r, by omega, HS.out.next hlt HSTEP.out, rfl, rfl, by go_num, (HI.out.store1 _).later (Later.refl _).drew⟩
     case measure => simp [RowKit.intOf]; omega
    ·have HSTEP := Lib.hid (show RS.step ⟨a, b, c, 2, r⟩ s[j] = ⟨a, b, (c * 10 + (n - 48)) % 1099511627776, 2, r⟩ by simp [RS.step, digR, hn, hc]; omega)
     obtain ⟨⟨h1, h2, h3⟩, h4, ⟨f0, f1, f2⟩, ⟨b0, b1, b2⟩, ⟨g0, g1, g2⟩⟩ := HI.out
     go_wp2_with fail
     go_region
     go_wp2_with fail
     go_roundw
     case rel => exact ⟨j + 1, a, b, _, 2, r, by omega, HS.out.next hlt HSTEP.out, rfl, rfl, by go_num, (HI.out.store2 _).later (Later.refl _).drew⟩
     case measure => simp [RowKit.intOf]; omega
   ·have HSTEP := Lib.hid (show RS.step ⟨a, b, c, f, r⟩ s[j] = ⟨a, b, c, f, bits .or .i64 r 1⟩ by simp [RS.step, hc])
    go_wp2_with fail
    go_roundw
    case rel => exact ⟨j + 1, a, b, c, f, _, by omega, HS.out.next hlt HSTEP.out, rfl, rfl, by go_num, HI.out⟩
    case measure => simp [RowKit.intOf]; omega
   ·have HSTEP := Lib.hid (show RS.step ⟨a, b, c, f, r⟩ s[j] = ⟨a, b, c, f, bits .or .i64 r 2⟩ by simp [RS.step, hc])
    go_wp2_with fail
    go_roundw
    case rel => exact ⟨j + 1, a, b, c, f, _, by omega, HS.out.next hlt HSTEP.out, rfl, rfl, by go_num, HI.out⟩
    case measure => simp [RowKit.intOf]; omega
   ·have HSTEP := Lib.hid (show RS.step ⟨a, b, c, f, r⟩ s[j] = ⟨a, b, c, f, bits .or .i64 r 4⟩ by simp [RS.step, hc])
    go_wp2_with fail
    go_roundw
    case rel => exact ⟨j + 1, a, b, c, f, _, by omega, HS.out.next hlt HSTEP.out, rfl, rfl, by go_num, HI.out⟩
    case measure => simp [RowKit.intOf]; omega
   ·obtain ⟨c1, c2, c3, c4, c5⟩ := hc
    have HSTEP := Lib.hid (show RS.step ⟨a, b, c, f, r⟩ s[j] = ⟨a, b, c, f, r⟩ by simp [RS.step, c1, c2, c3, c4, c5])
    have t1 : ((s[j].toNat : Int) == 46) = false := by simp; omega
    have t2 : ((s[j].toNat : Int) == 114) = false := by simp; omega
    have t3 : ((s[j].toNat : Int) == 119) = false := by simp; omega
    have t4 : ((s[j].toNat : Int) == 115) = false := by simp; omega
    have c2' : (s[j].toNat : Int) < 48 ∨ 57 < (s[j].toNat : Int) := by omega
    clear c1 c2 c3 c4 c5
    rcases c2' with c2' | c2'
    all_goals
     go_wp2_with fail
     go_roundw
     case rel => exact ⟨j + 1, a, b, c, f, r, by omega, HS.out.next hlt HSTEP.out, rfl, rfl, by go_num, HI.out⟩
     case measure => simp [RowKit.intOf]; omega
  ·obtain rfl : j = s.size := by omega
   have hS' : RSIs s.data.toList a b c f r := by
    have e : s.data.toList.take s.size = s.data.toList := List.take_of_length_le (by simp)
    rw [e] at hS
    exact hS
   have HS := Lib.hid hS'
   clear hS hS' hlt hj
   obtain ⟨h1, ⟨h2, h3, h4⟩, ⟨a0, a1, a2⟩, ⟨f0, f1, f2⟩, ⟨b0, b1, b2⟩, ⟨g0, g1, g2⟩⟩ := hI
   by_cases hb : 4294967296 ≤ b
   ·have hx := HE.out.unique (refEnd_great s.data.toList (by have h9 := HS.out; unfold RSIs at h9; rw [h9]; simp only; omega))
    obtain ⟨rfl, rfl, rfl, rfl⟩ := hx
    clear HE
    go_wp2_with fail
    refine bodyPost_ret (v := .tuple #[.agg #[.int .i64 0, .int .u32 0, .int .u8 0], .int .i64 7]) (by simp [results, Tryz.results79, go_sem, a0, a1, a2]) rfl ⟨rfl, ?_⟩
    exact ((h1.setCell _ _ h2).setCell _ _ h2).setCell _ _ h2
   ·have hbu : IntKind.u32.wrap b = b := IntWalk.u32_in _ (by omega)
    have hru : IntKind.u8.wrap r = r := IntWalk.u8_in _ (by omega)
    go_wp2_with fail
    go_region
    obtain ⟨V, hV⟩ : ∃ V, (wk.alloc (Obj.cells #[Value.int IntKind.i64 a, Value.int IntKind.u32 b, Value.int IntKind.u8 r] 34)).drew = V := ⟨_, rfl⟩
    obtain ⟨Hb, hHb⟩ : ∃ Hb, wk.heap.size = Hb := ⟨_, rfl⟩
    have hbV : Later wk V := by rw [← hV]; exact ((Later.refl wk).alloc _).drew
    have d0 : V.cell? ⟨Hb, 0, none⟩ = some (.int .i64 a) := by rw [← hV, ← hHb]; simp
    have d1 : V.cell? ⟨Hb, 1, none⟩ = some (.int .u32 b) := by rw [← hV, ← hHb]; simp
    have d2 : V.cell? ⟨Hb, 2, none⟩ = some (.int .u8 r) := by rw [← hV, ← hHb]; simp
    have hsV : Hb < V.heap.size := by rw [← hV, ← hHb]; simp
    have hRk : R < wk.heap.size := by omega
    have hRV : R < V.heap.size := Nat.lt_of_lt_of_le hRk hbV.size
    have a0 := cell_at hbV a0 hRk
    have f0 := frz_at hbV f0 hRk
    have a1 := cell_at hbV a1 hRk
    have f1 := frz_at hbV f1 hRk
    have a2 := cell_at hbV a2 hRk
    have f2 := frz_at hbV f2 hRk
    have hl1 := h1.trans hbV
    rw [hV, hHb]
    clear hV hHb hbV b0 b1 b2 g0 g1 g2 h1 h3 h4 hRk hbu hru
    cases ho : okH a b r
    ·have hx := HE.out.unique (refEnd_bad s.data.toList (by have h9 := HS.out; unfold RSIs at h9; rw [h9]; exact ho))
     obtain ⟨rfl, rfl, rfl, rfl⟩ := hx
     have HO := Lib.hid ho
     clear HE ho
     go_wp2_with fail
     refine (refShow_no a b r _ hr0 (by omega) HO.out).mono ?_
     rintro e w5 ⟨rfl, hb5⟩
     have a0 := cell_at hb5 a0 hRV
     have f0 := frz_at hb5 f0 hRV
     have a1 := cell_at hb5 a1 hRV
     have f1 := frz_at hb5 f1 hRV
     have a2 := cell_at hb5 a2 hRV
     have f2 := frz_at hb5 f2 hRV
     have h9 := hl1.trans hb5
     clear hb5 d0 d1 d2
     go_wp2_with fail
     refine bodyPost_ret (v := .tuple #[.agg #[.int .i64 0, .int .u32 0, .int .u8 0], .int .i64 7]) (by simp [results, Tryz.results79, go_sem, a0, a1, a2]) rfl ⟨rfl, ?_⟩
     exact ((h9.setCell _ _ h2).setCell _ _ h2).setCell _ _ h2
    ·have hsh : ∃ T : ByteArray, T = ⟨(showH a.toNat b.toNat r).toArray⟩ ∧ ∀ W, Calls Tryz.prog 117 #[.agg #[.int .i64 a, .int .u32 b, .int .u8 r]] W fun e w' => e = .returned (.tuple #[.string T, .int .i64 0]) ∧ Later W w' := by
      obtain ⟨an, rfl⟩ : ∃ n : Nat, a = n := ⟨a.toNat, by omega⟩
      obtain ⟨bn, rfl⟩ : ∃ n : Nat, b = n := ⟨b.toNat, by omega⟩
      exact ⟨_, rfl, fun W => refShow_yes an bn r W ho (by omega)⟩
     obtain ⟨T, hT, hsh⟩ := hsh
     by_cases hq : s.data.toList = showH a.toNat b.toNat r
     ·have hx := HE.out.unique (.inl ⟨a.toNat, b.toNat, (Int.toNat_of_nonneg ha0).symm, (Int.toNat_of_nonneg hb0).symm, by rw [Int.toNat_of_nonneg ha0, Int.toNat_of_nonneg hb0]; exact ho, by omega, hq, rfl⟩)
      obtain ⟨rfl, rfl, rfl, rfl⟩ := hx
      obtain rfl : T = s := by
       rw [hT, ← hq]
      have HSH := Lib.hid hsh
      clear hsh hT hq ho HE
      go_wp2_with fail
      refine (HSH.out _).mono ?_
      rintro e w5 ⟨rfl, hb5⟩
      have a0 := cell_at hb5 a0 hRV
      have f0 := frz_at hb5 f0 hRV
      have a1 := cell_at hb5 a1 hRV
      have f1 := frz_at hb5 f1 hRV
      have a2 := cell_at hb5 a2 hRV
      have f2 := frz_at hb5 f2 hRV
      have d0 := cell_at hb5 d0 hsV
      have d1 := cell_at hb5 d1 hsV
      have d2 := cell_at hb5 d2 hsV
      have h9 := hl1.trans hb5
      clear hb5
      go_wp2_with fail
      refine bodyPost_ret (v := .tuple #[.agg #[.int .i64 x, .int .u32 y, .int .u8 z], .int .i64 0]) (by simp [results, Tryz.results79, go_sem, a0, a1, a2]) rfl ⟨rfl, ?_⟩
      exact ((h9.setCell _ _ h2).setCell _ _ h2).setCell _ _ h2
     ·have hx := HE.out.unique (refEnd_other s.data.toList (by have h9 := HS.out; unfold RSIs at h9; rw [h9]; exact hq))
      obtain ⟨rfl, rfl, rfl, rfl⟩ := hx
      have c4 : (T.toList == s.toList) = false := by
       rw [beq_eq_false_iff_ne, ByteArray.toList_eq, ByteArray.toList_eq, hT]
       simpa using fun h => hq h.symm
      have c5 : (T.toList != s.toList) = true := by rw [bne, c4]; rfl
      have HSH := Lib.hid hsh
      clear hsh hT hq ho HE
      go_wp2_with fail
      refine (HSH.out _).mono ?_
      rintro e w5 ⟨rfl, hb5⟩
      have a0 := cell_at hb5 a0 hRV
      have f0 := frz_at hb5 f0 hRV
      have a1 := cell_at hb5 a1 hRV
      have f1 := frz_at hb5 f1 hRV
      have a2 := cell_at hb5 a2 hRV
      have f2 := frz_at hb5 f2 hRV
      have h9 := hl1.trans hb5
      clear hb5 d0 d1 d2
      go_wp2_with fail
      refine bodyPost_ret (v := .tuple #[.agg #[.int .i64 0, .int .u32 0, .int .u8 0], .int .i64 7]) (by simp [results, Tryz.results79, go_sem, a0, a1, a2]) rfl ⟨rfl, ?_⟩
      exact ((h9.setCell _ _ h2).setCell _ _ h2).setCell _ _ h2
end Go.Proofs.YtkbedajbbakihaaGreatDoor

/-
 The reference's large and number, walked. Conditions: the text has at most 10^9 bytes.
-/
namespace Go.Proofs.YtkbedajbbakihaaGreatDoor
open Go.RowKit Go.Sort Go.Lib
set_option linter.unusedSimpArgs false
set_option linter.unusedVariables false

def LrE (r : Option Nat) (e : Ending) : Prop := match r with
 | some n => e = .returned (.tuple #[.int .u64 (n : Int), .bool true])
 | none => e = .returned (.tuple #[.int .u64 0, .bool false])
theorem lrgA_step (n : Nat) (c : UInt8) (r : List UInt8) : lrgA n (c :: r) = if 48 ≤ c.toNat ∧ c.toNat ≤ 57 then if (18446744073709551615 - (c.toNat - 48)) / 10 < n then none else lrgA (10 * n + (c.toNat - 48)) r else none := by rw [lrgA]
set_option maxRecDepth 100000 in
set_option maxHeartbeats 4000000 in
theorem large_loop (s : ByteArray) (hs : s.size ≤ 1000000000) (h0 : s.size ≠ 0) (hz : ¬ (1 < s.size ∧ s.data.toList.head? = some 48)) (w : World) :
  Calls Tryz.prog 78 #[.string s] w fun e w' => LrE (lrgA 0 s.data.toList) e ∧ Later w w' := by
 obtain ⟨res, hres⟩ : ∃ res, lrgA 0 s.data.toList = res := ⟨_, rfl⟩
 rw [hres]
 have HRES := Lib.hid hres
 have hemp2 : s.toList.isEmpty = false := by
  rw [← decide_eq_emptyBytes]
  exact decide_eq_false (fun h => h0 (by rw [h]; rfl))
 have hemp3 : s ≠ ⟨#[]⟩ := fun h => h0 (by rw [h]; rfl)
 have hpos : 0 < s.size := by omega
 have hhd : s.data.toList.head? = some s[0] := by
  have h1 : 0 < s.data.toList.length := by rw [← Lib.size_eq]; exact hpos
  rw [List.head?_eq_getElem?, List.getElem?_eq_getElem h1, Array.getElem_toList]
  rfl
 rw [hhd] at hz
 have HHD := Lib.hid hz
 have HW := Lib.hid (Later.refl w)
 clear hres hhd hz
 have main : ∀ b1 : Bool, decide ((1 : Int) < (s.size : Int)) = b1 → (b1 = true → ((s[0].toNat : Int) == 48) = false) → Calls Tryz.prog 78 #[.string s] w fun e w' => LrE res e ∧ Later w w' := by
  intro b1 hb1 hb2
  have hloop : True := trivial
  cases b1 with
  | false =>
   clear hb2
   go_enter Tryz.func78, Tryz.ntmps78
   go_wp2_with fail
   go_loop [4, 5] (fun v i => ∃ k n : Nat, k ≤ s.size ∧ i = .int .i64 k ∧ v = .int .u64 (n : Int) ∧ n ≤ 18446744073709551615 ∧ lrgA n (s.data.toList.drop k) = res) (fun _ i => s.size - (RowKit.intOf i).toNat)
   case atStart => exact ⟨0, 0, Nat.zero_le _, rfl, rfl, by omega, HRES.out⟩
   case round =>
    obtain ⟨k, n, hk, rfl, rfl, hn, hr⟩ := hrel
    by_cases hlt : k < s.size
    ·have hdr : s.data.toList.drop k = s[k] :: s.data.toList.drop (k + 1) := by
      have hlt' : k < s.data.toList.length := by rw [← Lib.size_eq]; exact hlt
      rw [List.drop_eq_getElem_cons hlt', Array.getElem_toList]
      rfl
     rw [hdr, lrgA_step] at hr
     have hc9 := s[k].toNat_lt
     have d0 : decide ((k : Int) < (s.size : Int)) = true := decide_eq_true (by omega)
     by_cases h48 : 48 ≤ s[k].toNat
     ·by_cases h57 : s[k].toNat ≤ 57
      ·rw [if_pos ⟨h48, h57⟩] at hr
       have t1 : decide ((s[k].toNat : Int) < 48) = false := decide_eq_false (by omega)
       have t2 : decide ((57 : Int) < (s[k].toNat : Int)) = false := decide_eq_false (by omega)
       obtain ⟨d, hd⟩ : ∃ d : Nat, s[k].toNat - 48 = d := ⟨_, rfl⟩
       rw [hd] at hr
       have a1 : IntKind.u8.wrap ((s[k].toNat : Int) - 48) = (d : Int) := by
        rw [show (s[k].toNat : Int) - 48 = (d : Int) by omega]
        exact IntWalk.u8_in _ (by omega)
       have a2 : IntKind.u64.wrap (d : Int) = (d : Int) := IntWalk.u64_in _ (by omega)
       obtain ⟨q, hq⟩ : ∃ q : Nat, 18446744073709551615 - d = q := ⟨_, rfl⟩
       have a3 : IntKind.u64.wrap (18446744073709551615 - (d : Int)) = (q : Int) := by
        rw [show (18446744073709551615 : Int) - (d : Int) = (q : Int) by omega]
        exact IntWalk.u64_in _ (by omega)
       obtain ⟨q2, hq2⟩ : ∃ q2 : Nat, q / 10 = q2 := ⟨_, rfl⟩
       rw [hq, hq2] at hr
       have a4 : (q : Int).tdiv 10 = (q2 : Int) := by rw [Int.tdiv_eq_ediv_of_nonneg (by omega)]; omega
       have a4' : (q : Int) / 10 = (q2 : Int) := by omega
       have a5 : IntKind.u64.wrap (q2 : Int) = (q2 : Int) := IntWalk.u64_in _ (by omega)
       by_cases hov : q2 < n
       ·rw [if_pos hov] at hr
        have t3 : decide ((q2 : Int) < (n : Int)) = true := decide_eq_true (by omega)
        have HR := Lib.hid hr
        have HC := Lib.hid (And.intro hc9 hdr)
        clear hr hd hq hq2 hdr
        go_wp2_with fail
        go_ret2
        exact ⟨by rw [← HR.out]; rfl, HW.out⟩
       ·rw [if_neg hov] at hr
        have t3 : decide ((q2 : Int) < (n : Int)) = false := decide_eq_false (by omega)
        obtain ⟨m, hm⟩ : ∃ m : Nat, 10 * n = m := ⟨_, rfl⟩
        obtain ⟨m2, hm2⟩ : ∃ m2 : Nat, m + d = m2 := ⟨_, rfl⟩
        rw [hm, hm2] at hr
        have a6 : IntKind.u64.wrap (10 * (n : Int)) = (m : Int) := by
         rw [show 10 * (n : Int) = (m : Int) by omega]
         exact IntWalk.u64_in _ (by omega)
        have a7 : IntKind.u64.wrap ((m : Int) + (d : Int)) = (m2 : Int) := by
         rw [show (m : Int) + (d : Int) = (m2 : Int) by omega]
         exact IntWalk.u64_in _ (by omega)
        have HR := Lib.hid (And.intro hr (show m2 ≤ 18446744073709551615 by omega))
        have t3n : decide (q2 < n) = false := decide_eq_false hov
        clear hr hd hq hq2 hdr hm hm2
        go_wp2_with fail
        go_round
        case rel => exact ⟨k + 1, m2, by omega, by go_num, rfl, HR.out.2, HR.out.1⟩
        case measure => simp [RowKit.intOf]; omega
      ·rw [if_neg (fun h => h57 h.2)] at hr
       have t1 : decide ((s[k].toNat : Int) < 48) = false := decide_eq_false (by omega)
       have t2 : decide ((57 : Int) < (s[k].toNat : Int)) = true := decide_eq_true (by omega)
       have HR := Lib.hid hr
       clear hr hdr
       go_wp2_with fail
       go_ret2
       exact ⟨by rw [← HR.out]; rfl, HW.out⟩
     ·rw [if_neg (fun h => h48 h.1)] at hr
      have t1 : decide ((s[k].toNat : Int) < 48) = true := decide_eq_true (by omega)
      have HR := Lib.hid hr
      clear hr hdr
      go_wp2_with fail
      go_ret2
      exact ⟨by rw [← HR.out]; rfl, HW.out⟩
    ·have HR := Lib.hid (show res = some n by
      rw [List.drop_of_length_le (by rw [← Lib.size_eq]; omega)] at hr
      rw [← hr]
      rfl)
     have d0 : decide ((k : Int) < (s.size : Int)) = false := decide_eq_false (by omega)
     clear hr
     go_wp2_with fail
     go_ret2
     exact ⟨by rw [HR.out]; rfl, HW.out⟩
  | true =>
   have hb3 := hb2 rfl
   clear hb2
   go_enter Tryz.func78, Tryz.ntmps78
   go_wp2_with fail
   go_loop [4, 5] (fun v i => ∃ k n : Nat, k ≤ s.size ∧ i = .int .i64 k ∧ v = .int .u64 (n : Int) ∧ n ≤ 18446744073709551615 ∧ lrgA n (s.data.toList.drop k) = res) (fun _ i => s.size - (RowKit.intOf i).toNat)
   case atStart => exact ⟨0, 0, Nat.zero_le _, rfl, rfl, by omega, HRES.out⟩
   case round =>
    obtain ⟨k, n, hk, rfl, rfl, hn, hr⟩ := hrel
    by_cases hlt : k < s.size
    ·have hdr : s.data.toList.drop k = s[k] :: s.data.toList.drop (k + 1) := by
      have hlt' : k < s.data.toList.length := by rw [← Lib.size_eq]; exact hlt
      rw [List.drop_eq_getElem_cons hlt', Array.getElem_toList]
      rfl
     rw [hdr, lrgA_step] at hr
     have hc9 := s[k].toNat_lt
     have d0 : decide ((k : Int) < (s.size : Int)) = true := decide_eq_true (by omega)
     by_cases h48 : 48 ≤ s[k].toNat
     ·by_cases h57 : s[k].toNat ≤ 57
      ·rw [if_pos ⟨h48, h57⟩] at hr
       have t1 : decide ((s[k].toNat : Int) < 48) = false := decide_eq_false (by omega)
       have t2 : decide ((57 : Int) < (s[k].toNat : Int)) = false := decide_eq_false (by omega)
       obtain ⟨d, hd⟩ : ∃ d : Nat, s[k].toNat - 48 = d := ⟨_, rfl⟩
       rw [hd] at hr
       have a1 : IntKind.u8.wrap ((s[k].toNat : Int) - 48) = (d : Int) := by
        rw [show (s[k].toNat : Int) - 48 = (d : Int) by omega]
        exact IntWalk.u8_in _ (by omega)
       have a2 : IntKind.u64.wrap (d : Int) = (d : Int) := IntWalk.u64_in _ (by omega)
       obtain ⟨q, hq⟩ : ∃ q : Nat, 18446744073709551615 - d = q := ⟨_, rfl⟩
       have a3 : IntKind.u64.wrap (18446744073709551615 - (d : Int)) = (q : Int) := by
        rw [show (18446744073709551615 : Int) - (d : Int) = (q : Int) by omega]
        exact IntWalk.u64_in _ (by omega)
       obtain ⟨q2, hq2⟩ : ∃ q2 : Nat, q / 10 = q2 := ⟨_, rfl⟩
       rw [hq, hq2] at hr
       have a4 : (q : Int).tdiv 10 = (q2 : Int) := by rw [Int.tdiv_eq_ediv_of_nonneg (by omega)]; omega
       have a4' : (q : Int) / 10 = (q2 : Int) := by omega
       have a5 : IntKind.u64.wrap (q2 : Int) = (q2 : Int) := IntWalk.u64_in _ (by omega)
       by_cases hov : q2 < n
       ·rw [if_pos hov] at hr
        have t3 : decide ((q2 : Int) < (n : Int)) = true := decide_eq_true (by omega)
        have HR := Lib.hid hr
        have HC := Lib.hid (And.intro hc9 hdr)
        clear hr hd hq hq2 hdr
        go_wp2_with fail
        go_ret2
        exact ⟨by rw [← HR.out]; rfl, HW.out⟩
       ·rw [if_neg hov] at hr
        have t3 : decide ((q2 : Int) < (n : Int)) = false := decide_eq_false (by omega)
        obtain ⟨m, hm⟩ : ∃ m : Nat, 10 * n = m := ⟨_, rfl⟩
        obtain ⟨m2, hm2⟩ : ∃ m2 : Nat, m + d = m2 := ⟨_, rfl⟩
        rw [hm, hm2] at hr
        have a6 : IntKind.u64.wrap (10 * (n : Int)) = (m : Int) := by
         rw [show 10 * (n : Int) = (m : Int) by omega]
         exact IntWalk.u64_in _ (by omega)
        have a7 : IntKind.u64.wrap ((m : Int) + (d : Int)) = (m2 : Int) := by
         rw [show (m : Int) + (d : Int) = (m2 : Int) by omega]
         exact IntWalk.u64_in _ (by omega)
        have HR := Lib.hid (And.intro hr (show m2 ≤ 18446744073709551615 by omega))
        have t3n : decide (q2 < n) = false := decide_eq_false hov
        clear hr hd hq hq2 hdr hm hm2
        go_wp2_with fail
        go_round
        case rel => exact ⟨k + 1, m2, by omega, by go_num, rfl, HR.out.2, HR.out.1⟩
        case measure => simp [RowKit.intOf]; omega
      ·rw [if_neg (fun h => h57 h.2)] at hr
       have t1 : decide ((s[k].toNat : Int) < 48) = false := decide_eq_false (by omega)
       have t2 : decide ((57 : Int) < (s[k].toNat : Int)) = true := decide_eq_true (by omega)
       have HR := Lib.hid hr
       clear hr hdr
       go_wp2_with fail
       go_ret2
       exact ⟨by rw [← HR.out]; rfl, HW.out⟩
     ·rw [if_neg (fun h => h48 h.1)] at hr
      have t1 : decide ((s[k].toNat : Int) < 48) = true := decide_eq_true (by omega)
      have HR := Lib.hid hr
      clear hr hdr
      go_wp2_with fail
      go_ret2
      exact ⟨by rw [← HR.out]; rfl, HW.out⟩
    ·have HR := Lib.hid (show res = some n by
      rw [List.drop_of_length_le (by rw [← Lib.size_eq]; omega)] at hr
      rw [← hr]
      rfl)
     have d0 : decide ((k : Int) < (s.size : Int)) = false := decide_eq_false (by omega)
     clear hr
     go_wp2_with fail
     go_ret2
     exact ⟨by rw [HR.out]; rfl, HW.out⟩
 refine main _ rfl ?_
 intro hb
 have h1 : (1 : Int) < (s.size : Int) := of_decide_eq_true hb
 have h2 : s[0] ≠ 48 := fun h => HHD.out ⟨by omega, by rw [h]⟩
 have h3 : s[0].toNat ≠ 48 := fun h => h2 (UInt8.toNat_inj.1 h)
 simp only [beq_eq_false_iff_ne, ne_eq]
 omega
theorem refLarge_is (s : ByteArray) (hs : s.size ≤ 1000000000) (w : World) : Calls Tryz.prog 78 #[.string s] w fun e w' => LrE (lrg s.data.toList) e ∧ Later w w' := by
 by_cases h0 : s.size = 0
 ·have ht : s = ⟨#[]⟩ := by
   apply ByteArray.ext
   exact Array.eq_empty_of_size_eq_zero h0
  subst ht
  clear hs h0
  go_enter Tryz.func78, Tryz.ntmps78
  go_wp2_with fail
  go_ret2
  exact ⟨rfl, Later.refl w⟩
 ·by_cases hz : 1 < s.size ∧ s.data.toList.head? = some 48
  ·have hr : lrg s.data.toList = none := by
    obtain ⟨h1, h2⟩ := hz
    rw [Lib.size_eq] at h1
    cases hl : s.data.toList with
    | nil => rw [hl] at h2; cases h2
    | cons c r =>
     rw [hl] at h1 h2
     cases h2
     show (if r ≠ [] ∧ (48 : UInt8) = 48 then none else lrgA 0 (48 :: r)) = none
     rw [if_pos ⟨fun h => by rw [h] at h1; simp at h1, rfl⟩]
   rw [hr]
   have hemp2 : s.toList.isEmpty = false := by
    rw [← decide_eq_emptyBytes]
    exact decide_eq_false (fun h => h0 (by rw [h]; rfl))
   have hemp3 : s ≠ ⟨#[]⟩ := fun h => h0 (by rw [h]; rfl)
   have hpos : 0 < s.size := by omega
   have hhd : s.data.toList.head? = some s[0] := by
    have h1 : 0 < s.data.toList.length := by rw [← Lib.size_eq]; exact hpos
    rw [List.head?_eq_getElem?, List.getElem?_eq_getElem h1, Array.getElem_toList]
    rfl
   have h48 : ((s[0].toNat : Int) == 48) = true := by
    rw [hhd] at hz
    have : s[0] = 48 := by have := hz.2; injection this
    rw [this]
    rfl
   have d1 : decide ((1 : Int) < (s.size : Int)) = true := decide_eq_true (by omega)
   clear hz hhd hr
   go_enter Tryz.func78, Tryz.ntmps78
   go_wp2_with fail
   go_ret2
   exact ⟨rfl, Later.refl w⟩
  ·have hr : lrg s.data.toList = lrgA 0 s.data.toList := by
    cases hl : s.data.toList with
    | nil => rw [Lib.size_eq, hl] at h0; exact absurd rfl h0
    | cons c r =>
     show (if r ≠ [] ∧ c = 48 then none else lrgA 0 (c :: r)) = lrgA 0 (c :: r)
     rw [if_neg]
     rintro ⟨h1, h2⟩
     apply hz
     rw [Lib.size_eq, hl, h2]
     refine ⟨?_, rfl⟩
     cases r with
     | nil => exact absurd rfl h1
     | cons a b => simp
   rw [hr]
   exact large_loop s hs h0 hz w
end Go.Proofs.YtkbedajbbakihaaGreatDoor

/-
 The reference's number and split, walked. Conditions: the text has at most 10^9 bytes.
-/
namespace Go.Proofs.YtkbedajbbakihaaGreatDoor
open Go.RowKit Go.Sort Go.Lib
set_option linter.unusedSimpArgs false
set_option linter.unusedVariables false

def numD (l : List UInt8) : Int := (num l).getD (-1)
theorem refNum_is (s : ByteArray) (hs : s.size ≤ 1000000000) (w : World) : Calls Tryz.prog 50 #[.string s] w fun e w' => e = .returned (.int .i64 (numD s.data.toList)) ∧ Later w w' := by
 have hL := refLarge_is s hs
 obtain ⟨x, hx⟩ : ∃ x, numD s.data.toList = x := ⟨_, rfl⟩
 rw [hx]
 unfold numD num at hx
 cases hr : lrg s.data.toList with
 | none =>
  rw [hr] at hL hx
  have HL := Lib.hid (show ∀ w, Calls Tryz.prog 78 #[.string s] w fun e w' => e = .returned (.tuple #[.int .u64 0, .bool false]) ∧ Later w w' from hL)
  have hx2 : x = -1 := hx.symm
  subst hx2
  clear hL hx hr
  go_enter Tryz.func50, Tryz.ntmps50
  go_wp2_with fail
  refine (HL.out w).mono ?_
  rintro y1 w1 ⟨rfl, hl⟩
  have HW := Lib.hid hl
  clear hl
  go_wp2_with fail
  go_ret
  exact ⟨rfl, HW.out⟩
 | some n =>
  rw [hr] at hL hx
  have hb := ((lrg_iff _ _).1 hr).1
  have HL := Lib.hid (show ∀ w, Calls Tryz.prog 78 #[.string s] w fun e w' => e = .returned (.tuple #[.int .u64 (n : Int), .bool true]) ∧ Later w w' from hL)
  by_cases h9 : n ≤ 999999999
  ·have hx2 : x = (n : Int) := by
    rw [← hx]
    show (if n ≤ 999999999 then some (n : Int) else none).getD (-1) = _
    rw [if_pos h9]
    rfl
   subst hx2
   have t1 : decide ((999999999 : Int) < (n : Int)) = false := decide_eq_false (by omega)
   have t2 : decide (999999999 < n) = false := decide_eq_false (by omega)
   have a1 : IntKind.i64.wrap (n : Int) = (n : Int) := IntWalk.i64_in _ (by omega)
   clear hL hx hr
   go_enter Tryz.func50, Tryz.ntmps50
   go_wp2_with fail
   refine (HL.out w).mono ?_
   rintro y1 w1 ⟨rfl, hl⟩
   have HW := Lib.hid hl
   clear hl
   go_wp2_with fail
   go_ret
   exact ⟨rfl, HW.out⟩
  ·have hx2 : x = -1 := by
    rw [← hx]
    show (if n ≤ 999999999 then some (n : Int) else none).getD (-1) = _
    rw [if_neg h9]
    rfl
   subst hx2
   have t1 : decide ((999999999 : Int) < (n : Int)) = true := decide_eq_true (by omega)
   have t2 : decide (999999999 < n) = true := decide_eq_true (by omega)
   clear hL hx hr
   go_enter Tryz.func50, Tryz.ntmps50
   go_wp2_with fail
   refine (HL.out w).mono ?_
   rintro y1 w1 ⟨rfl, hl⟩
   have HW := Lib.hid hl
   clear hl
   go_wp2_with fail
   go_ret
   exact ⟨rfl, HW.out⟩
/-- the words before byte k: D, and from byte f on the one under way -/
structure SpI (l : List UInt8) (k f : Nat) (D : List (List UInt8)) : Prop where
 le : f ≤ k
 run : k ≤ l.length → (∀ c ∈ (l.take k).drop f, c ≠ 32) ∧ spl l = D ++ spl (l.drop f)
 fin : k = l.length + 1 → spl l = D
theorem SpI.end_ {l : List UInt8} {f : Nat} {D : List (List UInt8)} (h : SpI l l.length f D) : SpI l (l.length + 1) (l.length + 1) (D ++ [l.drop f]) := by
 obtain ⟨h1, h2⟩ := h.run (Nat.le_refl _)
 rw [List.take_length] at h1
 refine ⟨Nat.le_refl _, fun h => by omega, fun _ => ?_⟩
 rw [h2, spl_none _ (fun hm => h1 _ hm rfl)]
theorem SpI.cut {l : List UInt8} {k f : Nat} {D : List (List UInt8)} (h : SpI l k f D) (hk : k < l.length) (hc : l[k] = 32) : SpI l (k + 1) (k + 1) (D ++ [(l.take k).drop f]) := by
 obtain ⟨h1, h2⟩ := h.run (by omega)
 refine ⟨Nat.le_refl _, fun h3 => ⟨fun c hc => ?_, ?_⟩, fun h3 => by omega⟩
 ·rw [List.drop_of_length_le (by rw [List.length_take]; omega)] at hc
  cases hc
 ·have hd : l.drop f = (l.take k).drop f ++ 32 :: l.drop (k + 1) := by
   have h3 : l.take k ++ l.drop k = l := List.take_append_drop k l
   have h4 : l.drop f = (l.take k ++ l.drop k).drop f := by rw [h3]
   rw [h4, List.drop_append_of_le_length (by rw [List.length_take]; have := h.le; omega), List.drop_eq_getElem_cons hk, hc]
  rw [h2, hd, spl_app _ _ (fun hm => h1 _ hm rfl)]
  simp
theorem SpI.skip {l : List UInt8} {k f : Nat} {D : List (List UInt8)} (h : SpI l k f D) (hk : k < l.length) (hc : l[k] ≠ 32) : SpI l (k + 1) f D := by
 obtain ⟨h1, h2⟩ := h.run (by omega)
 refine ⟨by have := h.le; omega, fun h3 => ⟨fun c hm => ?_, h2⟩, fun h3 => by omega⟩
 rw [List.take_add_one, List.getElem?_eq_getElem hk, Option.toList_some, List.drop_append_of_le_length (by rw [List.length_take]; have := h.le; omega)] at hm
 rcases List.mem_append.1 hm with hm | hm
 ·exact h1 c hm
 ·rw [List.mem_singleton] at hm
  rw [hm]
  exact hc
set_option maxRecDepth 100000 in
set_option maxHeartbeats 4000000 in
theorem refSplit_is (s : ByteArray) (hs : s.size ≤ 1000000000) (w : World) :
  Calls Tryz.prog 41 #[.string s] w fun e w' => Later w w' ∧ ∃ a c, e = .returned (.slice a (spl s.data.toList).length c) ∧ w'.ownsRow w.heap.size 9 1 (.slice a (spl s.data.toList).length c) (spl s.data.toList).length (wsC (spl s.data.toList)) := by
 have hi9 : (Tryz.prog.info? 9).map (fun i => (i.zero, i.size, i.bytes)) = some (some (.string ⟨#[]⟩), 1, 16) := by kernel_rfl
 obtain ⟨i0, hi, hz0, hz1, hz2⟩ := info_parts hi9
 have HI := Lib.hid (And.intro hi (And.intro hz0 (And.intro hz1 hz2)))
 have hsz : s.data.toList.length = s.size := (Lib.size_eq s).symm
 have HSZ := Lib.hid hsz
 have HI0 := Lib.hid (show SpI s.data.toList 0 0 [] from ⟨Nat.le_refl _, fun _ => ⟨fun c hc => by simp at hc, by simp⟩, fun h => by omega⟩)
 clear hi9 hi hz0 hz1 hz2 hsz
 go_enter Tryz.func41, Tryz.ntmps41
 go_wp2_with fail
 go_loopw [3, 4, 5] (fun o g i wr => ∃ (k f : Nat) (D : List (List UInt8)), k ≤ s.size + 1 ∧ i = .int .i64 k ∧ g = .int .i64 f ∧ SpI s.data.toList k f D ∧ D.length ≤ k ∧ Later w wr ∧ wr.ownsRow w.heap.size 9 1 o D.length (wsC D)) (fun _ _ i _ => s.size + 1 - (RowKit.intOf i).toNat)
 case atStart => exact ⟨0, 0, [], by omega, rfl, rfl, HI0.out, by simp, Later.refl w, World.ownsRow_nil _ _ _ _⟩
 case round =>
  obtain ⟨k, f, D, hk, rfl, rfl, hsp, hDk, hlw, hown⟩ := hrel
  rename World => wk
  have HSP := Lib.hid hsp
  have HLW := Lib.hid hlw
  obtain ⟨ov, oc, rfl⟩ := slice_of_own hown
  have HOWN := Lib.hid hown
  have hfk := hsp.le
  have hsz := hlw.size
  obtain ⟨n, hn⟩ : ∃ n, D.length = n := ⟨_, rfl⟩
  have HN := Lib.hid hn
  rw [hn] at hown hDk ⊢
  have hwr : IntKind.i64.wrap ((k : Int) + 1) = (k : Int) + 1 := IntWalk.i64_in _ (by omega)
  clear hsp hlw hn HI0
  by_cases hle : k ≤ s.size
  ·have d0 : decide ((k : Int) ≤ (s.size : Int)) = true := decide_eq_true (by omega)
   have d0n : decide (k ≤ s.size) = true := decide_eq_true hle
   have push : ∀ (T : ByteArray) (v6 : Value) (w6 : World) (o : Obj), w6.ownsRow w.heap.size 9 1 v6 (n + 1) (wsC D ++ [.string T]) → (wk.alloc o).grownBy w6 (Value.slice ov n oc).ownBlock → Later w w6 ∧ w6.ownsRow w.heap.size 9 1 v6 (D ++ [T.data.toList]).length (wsC (D ++ [T.data.toList])) := by
    intro T v6 w6 o h1 h2
    have hT : T = ⟨T.data.toList.toArray⟩ := by
     apply ByteArray.ext
     simp
    refine ⟨later_grown (HLW.out.alloc o) (g := .slice ov n oc) ((show wk.ownsRow w.heap.size 9 1 (.slice ov n oc) n (wsC D) by have h := HOWN.out; rw [HN.out] at h; exact h).alloc o) h2, ?_⟩
    rw [List.length_append, HN.out, show wsC (D ++ [T.data.toList]) = wsC D ++ [.string T] by rw [hT]; simp [wsC]]
    exact h1
   have HP := Lib.hid push
   clear push
   by_cases he : k = s.size
   ·have d1 : ((k : Int) == (s.size : Int)) = true := by simp; omega
    have HK := Lib.hid he
    clear he
    go_wp2_with (at_builtin; refine wpList_append_own _ rfl _ _ 29 rfl w.heap.size 9 i0 _ 1 16 Tryz.underlying29 HI.out.1 HI.out.2.1 HI.out.2.2.1 HI.out.2.2.2 rfl (by decide) _ _ _ rfl (hown.alloc _) ⟨wk.heap.size, 0, none⟩ 1 1 [.string (s.extract f k)] rfl rfl (cell_one_new _ _ _) (by simp [Value.oneCell']) ?c3 ?c4 ?c5 ?_)
    case c3 => unfold maxLen; omega
    case c4 => omega
    case c5 => simp; omega
    intro v6 w6 hown6 hgrow _
    have HR := Lib.hid (HP.out _ _ _ _ hown6 hgrow)
    have HX := Lib.hid (show SpI s.data.toList (k + 1) (k + 1) (D ++ [(s.extract f k).data.toList]) by
     have h := HSP.out
     rw [HK.out, ← HSZ.out] at h ⊢
     have h2 := h.end_
     have h3 : (s.extract f s.data.toList.length).data.toList = s.data.toList.drop f := by rw [Lib.extract_data, List.take_of_length_le (by rw [List.length_drop]; exact Nat.le_refl _)]
     rw [h3]
     exact h2)
    clear hown hown6 hgrow
    go_wp2_with fail
    go_roundw
    case rel => exact ⟨k + 1, k + 1, _, by omega, by go_num, by go_num, HX.out, by rw [List.length_append, HN.out]; simp; omega, HR.out.1, HR.out.2⟩
    case measure => simp [RowKit.intOf]; omega
   ·have hlt : k < s.size := by omega
    have d1 : ((k : Int) == (s.size : Int)) = false := by simp; omega
    have hlt' : k < s.data.toList.length := by rw [HSZ.out]; exact hlt
    have hge : s.data.toList[k] = s[k] := by rw [Array.getElem_toList]; rfl
    by_cases hc : s[k] = 32
    ·have hv : ((s[k].toNat : Int) == 32) = true := by rw [hc]; rfl
     have HX := Lib.hid (show SpI s.data.toList (k + 1) (k + 1) (D ++ [(s.extract f k).data.toList]) by
      have h3 : (s.extract f k).data.toList = (s.data.toList.take k).drop f := by rw [Lib.extract_data]; simp [List.drop_take]
      rw [h3]
      exact HSP.out.cut hlt' (by rw [hge, hc]))
     clear hge hc
     go_wp2_with (at_builtin; refine wpList_append_own _ rfl _ _ 29 rfl w.heap.size 9 i0 _ 1 16 Tryz.underlying29 HI.out.1 HI.out.2.1 HI.out.2.2.1 HI.out.2.2.2 rfl (by decide) _ _ _ rfl (hown.alloc _) ⟨wk.heap.size, 0, none⟩ 1 1 [.string (s.extract f k)] rfl rfl (cell_one_new _ _ _) (by simp [Value.oneCell']) ?c3 ?c4 ?c5 ?_)
     case c3 => unfold maxLen; omega
     case c4 => omega
     case c5 => simp; omega
     intro v6 w6 hown6 hgrow _
     have HR := Lib.hid (HP.out _ _ _ _ hown6 hgrow)
     clear hown hown6 hgrow
     go_wp2_with fail
     go_roundw
     case rel => exact ⟨k + 1, k + 1, _, by omega, by go_num, by go_num, HX.out, by rw [List.length_append, HN.out]; simp; omega, HR.out.1, HR.out.2⟩
     case measure => simp [RowKit.intOf]; omega
    ·have hv : ((s[k].toNat : Int) == 32) = false := by
      have h3 : s[k].toNat ≠ 32 := fun h => hc (UInt8.toNat_inj.1 h)
      simp only [beq_eq_false_iff_ne, ne_eq]
      omega
     have HX := Lib.hid (show SpI s.data.toList (k + 1) f D from HSP.out.skip hlt' (by rw [hge]; exact hc))
     clear hge hc
     go_wp2_with fail
     go_roundw
     case rel => exact ⟨k + 1, f, D, by omega, by go_num, rfl, HX.out, by rw [HN.out]; omega, HLW.out, by have h := HOWN.out; rw [HN.out] at h ⊢; exact h⟩
     case measure => simp [RowKit.intOf]; omega
  ·have d0 : decide ((k : Int) ≤ (s.size : Int)) = false := decide_eq_false (by omega)
   have d0n : decide (k ≤ s.size) = false := decide_eq_false hle
   have HD := Lib.hid (show spl s.data.toList = D from HSP.out.fin (by rw [HSZ.out]; omega))
   go_wp2_with fail
   go_ret
   exact ⟨HLW.out, ov, oc, by rw [HD.out, HN.out]; rfl, by rw [HD.out]; exact HOWN.out⟩
end Go.Proofs.YtkbedajbbakihaaGreatDoor

/-
 The reference's request: its state. Conditions: none.
-/
namespace Go.Proofs.YtkbedajbbakihaaGreatDoor
open Go.RowKit Go.Sort Go.Lib
set_option linter.unusedSimpArgs false
set_option linter.unusedVariables false

theorem many_at (d : Nat) (h : 1 ≤ d ∧ d ≤ 10) : (#[.int .i64 (-1), .int .i64 2, .int .i64 3, .int .i64 2, .int .i64 4, .int .i64 3, .int .i64 1, .int .i64 3, .int .i64 1, .int .i64 2, .int .i64 1] : Array Value)[d]? = some (.int .i64 ((fldsN d).length : Int)) := by
 rcases ten_cases h with rfl | rfl | rfl | rfl | rfl | rfl | rfl | rfl | rfl | rfl <;> rfl
theorem list1 {α : Type} (l : List α) (h : l.length = 1) : ∃ a, l = [a] := by
 match l, h with
 | [a], _ => exact ⟨a, rfl⟩
theorem list2 {α : Type} (l : List α) (h : l.length = 2) : ∃ a b, l = [a, b] := by
 match l, h with
 | [a, b], _ => exact ⟨a, b, rfl⟩
theorem list3 {α : Type} (l : List α) (h : l.length = 3) : ∃ a b c, l = [a, b, c] := by
 match l, h with
 | [a, b, c], _ => exact ⟨a, b, c, rfl⟩
theorem list4 {α : Type} (l : List α) (h : l.length = 4) : ∃ a b c d, l = [a, b, c, d] := by
 match l, h with
 | [a, b, c, d], _ => exact ⟨a, b, c, d, rfl⟩
/-- how the reference's request ends -/
def RQE (ws : List (List UInt8)) (w : World) (e : Ending) (w' : World) : Prop := Later w w' ∧
 ((∃ r, readR ws = some r ∧ e = .returned (.tuple #[reqV r, .bool true])) ∨ (readR ws = none ∧ ∃ r, e = .returned (.tuple #[reqV r, .bool false])))
/-- the request under way -/
structure RQ (w : World) (A : Array Value) (W : World) : Prop where
 later : Later w W
 big : w.heap.size + 2 ≤ W.heap.size
 res : W.heap[w.heap.size]? = some (.cells (reqA req0) 39 (0, 0))
 row : W.heap[w.heap.size + 1]? = some (.cells A 39 (0, 0))
theorem RQ.after {w W W' : World} {A : Array Value} (h : RQ w A W) (hl : Later W W') : RQ w A W' := by
 have hb := h.big
 exact ⟨h.later.trans hl, Nat.le_trans hb hl.size, (hl.block _ (by omega)).trans h.res, (hl.block _ (by omega)).trans h.row⟩
theorem RQ.set {w W : World} {A : Array Value} (h : RQ w A W) (k : Nat) (v : Value) : RQ w (A.setIfInBounds k v) (W.setCell ⟨w.heap.size + 1, k, none⟩ v) := by
 have hb := h.big
 refine ⟨h.later.setCell _ _ (by show w.heap.size ≤ w.heap.size + 1; omega), by simpa using hb, ?_, ?_⟩
 ·rw [Below.heap_setCell _ _ _ _ (by simp)]
  exact h.res
 ·rw [setCell_eq_setRow W (w.heap.size + 1) k A 39 (0, 0) v h.row]
  exact setRow_heap W (w.heap.size + 1) A _ 39 (0, 0) h.row
/-- the result's row is stored -/
theorem RQ.fin {w W : World} {A : Array Value} (h : RQ w A W) (B : Array Value) : Later w (W.setRow w.heap.size B) ∧ (W.setRow w.heap.size B).heap[w.heap.size]? = some (.cells B 39 (0, 0)) :=
 ⟨row_later h.later (Nat.le_refl _) B, setRow_heap W w.heap.size _ B 39 (0, 0) h.res⟩
/-- what the end of request wants -/
structure RQD (w W : World) (r : Req) (A : Array Value) : Prop where
 eq : reqA r = A
 rg : W.rangeAt (w.heap.size + 1) 0 A.toList
 al : (Tryz.prog.info? 39).map (·.size) = some A.toList.length
 sz : (Tryz.prog.info? 39).map (·.size) = some A.size
 az : (reqA req0).size = A.size
 ao : A.all (·.oneCell') = true
 res : W.heap[w.heap.size]? = some (.cells (reqA req0) 39 (0, 0))
 later : Later w (W.setRow w.heap.size A)
 row : (W.setRow w.heap.size A).heap[w.heap.size]? = some (.cells (reqA r) 39 (0, 0))
theorem RQ.range {w W : World} {A : Array Value} (h : RQ w A W) : W.rangeAt (w.heap.size + 1) 0 A.toList := by
 intro j u hj
 rw [Nat.zero_add, Lib.cell_of_heap h.row]
 rw [← Array.getElem?_toList]
 exact hj
theorem RQ.done {w W : World} {r : Req} (h : RQ w (reqA r) W) : ∃ A, RQD w W r A :=
 ⟨_, rfl, h.range, by rw [Array.length_toList]; exact reqA_info, reqA_info, rfl, reqA_one _, h.res, (h.fin _).1, (h.fin _).2⟩
/-- the row and the Bool that request returns -/
def RQP (ws : List (List UInt8)) (r : Req) (ok : Bool) : Prop := (ok = true → readR ws = some r) ∧ (ok = false → readR ws = none)
theorem RQD.fin {w W : World} {r : Req} {A : Array Value} (h : RQD w W r A) {ws : List (List UInt8)} {ok : Bool} (hp : RQP ws r ok) : RQE ws w (.returned (.tuple #[reqV r, .bool ok])) (W.setRow w.heap.size A) := by
 refine ⟨h.later, ?_⟩
 cases ok with
 | true => exact .inl ⟨r, hp.1 rfl, rfl⟩
 | false => exact .inr ⟨hp.2 rfl, r, rfl⟩
theorem RQP.no {ws : List (List UInt8)} (r : Req) (h : readR ws = none) : RQP ws r false := ⟨fun h => (by cases h), fun _ => h⟩
theorem foldF_len (fs : List Fld) : ∀ (ws : List (List UInt8)) (r q : Req), foldF fs ws r = some q → ws.length = fs.length := by
 induction fs with
 | nil => intro ws r q h; cases ws with
  | nil => rfl
  | cons a t => cases h
 | cons f fs ih => intro ws r q h; cases ws with
  | nil => cases h
  | cons a t =>
   rw [foldF] at h
   cases hs : stepF f a r with
   | none => rw [hs] at h; cases h
   | some s => rw [hs] at h; rw [List.length_cons, List.length_cons, ih t s q h]
theorem foldF_no (fs : List Fld) (ws : List (List UInt8)) (r : Req) (h : ws.length ≠ fs.length) : foldF fs ws r = none := by
 cases hf : foldF fs ws r with
 | none => rfl
 | some q => exact absurd (foldF_len fs ws r q hf) h
theorem readR_of {w0 : List UInt8} {t : List (List UInt8)} {d : Nat} (h : 1 ≤ d ∧ d ≤ 10) (hn : nameN d = w0) : readR (w0 :: t) = foldF (fldsN d) t { req0 with deed := (d : Int) } := by
 show (deedW w0).bind _ = _
 rw [← hn, deedW_name d h]
 rfl
theorem readR_no {w0 : List UInt8} {t : List (List UInt8)} (h : ∀ k, 1 ≤ k → k ≤ 10 → nameN k ≠ w0) : readR (w0 :: t) = none := by
 show (deedW w0).bind _ = _
 cases hd : deedW w0 with
 | none => rfl
 | some d => obtain ⟨h1, h2⟩ := deedW_of hd; exact absurd h2.symm (h d h1.1 h1.2)
theorem rUnw {V : ByteArray} {v : List UInt8} (hV : V.data.toList = v) (hs : V.size ≤ 1000000000) (W : World) : Calls Tryz.prog 14 #[.string V] W fun e w' => e = .returned (.tuple #[.string ⟨((unword v).getD []).toArray⟩, .bool (unword v).isSome]) ∧ Later W w' := by
 refine (refUnword_is V hs W).mono ?_
 rintro e w' ⟨h, hl⟩
 rw [hV, ← unword_eq] at h
 cases hu : unword v with
 | none => rw [hu] at h; exact ⟨h, hl⟩
 | some x => rw [hu] at h; exact ⟨h, hl⟩
theorem rLrg {V : ByteArray} {v : List UInt8} (hV : V.data.toList = v) (hs : V.size ≤ 1000000000) (W : World) : Calls Tryz.prog 78 #[.string V] W fun e w' => e = .returned (.tuple #[.int .u64 (((lrg v).getD 0 : Nat) : Int), .bool (lrg v).isSome]) ∧ Later W w' := by
 refine (refLarge_is V hs W).mono ?_
 rintro e w' ⟨h, hl⟩
 rw [hV] at h
 cases hu : lrg v with
 | none => rw [hu] at h; exact ⟨h, hl⟩
 | some x => rw [hu] at h; exact ⟨h, hl⟩
theorem rNum {V : ByteArray} {v : List UInt8} (hV : V.data.toList = v) (hs : V.size ≤ 1000000000) (W : World) : Calls Tryz.prog 50 #[.string V] W fun e w' => e = .returned (.int .i64 ((num v).getD (-1))) ∧ Later W w' := by
 have h := refNum_is V hs W
 unfold numD at h
 rw [hV] at h
 exact h
theorem num_rng {v : List UInt8} {x : Int} (h : num v = some x) : 0 ≤ x := ((num_iff v x).1 h).1.1
theorem rRd {V : ByteArray} {v : List UInt8} (hV : V.data.toList = v) (hs : V.size ≤ 1000000000) (W : World) : Calls Tryz.prog 79 #[.string V] W fun e w' => e = .returned (.tuple #[.agg #[.int .i64 ((rdH v).getD (0, 0, 0)).1, .int .u32 ((rdH v).getD (0, 0, 0)).2.1, .int .u8 ((rdH v).getD (0, 0, 0)).2.2], .int .i64 (if (rdH v).isSome then 0 else 7)]) ∧ Later W w' := by
 rcases rdH_end v with ⟨x, y, z, h1, h2⟩ | ⟨h1, h2⟩
 ·rw [h1]
  exact refRead_is V hs x y z 0 (by rw [hV]; exact h2) W
 ·rw [h1]
  exact refRead_is V hs 0 0 0 7 (by rw [hV]; exact h2) W
theorem rqP1 {w0 t1 t2 : List UInt8} {p q g : Int} (hr : rdH t1 = some (p, q, g)) (hn : nameN 1 = w0) : RQP [w0, t1, t2] { req0 with deed := 1, ht := p, hg := q, hr := g, key := (unword t2).getD [] } ((unword t2).isSome) := by
 unfold RQP
 rw [readR_of (d := 1) (by decide) hn]
 cases h0 : unword t2 <;> simp [fldsN, foldF, stepF, hr, h0]
theorem rqP2 {w0 t1 t2 t3 : List UInt8} {p q g : Int} (hr : rdH t1 = some (p, q, g)) (hn : nameN 2 = w0) : RQP [w0, t1, t2, t3] { req0 with deed := 2, ht := p, hg := q, hr := g, key := (unword t2).getD [], val := (unword t3).getD [] } ((unword t2).isSome && (unword t3).isSome) := by
 unfold RQP
 rw [readR_of (d := 2) (by decide) hn]
 cases h0 : unword t2 <;> cases h1 : unword t3 <;> simp [fldsN, foldF, stepF, hr, h0, h1]
theorem rqP3 {w0 t1 t2 : List UInt8} {p q g : Int} (hr : rdH t1 = some (p, q, g)) (hn : nameN 3 = w0) : RQP [w0, t1, t2] { req0 with deed := 3, ht := p, hg := q, hr := g, key := (unword t2).getD [] } ((unword t2).isSome) := by
 unfold RQP
 rw [readR_of (d := 3) (by decide) hn]
 cases h0 : unword t2 <;> simp [fldsN, foldF, stepF, hr, h0]
theorem rqP4 {w0 t1 t2 t3 t4 : List UInt8} {p q g : Int} (hr : rdH t1 = some (p, q, g)) (hn : nameN 4 = w0) : RQP [w0, t1, t2, t3, t4] { req0 with deed := 4, ht := p, hg := q, hr := g, key := (unword t2).getD [], old := (unword t3).getD [], val := (unword t4).getD [] } ((unword t2).isSome && (unword t3).isSome && (unword t4).isSome) := by
 unfold RQP
 rw [readR_of (d := 4) (by decide) hn]
 cases h0 : unword t2 <;> cases h1 : unword t3 <;> cases h2 : unword t4 <;> simp [fldsN, foldF, stepF, hr, h0, h1, h2]
theorem rqP6 {w0 t1 : List UInt8} {p q g : Int} (hr : rdH t1 = some (p, q, g)) (hn : nameN 6 = w0) : RQP [w0, t1] { req0 with deed := 6, ht := p, hg := q, hr := g } (true) := by
 unfold RQP
 rw [readR_of (d := 6) (by decide) hn]
 simp [fldsN, foldF, stepF, hr]
theorem num_ok (v : List UInt8) : decide (0 ≤ (num v).getD (-1)) = (num v).isSome := by
 cases h : num v with
 | none => rfl
 | some x => simpa using num_rng h
theorem rqP5 {w0 t1 t2 t3 : List UInt8} {p q g : Int} (hr : rdH t1 = some (p, q, g)) (hn : nameN 5 = w0) : RQP [w0, t1, t2, t3] { req0 with deed := 5, ht := p, hg := q, hr := g, key := (unword t2).getD [], lim := (num t3).getD (-1) } ((unword t2).isSome && decide (0 ≤ (num t3).getD (-1))) := by
 rw [num_ok]
 unfold RQP
 rw [readR_of (d := 5) (by decide) hn]
 cases h0 : unword t2 <;> cases h1 : num t3 <;> simp [fldsN, foldF, stepF, hr, h0, h1]
theorem rqP7 {w0 t1 t2 t3 : List UInt8} (hn : nameN 7 = w0) : RQP [w0, t1, t2, t3] { req0 with deed := 7, ten := (num t1).getD (-1), qk := (((lrg t2).getD 0 : Nat) : Int), qb := (((lrg t3).getD 0 : Nat) : Int) } (decide (0 ≤ (num t1).getD (-1)) && (lrg t2).isSome && (lrg t3).isSome) := by
 rw [num_ok]
 unfold RQP
 rw [readR_of (d := 7) (by decide) hn]
 cases h0 : num t1 <;> cases h1 : lrg t2 <;> cases h2 : lrg t3 <;> simp [fldsN, foldF, stepF, h0, h1, h2]
theorem rqP8 {w0 t1 : List UInt8} (hn : nameN 8 = w0) : RQP [w0, t1] { req0 with deed := 8, ten := (num t1).getD (-1) } (decide (0 ≤ (num t1).getD (-1))) := by
 rw [num_ok]
 unfold RQP
 rw [readR_of (d := 8) (by decide) hn]
 cases h0 : num t1 <;> simp [fldsN, foldF, stepF, h0]
theorem rqP9 {w0 t1 t2 : List UInt8} (hn : nameN 9 = w0) : RQP [w0, t1, t2] { req0 with deed := 9, ten := (num t1).getD (-1), rts := ((rdH (49 :: 46 :: 49 :: 46 :: t2)).getD (0, 0, 0)).2.2 } (decide (0 ≤ (num t1).getD (-1)) && (rdH (49 :: 46 :: 49 :: 46 :: t2)).isSome) := by
 rw [num_ok]
 unfold RQP
 rw [readR_of (d := 9) (by decide) hn]
 cases h0 : num t1 <;> cases h1 : rdH (49 :: 46 :: 49 :: 46 :: t2) <;> simp [fldsN, foldF, stepF, h0, h1]
theorem rqP10 {w0 t1 : List UInt8} (hn : nameN 10 = w0) : RQP [w0, t1] { req0 with deed := 10, ten := (num t1).getD (-1) } (decide (0 ≤ (num t1).getD (-1))) := by
 rw [num_ok]
 unfold RQP
 rw [readR_of (d := 10) (by decide) hn]
 cases h0 : num t1 <;> simp [fldsN, foldF, stepF, h0]
end Go.Proofs.YtkbedajbbakihaaGreatDoor
