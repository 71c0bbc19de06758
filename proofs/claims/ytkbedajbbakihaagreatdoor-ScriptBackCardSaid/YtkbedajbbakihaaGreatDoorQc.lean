/-
 Texts of this proof, put together (Hk, Hl, Hm, Hn, Rd): each part's first words say what it holds. Conditions: as each part says.
-/
import Derived.Test.YtkbedajbbakihaaGreatDoorQb1
import Derived.Lib.AtoiErrMem
import Derived.Test.YtkbedajbbakihaaGreatDoorQa2
import Derived.Test.YtkbedajbbakihaaGreatDoorQb2
/-
 strconv.ParseUint at base 10, at 8 and at 32 bits, as handle.Read calls it. Conditions: the text is shorter than 2^48 bytes; the two errors' variables hold interface values.
-/
namespace Go.Proofs.YtkbedajbbakihaaGreatDoor
open Go.RowKit Go.Sort Go.Lib

/-- the two errors' variables hold interface values -/
def Errs (w : World) : Prop := (∃ t p, w.cell? ⟨1, 0, none⟩ = some (.iface t p)) ∧ ∃ t p, w.cell? ⟨2, 0, none⟩ = some (.iface t p)
theorem cell_later {w w' : World} {b : Nat} {v : Value} (h : w.cell? ⟨b, 0, none⟩ = some v) (hl : Later w w') : w'.cell? ⟨b, 0, none⟩ = some v :=
 (hl.reads.1 b 0 (Lib.lt_of_cell h)).trans h
theorem Errs.later {w w' : World} (h : Errs w) (hl : Later w w') : Errs w' := by
 obtain ⟨⟨t, p, h0⟩, t1, p1, h1⟩ := h
 exact ⟨⟨t, p, cell_later h0 hl⟩, t1, p1, cell_later h1 hl⟩

/-- a number of at most M, the text's own if the text is a number's -/
def PuNum (M : Nat) (l : List UInt8) (v : Nat) : Prop := v ≤ M ∧ ∀ u : Nat, l = Lib.decDigits u → u ≤ M → v = u
def PuRes (M : Nat) (l : List UInt8) (e : Ending) : Prop := ∃ (v : Nat) (x : Value), e = .returned (.tuple #[.int .u64 v, x]) ∧ PuNum M l v

theorem later_bytes (w : World) (t : TypeId) (s : ByteArray) : Later w (Lib.bytesWorld w t s) := Lib.bytesWorld_below w t s

theorem pu8_is (s : ByteArray) (hlim : s.size ≤ 1000000000) (w : World) (he : Errs w) :
  Calls Tryz.prog 129 #[.string s, .int .i64 10, .int .i64 8] w fun e w' => PuRes 255 s.data.toList e ∧ Later w w' := by
 obtain ⟨⟨t0, p0, c0⟩, t1, p1, c1⟩ := he
 rcases hp : Lib.parseUintB 8 s.data.toList with u | _ | _
 ·refine (Tryz.strconv_ParseUint_10_at8_ok s (by omega) u hp w).mono ?_
  rintro e w' ⟨rfl, hw⟩
  refine ⟨⟨u, _, rfl, Lib.parseUintB_le hp, fun n hn hle => ?_⟩, ?_⟩
  ·rw [hn, pb_digits8 n hle] at hp
   injection hp with hp
   exact hp.symm
  ·rcases hw with rfl | rfl
   ·exact Later.refl _
   ·exact later_bytes _ _ _
 ·refine (Any.strconv_ParseUint_10_at8_syntax Tryz.laysPu14 s (by omega) hp _ w c0 (.inr ⟨_, _, rfl⟩)).mono ?_
  rintro e w' ⟨N, rfl, _, _, hb⟩
  refine ⟨⟨0, _, rfl, by omega, fun n hn hle => ?_⟩, hb⟩
  rw [hn, pb_digits8 n hle] at hp
  cases hp
 ·refine (Any.strconv_ParseUint_10_at8_range Tryz.laysPu14 s (by omega) hp _ w c1 (.inr ⟨_, _, rfl⟩)).mono ?_
  rintro e w' ⟨N, rfl, _, _, hb⟩
  refine ⟨⟨255, _, rfl, by omega, fun n hn hle => ?_⟩, hb⟩
  rw [hn, pb_digits8 n hle] at hp
  cases hp
theorem pu32_is (s : ByteArray) (hlim : s.size ≤ 1000000000) (w : World) (he : Errs w) :
  Calls Tryz.prog 129 #[.string s, .int .i64 10, .int .i64 32] w fun e w' => PuRes 4294967295 s.data.toList e ∧ Later w w' := by
 obtain ⟨⟨t0, p0, c0⟩, t1, p1, c1⟩ := he
 rcases hp : Lib.parseUintB 32 s.data.toList with u | _ | _
 ·refine (Tryz.strconv_ParseUint_10_at32_ok s (by omega) u hp w).mono ?_
  rintro e w' ⟨rfl, hw⟩
  refine ⟨⟨u, _, rfl, Lib.parseUintB_le hp, fun n hn hle => ?_⟩, ?_⟩
  ·rw [hn, pb_digits32 n hle] at hp
   injection hp with hp
   exact hp.symm
  ·rcases hw with rfl | rfl
   ·exact Later.refl _
   ·exact later_bytes _ _ _
 ·refine (Any.strconv_ParseUint_10_at32_syntax Tryz.laysPu14 s (by omega) hp _ w c0 (.inr ⟨_, _, rfl⟩)).mono ?_
  rintro e w' ⟨N, rfl, _, _, hb⟩
  refine ⟨⟨0, _, rfl, by omega, fun n hn hle => ?_⟩, hb⟩
  rw [hn, pb_digits32 n hle] at hp
  cases hp
 ·refine (Any.strconv_ParseUint_10_at32_range Tryz.laysPu14 s (by omega) hp _ w c1 (.inr ⟨_, _, rfl⟩)).mono ?_
  rintro e w' ⟨N, rfl, _, _, hb⟩
  refine ⟨⟨4294967295, _, rfl, by omega, fun n hn hle => ?_⟩, hb⟩
  rw [hn, pb_digits32 n hle] at hp
  cases hp
end Go.Proofs.YtkbedajbbakihaaGreatDoor

/-
 handle.Read, walked. Conditions: the text is short; the listed variables read as laid.
-/
namespace Go.Proofs.YtkbedajbbakihaaGreatDoor
open Go.RowKit Go.Sort Go.Lib

/-- what the laid variables give -/
def Laid (w : World) : Prop := Tab w ∧ Errs w ∧ ∃ m, w.cell? ⟨0, 0, none⟩ = some (.int .i64 m)
theorem Laid.later {w w' : World} (h : Laid w) (hl : Later w w') : Laid w' := by
 obtain ⟨h1, h2, m, h3⟩ := h
 exact ⟨h1.later hl, h2.later hl, m, cell_later h3 hl⟩
theorem size_mk (l : List UInt8) : (⟨l.toArray⟩ : ByteArray).size = l.length := by simp [ByteArray.size]

theorem split_not (l : List UInt8) (hl : l.length ≤ 1000000000) (h : l.count 46 ≠ 2) (w : World) (hw : Laid w) :
  Calls Tryz.prog 37 #[.string ⟨l.toArray⟩, .string ⟨#[46]⟩] w fun e w' => (∃ n : Nat, e = .returned (.slice (some ⟨w.heap.size, 0, none⟩) n n) ∧ n ≠ 3) ∧ Later w w' := by
 obtain ⟨_, _, m, hm⟩ := hw
 have h46 : ByteArray.size ⟨#[46]⟩ = 1 := rfl
 refine (Tryz.strings_Split ⟨l.toArray⟩ ⟨#[46]⟩ m w (by rw [size_mk]; omega) hm (by rw [h46]; omega)).mono ?_
 rintro e w' ⟨rfl, rfl⟩
 have hc : Lib.countB ⟨l.toArray⟩ ⟨#[46]⟩ = l.count 46 := Lib.count_one 46 l
 rw [hc]
 exact ⟨⟨_, rfl, by omega⟩, (Later.refl w).alloc _⟩
theorem split_is (a b c : List UInt8) (ha : (46 : UInt8) ∉ a) (hb : (46 : UInt8) ∉ b) (hc : (46 : UInt8) ∉ c) (hl : (a ++ 46 :: (b ++ 46 :: c)).length ≤ 1000000000) (w : World) (hw : Laid w) :
  Calls Tryz.prog 37 #[.string ⟨(a ++ 46 :: (b ++ 46 :: c)).toArray⟩, .string ⟨#[46]⟩] w fun e w' => e = .returned (.slice (some ⟨w.heap.size, 0, none⟩) 3 3) ∧ w' = w.alloc (.cells #[.string ⟨a.toArray⟩, .string ⟨b.toArray⟩, .string ⟨c.toArray⟩] 9) := by
 obtain ⟨_, _, m, hm⟩ := hw
 have h46 : ByteArray.size ⟨#[46]⟩ = 1 := rfl
 refine (Tryz.strings_Split ⟨(a ++ 46 :: (b ++ 46 :: c)).toArray⟩ ⟨#[46]⟩ m w (by rw [size_mk]; omega) hm (by rw [h46]; omega)).mono ?_
 rintro e w' ⟨rfl, rfl⟩
 have hn : Lib.countB ⟨(a ++ 46 :: (b ++ 46 :: c)).toArray⟩ ⟨#[46]⟩ = 2 := by
  refine (Lib.count_one 46 _).trans ?_
  rw [List.count_append, List.count_cons_self, List.count_append, List.count_cons_self, List.count_eq_zero.2 ha, List.count_eq_zero.2 hb, List.count_eq_zero.2 hc]
 rw [hn, split_parts a b c ha hb]
 exact ⟨rfl, rfl⟩

set_option maxRecDepth 100000 in
theorem Read_not (l : List UInt8) (hl : l.length ≤ 1000000000) (h : l.count 46 ≠ 2) (w : World) (hw : Laid w) :
  Calls Tryz.prog 140 #[.string ⟨l.toArray⟩] w fun e w' => e = .returned (.tuple #[.agg #[.int .i64 0, .int .u32 0, .int .u8 0], .int .i64 7]) ∧ Later w w' := by
 obtain ⟨S, hS⟩ : ∃ S : ByteArray, S = ⟨l.toArray⟩ := ⟨_, rfl⟩
 have hsp := fun w1 (h1 : Laid w1) => split_not l hl h w1 h1
 rw [← hS] at hsp ⊢
 clear hS hl h
 go_enter Tryz.func140, Tryz.ntmps140
 go_wp2_with fail
 refine (hsp _ (hw.later ((Later.refl w).alloc _))).mono ?_
 rintro e w1 ⟨⟨n, rfl, hn⟩, hb1⟩
 have hn' : ((n : Int) != 3) = true := by simp; omega
 have k0 := cell_at hb1 (p := ⟨w.heap.size, 0, none⟩) (v := .int .i64 0) (by go_cell) (by simp)
 have k1 := cell_at hb1 (p := ⟨w.heap.size, 1, none⟩) (v := .int .u32 0) (by go_cell) (by simp)
 have k2 := cell_at hb1 (p := ⟨w.heap.size, 2, none⟩) (v := .int .u8 0) (by go_cell) (by simp)
 have z0 := frz_at hb1 (p := ⟨w.heap.size, 0, none⟩) (b := false) (by simp) (by simp)
 have z1 := frz_at hb1 (p := ⟨w.heap.size, 1, none⟩) (b := false) (by simp) (by simp)
 have z2 := frz_at hb1 (p := ⟨w.heap.size, 2, none⟩) (b := false) (by simp) (by simp)
 have hls : Later w w1 := ((Later.refl w).alloc _).trans hb1
 clear hn hsp hb1
 go_wp2_with fail
 refine bodyPost_ret (v := .tuple #[.agg #[.int .i64 0, .int .u32 0, .int .u8 0], .int .i64 7]) (by simp [results, Tryz.results140, go_sem, k0, k1, k2]) rfl ⟨rfl, ?_⟩
 exact ((hls.setCell _ _ (Nat.le_refl _)).setCell _ _ (Nat.le_refl _)).setCell _ _ (Nat.le_refl _)
end Go.Proofs.YtkbedajbbakihaaGreatDoor

/-
 handle.Read, walked: a text of three parts. Conditions: the text is short; the listed variables read as laid.
-/
namespace Go.Proofs.YtkbedajbbakihaaGreatDoor
open Go.RowKit Go.Sort Go.Lib

/-- what Read keeps: the results' cell, the third part, the handle's cell -/
def RInv (w V : World) (R L Hb : Nat) (v0 v1 z : Int) (c : List UInt8) : Prop :=
 Later w V ∧ (w.heap.size ≤ R ∧ R < L ∧ L < Hb ∧ Hb < V.heap.size) ∧ (V.cell? ⟨R, 0, none⟩ = some (.int .i64 0) ∧ V.cell? ⟨R, 1, none⟩ = some (.int .u32 0) ∧ V.cell? ⟨R, 2, none⟩ = some (.int .u8 0)) ∧
 (V.frozen? ⟨R, 0, none⟩ = false ∧ V.frozen? ⟨R, 1, none⟩ = false ∧ V.frozen? ⟨R, 2, none⟩ = false) ∧ V.cell? ⟨L, 2, none⟩ = some (.string ⟨c.toArray⟩) ∧
 (V.cell? ⟨Hb, 0, none⟩ = some (.int .i64 v0) ∧ V.cell? ⟨Hb, 1, none⟩ = some (.int .u32 v1) ∧ V.cell? ⟨Hb, 2, none⟩ = some (.int .u8 z)) ∧ V.frozen? ⟨Hb, 2, none⟩ = false
theorem RInv.later {w V U : World} {R L Hb : Nat} {v0 v1 z : Int} {c : List UInt8} (h : RInv w V R L Hb v0 v1 z c) (hl : Later V U) : RInv w U R L Hb v0 v1 z c := by
 obtain ⟨h1, ⟨h2, h3, h4, h5⟩, ⟨a0, a1, a2⟩, ⟨f0, f1, f2⟩, d2, ⟨b0, b1, b2⟩, f3⟩ := h
 have hR : R < V.heap.size := by omega
 have hL : L < V.heap.size := by omega
 exact ⟨h1.trans hl, ⟨h2, h3, h4, Nat.lt_of_lt_of_le h5 hl.size⟩, ⟨cell_at hl a0 hR, cell_at hl a1 hR, cell_at hl a2 hR⟩, ⟨frz_at hl f0 hR, frz_at hl f1 hR, frz_at hl f2 hR⟩, cell_at hl d2 hL, ⟨cell_at hl b0 h5, cell_at hl b1 h5, cell_at hl b2 h5⟩, frz_at hl f3 h5⟩
theorem RInv.store {w V : World} {R L Hb : Nat} {v0 v1 z : Int} {c : List UInt8} (h : RInv w V R L Hb v0 v1 z c) (y : Int) : RInv w (V.setCell ⟨Hb, 2, none⟩ (.int .u8 y)) R L Hb v0 v1 y c := by
 obtain ⟨h1, ⟨h2, h3, h4, h5⟩, ⟨a0, a1, a2⟩, ⟨f0, f1, f2⟩, d2, ⟨b0, b1, b2⟩, f3⟩ := h
 refine ⟨h1.setCell _ _ (by show w.heap.size ≤ Hb; omega), ⟨h2, h3, h4, by simpa using h5⟩, ⟨?_, ?_, ?_⟩, ⟨by simpa using f0, by simpa using f1, by simpa using f2⟩, ?_, ⟨?_, ?_, World.cell?_setCell_same V _ _ b2⟩, by simpa using f3⟩
 ·exact (World.cell?_setCell_other V _ _ _ (by intro h; injection h with h; omega)).trans a0
 ·exact (World.cell?_setCell_other V _ _ _ (by intro h; injection h with h; omega)).trans a1
 ·exact (World.cell?_setCell_other V _ _ _ (by intro h; injection h with h; omega)).trans a2
 ·exact (World.cell?_setCell_other V _ _ _ (by intro h; injection h with h; omega)).trans d2
 ·exact (World.cell?_setCell_other V _ _ _ (by simp)).trans b0
 ·exact (World.cell?_setCell_other V _ _ _ (by simp)).trans b1

theorem rK_zero (c : List UInt8) : rK c 0 = 0 := by simp [rK]
theorem rK_step0 (c : List UInt8) (p : Bool) (hp : decide (0 ≤ Lib.indexByte c 114) = p) : (p = true → bits .or .u8 (rK c 0) 1 = rK c 1) ∧ (p = false → rK c 0 = rK c 1) := by
 subst hp
 by_cases h0 : 0 ≤ Lib.indexByte c 114 <;> by_cases h1 : 0 ≤ Lib.indexByte c 119 <;> by_cases h2 : 0 ≤ Lib.indexByte c 115 <;> simp [rK, h0, h1, h2] <;> rfl
theorem rK_step1 (c : List UInt8) (p : Bool) (hp : decide (0 ≤ Lib.indexByte c 119) = p) : (p = true → bits .or .u8 (rK c 1) 2 = rK c 2) ∧ (p = false → rK c 1 = rK c 2) := by
 subst hp
 by_cases h0 : 0 ≤ Lib.indexByte c 114 <;> by_cases h1 : 0 ≤ Lib.indexByte c 119 <;> by_cases h2 : 0 ≤ Lib.indexByte c 115 <;> simp [rK, h0, h1, h2] <;> rfl
theorem rK_step2 (c : List UInt8) (p : Bool) (hp : decide (0 ≤ Lib.indexByte c 115) = p) : (p = true → bits .or .u8 (rK c 2) 4 = rK c 3) ∧ (p = false → rK c 2 = rK c 3) := by
 subst hp
 by_cases h0 : 0 ≤ Lib.indexByte c 114 <;> by_cases h1 : 0 ≤ Lib.indexByte c 119 <;> by_cases h2 : 0 ≤ Lib.indexByte c 115 <;> simp [rK, h0, h1, h2] <;> rfl

theorem read_match (a b c : List UInt8) (ha : (46 : UInt8) ∉ a) (hb : (46 : UInt8) ∉ b) (v u : Nat) (hv : PuNum 255 a v) (hu : PuNum 4294967295 b u) (t g : Nat) (r : Int) (ho : okH t g r = true) (hg : g ≤ 4294967295) (h : a ++ 46 :: (b ++ 46 :: c) = showH t g r) : t = v ∧ g = u ∧ r = rK c 3 := by
 have h1 := (okH_iff _ _ _).1 ho
 obtain ⟨e1, e2, e3⟩ := parts_inj ha hb (decDigits_no t 46 (by decide)) (decDigits_no g 46 (by decide)) h
 exact ⟨(hv.2 t e1 (by omega)).symm, (hu.2 g e2 hg).symm, by rw [e3, rK_letters r h1.2.2]⟩

set_option maxRecDepth 100000 in
set_option maxHeartbeats 6400000 in
theorem Read_parts (a b c : List UInt8) (ha : (46 : UInt8) ∉ a) (hb : (46 : UInt8) ∉ b) (hc : (46 : UInt8) ∉ c) (hl : (a ++ 46 :: (b ++ 46 :: c)).length ≤ 1000000000) (x y z k : Int) (hE : ReadEnd (a ++ 46 :: (b ++ 46 :: c)) x y z k) (w : World) (hw : Laid w) :
  Calls Tryz.prog 140 #[.string ⟨(a ++ 46 :: (b ++ 46 :: c)).toArray⟩] w fun e w' => e = .returned (.tuple #[.agg #[.int .i64 x, .int .u32 y, .int .u8 z], .int .i64 k]) ∧ Later w w' := by
 have hsp := fun w1 (h1 : Laid w1) => split_is a b c ha hb hc hl w1 h1
 have hl2 : a.length + (b.length + c.length) ≤ 999999998 := by simp only [List.length_append, List.length_cons] at hl; omega
 have p8 := fun w1 (h1 : Laid w1) => pu8_is ⟨a.toArray⟩ (by rw [size_mk]; omega) w1 h1.2.1
 have p32 := fun w1 (h1 : Laid w1) => pu32_is ⟨b.toArray⟩ (by rw [size_mk]; omega) w1 h1.2.1
 obtain ⟨S, hS⟩ : ∃ S : ByteArray, S = ⟨(a ++ 46 :: (b ++ 46 :: c)).toArray⟩ := ⟨_, rfl⟩
 rw [← hS] at hsp ⊢
 have HS := Lib.hid hS
 have HE := Lib.hid hE
 have HN := Lib.hid (And.intro ha (And.intro hb hc))
 clear hS hE ha hb hc hl hl2
 obtain ⟨A, hA⟩ : ∃ A : ByteArray, A = ⟨a.toArray⟩ := ⟨_, rfl⟩
 obtain ⟨B, hB⟩ : ∃ B : ByteArray, B = ⟨b.toArray⟩ := ⟨_, rfl⟩
 obtain ⟨C, hC⟩ : ∃ C : ByteArray, C = ⟨c.toArray⟩ := ⟨_, rfl⟩
 rw [← hA, ← hB, ← hC] at hsp
 rw [← hA] at p8
 rw [← hB] at p32
 have HA := Lib.hid hA
 have HB := Lib.hid hB
 have HC := Lib.hid hC
 clear hA hB hC
 go_enter Tryz.func140, Tryz.ntmps140
 go_wp2_with fail
 obtain ⟨W0, hW0⟩ : ∃ W0, w.alloc (Obj.cells #[Value.int IntKind.i64 0, Value.int IntKind.u32 0, Value.int IntKind.u8 0] 34) = W0 := ⟨_, rfl⟩
 have hl0 : Later w W0 := by rw [← hW0]; exact (Later.refl w).alloc _
 have hs0 : W0.heap.size = w.heap.size + 1 := by rw [← hW0]; simp
 rw [hW0]
 refine (hsp _ (hw.later hl0)).mono ?_
 rintro e w1 ⟨rfl, hw1⟩
 obtain ⟨R, hR⟩ : ∃ R, w.heap.size = R := ⟨_, rfl⟩
 obtain ⟨L, hL⟩ : ∃ L, W0.heap.size = L := ⟨_, rfl⟩
 have hl1 : Later w w1 := by rw [hw1]; exact hl0.alloc _
 have hs1 : w1.heap.size = L + 1 := by rw [hw1, ← hL]; simp
 have hRL : R < L := by omega
 have hR1 : R < w1.heap.size := by omega
 have hL1 : L < w1.heap.size := by omega
 have a0 : w1.cell? ⟨R, 0, none⟩ = some (.int .i64 0) := by rw [hw1]; exact cell_at ((Later.refl W0).alloc _) (by rw [← hW0, ← hR]; simp) (show R < W0.heap.size by omega)
 have f0 : w1.frozen? ⟨R, 0, none⟩ = false := by rw [hw1]; exact frz_at ((Later.refl W0).alloc _) (by rw [← hW0, ← hR]; simp) (show R < W0.heap.size by omega)
 have a1 : w1.cell? ⟨R, 1, none⟩ = some (.int .u32 0) := by rw [hw1]; exact cell_at ((Later.refl W0).alloc _) (by rw [← hW0, ← hR]; simp) (show R < W0.heap.size by omega)
 have f1 : w1.frozen? ⟨R, 1, none⟩ = false := by rw [hw1]; exact frz_at ((Later.refl W0).alloc _) (by rw [← hW0, ← hR]; simp) (show R < W0.heap.size by omega)
 have a2 : w1.cell? ⟨R, 2, none⟩ = some (.int .u8 0) := by rw [hw1]; exact cell_at ((Later.refl W0).alloc _) (by rw [← hW0, ← hR]; simp) (show R < W0.heap.size by omega)
 have f2 : w1.frozen? ⟨R, 2, none⟩ = false := by rw [hw1]; exact frz_at ((Later.refl W0).alloc _) (by rw [← hW0, ← hR]; simp) (show R < W0.heap.size by omega)
 have d0 : w1.cell? ⟨L, 0, none⟩ = some (.string A) := by rw [hw1, ← hL]; simp
 have d1 : w1.cell? ⟨L, 1, none⟩ = some (.string B) := by rw [hw1, ← hL]; simp
 have d2 : w1.cell? ⟨L, 2, none⟩ = some (.string C) := by rw [hw1, ← hL]; simp
 rw [hR, hL]
 have hwR : w.heap.size ≤ R := by omega
 clear hw1 hW0 hs0 hs1 hl0 hsp hR hL
 go_wp2_with fail
 refine (p8 _ (hw.later hl1)).mono ?_
 rintro e w2 ⟨⟨v, xe, rfl, hv⟩, hb2⟩
 have a0 := cell_at hb2 a0 hR1
 have f0 := frz_at hb2 f0 hR1
 have d0 := cell_at hb2 d0 hL1
 have a1 := cell_at hb2 a1 hR1
 have f1 := frz_at hb2 f1 hR1
 have d1 := cell_at hb2 d1 hL1
 have a2 := cell_at hb2 a2 hR1
 have f2 := frz_at hb2 f2 hR1
 have d2 := cell_at hb2 d2 hL1
 have hl2 := hl1.trans hb2
 have hR2 := Nat.lt_of_lt_of_le hR1 hb2.size
 have hL2 := Nat.lt_of_lt_of_le hL1 hb2.size
 have HV := Lib.hid hv
 have vle : v ≤ 255 := hv.1
 obtain ⟨vi, hvi⟩ : ∃ vi : Int, vi = (v : Int) := ⟨_, rfl⟩
 have vi0 : 0 ≤ vi := by omega
 have vi1 : vi ≤ 255 := by omega
 rw [← hvi]
 have HVI := Lib.hid hvi
 clear hb2 hl1 hR1 hL1 hv p8 vle hvi
 go_wp2_with fail
 refine (p32 _ (hw.later hl2)).mono ?_
 rintro e w3 ⟨⟨u, ye, rfl, hu⟩, hb3⟩
 have a0 := cell_at hb3 a0 hR2
 have f0 := frz_at hb3 f0 hR2
 have d0 := cell_at hb3 d0 hL2
 have a1 := cell_at hb3 a1 hR2
 have f1 := frz_at hb3 f1 hR2
 have d1 := cell_at hb3 d1 hL2
 have a2 := cell_at hb3 a2 hR2
 have f2 := frz_at hb3 f2 hR2
 have d2 := cell_at hb3 d2 hL2
 have hl3 := hl2.trans hb3
 have hR3 := Nat.lt_of_lt_of_le hR2 hb3.size
 have hL3 := Nat.lt_of_lt_of_le hL2 hb3.size
 have HU := Lib.hid hu
 have ule : u ≤ 4294967295 := hu.1
 obtain ⟨ui, hui⟩ : ∃ ui : Int, ui = (u : Int) := ⟨_, rfl⟩
 have ui0 : 0 ≤ ui := by omega
 have ui1 : ui ≤ 4294967295 := by omega
 rw [← hui]
 have HUI := Lib.hid hui
 clear hb3 hl2 hR2 hL2 hu p32 ule hui
 go_wp2_with fail
 obtain ⟨V, hV⟩ : ∃ V, w3.alloc (Obj.cells #[Value.int IntKind.i64 vi, Value.int IntKind.u32 ui, Value.int IntKind.u8 0] 34) = V := ⟨_, rfl⟩
 obtain ⟨Hb, hHb⟩ : ∃ Hb, w3.heap.size = Hb := ⟨_, rfl⟩
 have hI : RInv w w3 R L Hb vi ui 0 c → True := fun _ => trivial
 clear hI
 have hI0 : RInv w V R L Hb vi ui (rK c 0) c := by
  have hV' : Later w3 V := by rw [← hV]; exact (Later.refl w3).alloc _
  rw [rK_zero]
  refine ⟨hl3.trans hV', ⟨hwR, hRL, by omega, by rw [← hV, ← hHb]; simp⟩, ⟨cell_at hV' a0 hR3, cell_at hV' a1 hR3, cell_at hV' a2 hR3⟩, ⟨frz_at hV' f0 hR3, frz_at hV' f1 hR3, frz_at hV' f2 hR3⟩, ?_, ⟨?_, ?_, ?_⟩, ?_⟩
  ·rw [← HC.out]; exact cell_at hV' d2 hL3
  ·rw [← hV, ← hHb]; simp
  ·rw [← hV, ← hHb]; simp
  ·rw [← hV, ← hHb]; simp
  ·rw [← hV, ← hHb]; simp
 rw [hV, hHb]
 clear hV hHb hl3 hR3 hL3 a0 a1 a2 f0 f1 f2 d0 d1 d2 hwR hRL
 refine (letters_is _).mono ?_
 rintro e w4 ⟨rfl, hb4⟩
 have hI1 := hI0.later hb4
 clear hI0 hb4
 go_wp2_with fail

 have ix0 : ∀ W : World, (Instr.index 191 (.agg #[.string ⟨#[114]⟩, .string ⟨#[119]⟩, .string ⟨#[115]⟩]) (.int .i64 0)).run Tryz.prog W = .ok (.string ⟨#[114]⟩) W := fun W => by kernel_rfl
 have ix1 : ∀ W : World, (Instr.index 191 (.agg #[.string ⟨#[114]⟩, .string ⟨#[119]⟩, .string ⟨#[115]⟩]) (.int .i64 1)).run Tryz.prog W = .ok (.string ⟨#[119]⟩) W := fun W => by kernel_rfl
 have ix2 : ∀ W : World, (Instr.index 191 (.agg #[.string ⟨#[114]⟩, .string ⟨#[119]⟩, .string ⟨#[115]⟩]) (.int .i64 2)).run Tryz.prog W = .ok (.string ⟨#[115]⟩) W := fun W => by kernel_rfl
 have HW := Lib.hid hw
 clear hw
 go_loopw [40] (fun i wr => ∃ j : Nat, j ≤ 3 ∧ i = .int .i64 j ∧ RInv w wr R L Hb vi ui (rK c j) c) (fun i _ => 3 - (RowKit.intOf i).toNat)
 case atStart => exact ⟨0, by omega, rfl, hI1⟩
 case round =>
  obtain ⟨j, hj, rfl, hI⟩ := hrel
  rename World => wk
  clear hI1
  have hI' := hI
  obtain ⟨h1, ⟨h2, h3, h4, h5⟩, ⟨a0, a1, a2⟩, ⟨f0, f1, f2⟩, d2, ⟨b0, b1, b2⟩, f3⟩ := hI'
  rw [← HC.out] at d2
  have hcont := fun ch => Tryz.strings_Contains_one C ch
  rw [show C.data.toList = c by rw [HC.out]] at hcont
  have hj' : j = 0 ∨ j = 1 ∨ j = 2 ∨ j = 3 := by omega
  rcases hj' with rfl | rfl | rfl | rfl
  ·obtain ⟨p, hp⟩ : ∃ p, decide (0 ≤ Lib.indexByte c 114) = p := ⟨_, rfl⟩
   have hcn := fun W1 => hcont 114 W1
   rw [hp] at hcn
   have hst := rK_step0 c p hp
   obtain ⟨Z, hZ⟩ : ∃ Z, rK c 0 = Z := ⟨_, rfl⟩
   obtain ⟨Y, hY⟩ : ∃ Y, rK c 1 = Y := ⟨_, rfl⟩
   rw [hZ] at b2 hI
   rw [hZ, hY] at hst
   have HY := Lib.hid hY
   clear hp hcont hZ hY
   cases p
   ·have hs2 := hst.2 rfl
    clear hst
    go_wp2_with fail
    refine (hcn _).mono ?_
    rintro e w5 ⟨rfl, rfl⟩
    go_wp2_with fail
    go_roundw
    case rel =>
     refine ⟨1, by omega, rfl, ?_⟩
     rw [HY.out]
     rw [← hs2]; exact hI
    case measure => simp [RowKit.intOf]
   ·have hs2 := hst.1 rfl
    clear hst
    go_wp2_with fail
    refine (hcn _).mono ?_
    rintro e w5 ⟨rfl, rfl⟩
    go_wp2_with fail
    go_region
    go_wp2_with fail
    go_roundw
    case rel =>
     refine ⟨1, by omega, rfl, ?_⟩
     rw [HY.out]
     exact (hI.store Y).later (Later.refl _).drew
    case measure => simp [RowKit.intOf]
  ·obtain ⟨p, hp⟩ : ∃ p, decide (0 ≤ Lib.indexByte c 119) = p := ⟨_, rfl⟩
   have hcn := fun W1 => hcont 119 W1
   rw [hp] at hcn
   have hst := rK_step1 c p hp
   obtain ⟨Z, hZ⟩ : ∃ Z, rK c 1 = Z := ⟨_, rfl⟩
   obtain ⟨Y, hY⟩ : ∃ Y, rK c 2 = Y := ⟨_, rfl⟩
   rw [hZ] at b2 hI
   rw [hZ, hY] at hst
   have HY := Lib.hid hY
   clear hp hcont hZ hY
   cases p
   ·have hs2 := hst.2 rfl
    clear hst
    go_wp2_with fail
    refine (hcn _).mono ?_
    rintro e w5 ⟨rfl, rfl⟩
    go_wp2_with fail
    go_roundw
    case rel =>
     refine ⟨2, by omega, rfl, ?_⟩
     rw [HY.out]
     rw [← hs2]; exact hI
    case measure => simp [RowKit.intOf]
   ·have hs2 := hst.1 rfl
    clear hst
    go_wp2_with fail
    refine (hcn _).mono ?_
    rintro e w5 ⟨rfl, rfl⟩
    go_wp2_with fail
    go_region
    go_wp2_with fail
    go_roundw
    case rel =>
     refine ⟨2, by omega, rfl, ?_⟩
     rw [HY.out]
     exact (hI.store Y).later (Later.refl _).drew
    case measure => simp [RowKit.intOf]
  ·obtain ⟨p, hp⟩ : ∃ p, decide (0 ≤ Lib.indexByte c 115) = p := ⟨_, rfl⟩
   have hcn := fun W1 => hcont 115 W1
   rw [hp] at hcn
   have hst := rK_step2 c p hp
   obtain ⟨Z, hZ⟩ : ∃ Z, rK c 2 = Z := ⟨_, rfl⟩
   obtain ⟨Y, hY⟩ : ∃ Y, rK c 3 = Y := ⟨_, rfl⟩
   rw [hZ] at b2 hI
   rw [hZ, hY] at hst
   have HY := Lib.hid hY
   clear hp hcont hZ hY
   cases p
   ·have hs2 := hst.2 rfl
    clear hst
    go_wp2_with fail
    refine (hcn _).mono ?_
    rintro e w5 ⟨rfl, rfl⟩
    go_wp2_with fail
    go_roundw
    case rel =>
     refine ⟨3, by omega, rfl, ?_⟩
     rw [HY.out]
     rw [← hs2]; exact hI
    case measure => simp [RowKit.intOf]
   ·have hs2 := hst.1 rfl
    clear hst
    go_wp2_with fail
    refine (hcn _).mono ?_
    rintro e w5 ⟨rfl, rfl⟩
    go_wp2_with fail
    go_region
    go_wp2_with fail
    go_roundw
    case rel =>
     refine ⟨3, by omega, rfl, ?_⟩
     rw [HY.out]
     exact (hI.store Y).later (Later.refl _).drew
    case measure => simp [RowKit.intOf]
  ·have HREAD := Lib.hid (show ∀ (t g : Nat) (r : Int), okH t g r = true → g ≤ 4294967295 → a ++ 46 :: (b ++ 46 :: c) = showH t g r → t = v ∧ g = u ∧ r = rK c 3 from fun t g r ho hg h =>
    read_match a b c HN.out.1 HN.out.2.1 v u (by have := HV.out; rw [HA.out] at this; simpa using this) (by have := HU.out; rw [HB.out] at this; simpa using this) t g r ho hg h)
   obtain ⟨Z, hZ⟩ : ∃ Z, rK c 3 = Z := ⟨_, rfl⟩
   rw [hZ] at b2 HREAD
   obtain ⟨o, ho⟩ : ∃ o, okH vi ui Z = o := ⟨_, rfl⟩
   have ule : u ≤ 4294967295 := HU.out.1
   have hLw := HW.out.later h1
   clear hcont hI HC hZ
   cases o
   ·have hx := HE.out.of_not (fun t g r ho' hg' h' => by
     obtain ⟨rfl, rfl, rfl⟩ := HREAD.out t g r ho' hg' h'
     rw [HVI.out, HUI.out, ho'] at ho
     cases ho)
    obtain ⟨rfl, rfl, rfl, rfl⟩ := hx
    have HO := Lib.hid ho
    clear ho ule HE HREAD
    go_wp2_with fail
    refine (Show_no _ _ _ _ HO.out).mono ?_
    rintro e w5 ⟨rfl, hb5⟩
    have hR5 : R < wk.heap.size := by omega
    have g0 := cell_at hb5 a0 hR5
    have g1 := cell_at hb5 a1 hR5
    have g2 := cell_at hb5 a2 hR5
    have e0 := frz_at hb5 f0 hR5
    have e1 := frz_at hb5 f1 hR5
    have e2 := frz_at hb5 f2 hR5
    have h9 := h1.trans hb5
    clear hb5 a0 a1 a2 f0 f1 f2 b0 b1 b2 d2 f3 hLw
    go_wp2_with fail
    refine bodyPost_ret (v := .tuple #[.agg #[.int .i64 0, .int .u32 0, .int .u8 0], .int .i64 7]) (by simp [results, Tryz.results140, go_sem, g0, g1, g2]) rfl ⟨rfl, ?_⟩
    exact ((h9.setCell _ _ h2).setCell _ _ h2).setCell _ _ h2
   ·have hsh := Show_yes v u Z wk (by rw [← HVI.out, ← HUI.out]; exact ho) ule hLw.1
    rw [← HVI.out, ← HUI.out] at hsh
    obtain ⟨T, hT⟩ : ∃ T : ByteArray, T = ⟨(showH v u Z).toArray⟩ := ⟨_, rfl⟩
    rw [← hT] at hsh
    by_cases hq : a ++ 46 :: (b ++ 46 :: c) = showH v u Z
    ·have hx := HE.out.of_show (by rw [← HVI.out, ← HUI.out]; exact ho) ule hq
     rw [← HVI.out, ← HUI.out] at hx
     obtain ⟨rfl, rfl, rfl, rfl⟩ := hx
     have hTS : T = S := by rw [hT, HS.out, hq]
     have hne : (T.toList == S.toList) = true := by rw [hTS]; simp
     clear ho ule HE HREAD hT hq hTS
     go_wp2_with fail
     refine hsh.mono ?_
     rintro e w5 ⟨rfl, hb5⟩
     have hR5 : R < wk.heap.size := by omega
     have g0 := cell_at hb5 a0 hR5
     have g1 := cell_at hb5 a1 hR5
     have g2 := cell_at hb5 a2 hR5
     have e0 := frz_at hb5 f0 hR5
     have e1 := frz_at hb5 f1 hR5
     have e2 := frz_at hb5 f2 hR5
     have i0 := cell_at hb5 b0 h5
     have i1 := cell_at hb5 b1 h5
     have i2 := cell_at hb5 b2 h5
     have h9 := h1.trans hb5
     clear hb5 a0 a1 a2 f0 f1 f2 b0 b1 b2 d2 f3 hLw hsh
     go_wp2_with fail
     refine bodyPost_ret (v := .tuple #[.agg #[.int .i64 x, .int .u32 y, .int .u8 z], .int .i64 0]) (by simp [results, Tryz.results140, go_sem, g0, g1, g2]) rfl ⟨rfl, ?_⟩
     exact ((h9.setCell _ _ h2).setCell _ _ h2).setCell _ _ h2
    ·have hx := HE.out.of_not (fun t g r ho' hg' h' => by
      obtain ⟨rfl, rfl, rfl⟩ := HREAD.out t g r ho' hg' h'
      exact hq h')
     obtain ⟨rfl, rfl, rfl, rfl⟩ := hx
     have hne : (T.toList == S.toList) = false := by
      rw [Lib.toList_data, Lib.toList_data, hT, HS.out, beq_eq_false_iff_ne]
      intro h
      exact hq (by simpa using h.symm)
     clear ho ule HE HREAD hT hq
     go_wp2_with fail
     refine hsh.mono ?_
     rintro e w5 ⟨rfl, hb5⟩
     have hR5 : R < wk.heap.size := by omega
     have g0 := cell_at hb5 a0 hR5
     have g1 := cell_at hb5 a1 hR5
     have g2 := cell_at hb5 a2 hR5
     have e0 := frz_at hb5 f0 hR5
     have e1 := frz_at hb5 f1 hR5
     have e2 := frz_at hb5 f2 hR5
     have h9 := h1.trans hb5
     clear hb5 a0 a1 a2 f0 f1 f2 b0 b1 b2 d2 f3 hLw hsh
     go_wp2_with fail
     refine bodyPost_ret (v := .tuple #[.agg #[.int .i64 0, .int .u32 0, .int .u8 0], .int .i64 7]) (by simp [results, Tryz.results140, go_sem, g0, g1, g2]) rfl ⟨rfl, ?_⟩
     exact ((h9.setCell _ _ h2).setCell _ _ h2).setCell _ _ h2
end Go.Proofs.YtkbedajbbakihaaGreatDoor

/-
 handle.Read at every short text; awake, the example. Conditions: the listed variables read as laid.
-/
namespace Go.Proofs.YtkbedajbbakihaaGreatDoor
open Go.RowKit Go.Sort Go.Lib

theorem Read_is (l : List UInt8) (hl : l.length ≤ 1000000000) (x y z k : Int) (hE : ReadEnd l x y z k) (w : World) (hw : Laid w) :
  Calls Tryz.prog 140 #[.string ⟨l.toArray⟩] w fun e w' => e = .returned (.tuple #[.agg #[.int .i64 x, .int .u32 y, .int .u8 z], .int .i64 k]) ∧ Later w w' := by
 by_cases h : l.count 46 = 2
 ·obtain ⟨a, b, c, rfl, ha, hb, hc⟩ := three_parts l h
  exact Read_parts a b c ha hb hc hl x y z k hE w hw
 ·obtain ⟨rfl, rfl, rfl, rfl⟩ := hE.of_not (fun t g r _ _ e => h (by rw [e]; exact showH_count t g r))
  exact Read_not l hl h w hw

end Go.Proofs.YtkbedajbbakihaaGreatDoor

/-
 The reader: its state, and next, walked. Conditions: the reader is one of the call's own.
-/
namespace Go.Proofs.YtkbedajbbakihaaGreatDoor
open Go.RowKit
set_option linter.unusedSimpArgs false
set_option linter.unusedVariables false

/-- the panic of words that do not fit -/
def wrongE : Ending := .panicked [{ v := .iface 132 (.agg #[]), recovered := false }]
/-- w' is w but for block b, new blocks and draws -/
def Only (b : Nat) (w w' : World) : Prop := Kept w.heap.size b w w'
theorem Only.refl (b : Nat) (w : World) : Only b w w := Kept.refl _ _ _
theorem Only.trans {b : Nat} {x y z : World} (h : Only b x y) (k : Only b y z) : Only b x z :=
 ⟨k.os.trans h.os, k.tape.trans h.tape, k.output.trans h.output, Nat.le_trans h.size k.size, fun i hi hb => (k.block i (Nat.lt_of_lt_of_le hi h.size) hb).trans (h.block i hi hb)⟩
theorem Only.of_later {b : Nat} {w w' : World} (h : Later w w') : Only b w w' := Kept.of_later h (Nat.le_refl _)
theorem Only.later {b : Nat} {w0 x y : World} (h : Only b x y) (hl : Later w0 x) (hb : w0.heap.size ≤ b) : Later w0 y :=
 ⟨h.os.trans hl.os, h.tape.trans hl.tape, h.output.trans hl.output, Nat.le_trans hl.size h.size, fun k hk => (h.block k (Nat.lt_of_lt_of_le hk hl.size) (by omega)).trans (hl.block k hk)⟩
theorem Only.cell {b : Nat} {x y : World} (h : Only b x y) {k o : Nat} {v : Value} (hk : k < x.heap.size) (hb : k ≠ b) (hc : x.cell? ⟨k, o, none⟩ = some v) : y.cell? ⟨k, o, none⟩ = some v :=
 Kept.cell h hk hb hc
/-- what a reader in block b may count on -/
def EnvB (b : Nat) (w : World) : Prop := b < w.heap.size ∧ ∃ w0, Laid w0 ∧ Later w0 w ∧ w0.heap.size ≤ b
theorem EnvB.laid {b : Nat} {w : World} (h : EnvB b w) : Laid w := by
 obtain ⟨_, w0, h1, h2, _⟩ := h
 exact h1.later h2
theorem EnvB.only {b : Nat} {w w' : World} (h : EnvB b w) (k : Only b w w') : EnvB b w' := by
 obtain ⟨h0, w0, h1, h2, h3⟩ := h
 exact ⟨Nat.lt_of_lt_of_le h0 k.size, w0, h1, k.later h2 h3, h3⟩
def wrd (ws : List (List UInt8)) (k : Nat) : List UInt8 := ws.getD k []
/-- v holds the words ws, away from block b, below block K -/
def Wds (b K : Nat) (w : World) (v : Value) (ws : List (List UInt8)) : Prop :=
 ∃ wb off cap, v = .slice (some ⟨wb, off, none⟩) ws.length cap ∧ ws.length ≤ cap ∧ cap ≤ 1000000000 ∧ wb < K ∧ wb ≠ b ∧ ∀ i, i < ws.length → w.cell? ⟨wb, off + i, none⟩ = some (.string ⟨(wrd ws i).toArray⟩)
/-- the reader in block b: its row R, its words ws; it and they lie below block K -/
def RdW (b K : Nat) (R : Array Value) (ws : List (List UInt8)) (w : World) : Prop :=
 EnvB b w ∧ (b < K ∧ K ≤ w.heap.size) ∧ R.size = 30 ∧ w.heap[b]? = some (.cells R 83 (0, 0)) ∧ ∃ v, R[0]? = some v ∧ Wds b K w v ws ∧ ∀ x ∈ ws, x.length ≤ 90000000
theorem RdW.below {b K : Nat} {R : Array Value} {ws : List (List UInt8)} {w w' : World} (h : RdW b K R ws w) (hl : Below K w w') : RdW b K R ws w' := by
 obtain ⟨⟨a0, w0, a1, a2, a3⟩, ⟨b0, b1⟩, h2, h3, v, h4, ⟨wb, off, cap, c1, c2, c3, c4, c5, c6⟩, h6⟩ := h
 have hs : w.heap.size ≤ w'.heap.size := hl.size
 refine ⟨⟨by omega, w0, a1, Below.trans a2 (Below.mono hl (by omega)), a3⟩, ⟨b0, by omega⟩, h2, (hl.block b b0).trans h3, v, h4, ⟨wb, off, cap, c1, c2, c3, c4, c5, fun i hi => ?_⟩, h6⟩
 exact (Below.cell hl (p := ⟨wb, off + i, none⟩) c4).trans (c6 i hi)
theorem RdW.later {b K : Nat} {R : Array Value} {ws : List (List UInt8)} {w w' : World} (h : RdW b K R ws w) (hl : Later w w') : RdW b K R ws w' :=
 h.below (Below.mono hl h.2.1.2)
theorem Wds.only {b K : Nat} {w w' : World} {v : Value} {ws : List (List UInt8)} (h : Wds b K w v ws) (k : Only b w w') (hK : K ≤ w.heap.size) : Wds b K w' v ws := by
 obtain ⟨wb, off, cap, h1, h2, h3, h4, h5, h6⟩ := h
 exact ⟨wb, off, cap, h1, h2, h3, h4, h5, fun i hi => k.cell (by omega) h5 (h6 i hi)⟩
/-- a store into a new block -/
theorem Only.setNew {b : Nat} {w x : World} (h : Only b w x) (N o : Nat) (u : Value) (hN : w.heap.size ≤ N) : Only b w (x.setCell ⟨N, o, none⟩ u) := by
 have h1 : Below N x (x.setCell ⟨N, o, none⟩ u) := (Below.refl N x).setCell (p := ⟨N, o, none⟩) (Nat.le_refl _) u
 exact ⟨h1.os.trans h.os, h1.tape.trans h.tape, h1.output.trans h.output, Nat.le_trans h.size h1.size, fun k hk hb => (h1.block k (by omega)).trans (h.block k hk hb)⟩
/-- a cell of the reader's row is stored -/
theorem RdW.store {b K : Nat} {R : Array Value} {ws : List (List UInt8)} {w : World} (h : RdW b K R ws w) (o : Nat) (u : Value) (ho : 1 ≤ o) : RdW b K (R.setIfInBounds o u) ws (w.setCell ⟨b, o, none⟩ u) ∧ Only b w (w.setCell ⟨b, o, none⟩ u) := by
 obtain ⟨h1, hK, h2, h3, v, h4, h5, h6⟩ := h
 have hk : Only b w (w.setCell ⟨b, o, none⟩ u) := by
  rw [setCell_eq_setRow w b o _ 83 (0, 0) _ h3]
  exact ⟨rfl, rfl, rfl, by simp, fun k _ hk => setRow_other w b k _ hk⟩
 refine ⟨⟨h1.only hk, ⟨hK.1, by simpa using hK.2⟩, by simpa using h2, ?_, v, ?_, h5.only hk hK.2, h6⟩, hk⟩
 ·rw [setCell_eq_setRow w b o _ 83 (0, 0) _ h3]
  exact setRow_heap w b _ _ 83 (0, 0) h3
 ·rw [Array.getElem?_setIfInBounds_ne (by omega)]
  exact h4
theorem next_none (b K : Nat) (R : Array Value) (w : World) (h : RdW b K R [] w) :
  Calls Tryz.prog 45 #[.pointer (some ⟨b, 0, none⟩)] w fun e w' => e = wrongE ∧ w = w' := by
 obtain ⟨h1, _, h2, h3, v, h4, ⟨wb, off, cap, rfl, h5, _⟩, _⟩ := h
 have c0 : w.cell? ⟨b, 0, none⟩ = some (.slice (some ⟨wb, off, none⟩) 0 cap) := by rw [Lib.cell_of_heap h3]; exact h4
 clear h1 h2 h3 h4 h5
 go_enter Tryz.func45, Tryz.ntmps45
 go_wp2_with fail
 refine (must_false _).mono ?_
 rintro e w1 ⟨rfl, rfl⟩
 go_wp2_with fail
 exact ⟨rfl, rfl, rfl⟩
set_option maxRecDepth 100000 in
theorem next_some (b K : Nat) (R : Array Value) (x : List UInt8) (ws : List (List UInt8)) (w : World) (h : RdW b K R (x :: ws) w) :
  Calls Tryz.prog 45 #[.pointer (some ⟨b, 0, none⟩)] w fun e w' => e = .returned (.string ⟨x.toArray⟩) ∧ (Only b w w' ∧ ∃ v', RdW b K (R.setIfInBounds 0 v') ws w') := by
 obtain ⟨h1, hK, h2, h3, v, h4, ⟨wb, off, cap, rfl, h5, h6, h7, h8, h9⟩, h10⟩ := h
 have c0 : w.cell? ⟨b, 0, none⟩ = some (.slice (some ⟨wb, off, none⟩) (ws.length + 1) cap) := by rw [Lib.cell_of_heap h3]; exact h4
 have f0 : w.frozen? ⟨b, 0, none⟩ = false := Lib.frozen_of_heap h3 0
 have c1 : w.cell? ⟨wb, off, none⟩ = some (.string ⟨x.toArray⟩) := h9 0 (by simp)
 obtain ⟨n, hn⟩ : ∃ n, n = ws.length + 1 := ⟨_, rfl⟩
 rw [← hn] at c0
 have n0 : 0 < n := by omega
 obtain ⟨V, hV⟩ : ∃ V, Go.sliced (some ⟨wb, off, none⟩) 1 n cap 1 = V := ⟨_, rfl⟩
 have hsl : ∀ W : World, (Instr.slice 29 (.slice (some ⟨wb, off, none⟩) n cap) (some (.int .i64 1)) none none).run Tryz.prog W = .ok V W := fun W => by
  rw [run_slice_l (P := Tryz.prog) W 29 (some ⟨wb, off, none⟩) n cap Tryz.underlying29 .i64 1 (by omega) (by omega), ← hV]
  rfl
 have hW : ∃ off', V = .slice (some ⟨wb, off', none⟩) ws.length (cap - 1) ∧ ∀ i, i < ws.length → off' + i = off + (i + 1) := by
  rw [← hV]
  unfold Go.sliced
  have e : n - 1 = ws.length := by omega
  rw [e]
  by_cases hc : cap = 1
  ·rw [if_pos hc]
   exact ⟨off, rfl, fun i hi => by simp at h5; omega⟩
  ·rw [if_neg hc]
   exact ⟨off + 1, rfl, fun i hi => by omega⟩
 have HP := Lib.hid (show Only b w (w.setCell ⟨b, 0, none⟩ V) ∧ ∃ v', RdW b K (R.setIfInBounds 0 v') ws (w.setCell ⟨b, 0, none⟩ V) by
  have hk : Only b w (w.setCell ⟨b, 0, none⟩ V) := by
   rw [setCell_eq_setRow w b 0 _ 83 (0, 0) _ h3]
   exact ⟨rfl, rfl, rfl, by simp, fun k _ hk => setRow_other w b k _ hk⟩
  obtain ⟨off', hV', hoff⟩ := hW
  refine ⟨hk, V, h1.only hk, ⟨hK.1, by simpa using hK.2⟩, by simpa using h2, ?_, V, ?_, ⟨wb, off', cap - 1, hV', by simp at h5; omega, by omega, h7, h8, fun i hi => ?_⟩, fun y hy => h10 y (List.mem_cons_of_mem _ hy)⟩
  ·rw [setCell_eq_setRow w b 0 _ 83 (0, 0) _ h3]
   exact setRow_heap w b _ _ 83 (0, 0) h3
  ·rw [Array.getElem?_setIfInBounds_self_of_lt (by omega)]
  ·rw [hoff i hi]
   exact hk.cell (Nat.lt_of_lt_of_le h7 hK.2) h8 (h9 (i + 1) (by simp; omega)))
 obtain ⟨off', hV', _⟩ := hW
 rw [hV'] at HP hsl
 clear hn hV hK h1 h2 h3 h4 h5 h6 h7 h8 h9 h10 hV'
 go_enter Tryz.func45, Tryz.ntmps45
 go_wp2_with fail
 refine (must_true _).mono ?_
 rintro e w1 ⟨rfl, rfl⟩
 go_wp2_with fail
 go_ret
 exact ⟨rfl, HP.out⟩
end Go.Proofs.YtkbedajbbakihaaGreatDoor
