/-
 Texts of this proof, put together (Wr): each part's first words say what it holds. Conditions: as each part says.
-/
import Derived.Test.YtkbedajbbakihaaGreatDoorQa2
import Derived.Test.YtkbedajbbakihaaGreatDoorQb
import Derived.Laws.AppendOwn
import Derived.OwnWalk
import Derived.Laws.IdiomStrings
import Derived.Lib.BufferRead
/-
 The reference's Word, walked. Conditions: the string has at most 10^9 bytes.
-/
namespace Go.Proofs.YtkbedajbbakihaaGreatDoor
open Go.RowKit Go.Sort Go.Lib
set_option linter.unusedSimpArgs false
set_option linter.unusedVariables false

theorem mixedW : Tryz.prog.follows .mixedOrders = true := by kernel_rfl
theorem addr_addW (b j : Nat) : (⟨b, 0, none⟩ : Addr).add j = ⟨b, j, none⟩ := by
 unfold Addr.add; split <;> simp_all
/-- string(b) at a row of the call's own -/
theorem conv_own {w : World} {base n : Nat} {v : Value} {l : List UInt8} (h : w.ownsRow base 5 1 v n (Lib.byteCells l)) (hn : n = l.length) : (convert 22 9 v).run Tryz.prog w = .ok (.string ⟨l.toArray⟩) w := by
 subst hn
 rcases h.2 with ⟨rfl, h0⟩ | ⟨g, cap, cur, rfl, _, hg, hc, _, hs, ht⟩
 ·obtain rfl : l = [] := List.length_eq_zero_iff.1 h0
  exact Lib.run_convert_nil_bytes (P := Tryz.prog) w 22 9 5 0 Tryz.underlying22 Tryz.underlying5 Tryz.underlying9
 ·exact run_convert_bytes_back (P := Tryz.prog) w 22 9 5 ⟨g, 0, none⟩ cap l Tryz.underlying22 Tryz.underlying5 Tryz.underlying9 (Lib.bytes_of_row hg (by rwa [Nat.mul_one] at ht))
/-- what the reference's loop keeps -/
def WRI (w : World) (l : List UInt8) (k : Nat) (v : Value) (wr : World) : Prop := Later w wr ∧ wr.ownsRow w.heap.size 5 1 v ((l.take k).flatMap wordB).length (Lib.byteCells ((l.take k).flatMap wordB))
theorem later_grown {w x y : World} (h : Later w x) {g : Value} {n : Nat} {e : TypeId} {s : Nat} {xs : List Value} (hg : x.ownsRow w.heap.size e s g n xs) (hk : x.grownBy y g.ownBlock) : Later w y :=
 ⟨hk.os.trans h.os, hk.tape.trans h.tape, hk.output.trans h.output, Nat.le_trans h.size hk.size, fun i hi => (hk.block i (by have := h.size; omega) (fun e => by have := (hg.lt i e.symm).1; omega)).trans (h.block i hi)⟩
theorem slice_of_own {w : World} {base n s : Nat} {e : TypeId} {v : Value} {xs : List Value} (h : w.ownsRow base e s v n xs) : ∃ a c, v = .slice a n c := by
 rcases h.2 with ⟨rfl, h0⟩ | ⟨g, cap, cur, rfl, _⟩
 ·exact ⟨none, 0, by rw [h0]⟩
 ·exact ⟨_, _, rfl⟩
set_option maxRecDepth 100000 in
set_option maxHeartbeats 4000000 in
theorem refWord_some (s : ByteArray) (hs : s.size ≤ 1000000000) (h0 : s.size ≠ 0) (w : World) :
  Calls Tryz.prog 13 #[.string s] w fun e w' => e = .returned (.string ⟨(word s.data.toList).toArray⟩) ∧ Later w w' := by
 have hemp : s.toList.isEmpty = false := by
  rw [← decide_eq_emptyBytes]
  exact decide_eq_false (fun h => h0 (by rw [h]; rfl))
 obtain ⟨i0, hi, hz0, hz1, hz2⟩ := info_parts infoB
 have HI := Lib.hid (And.intro hi (And.intro hz0 (And.intro hz1 hz2)))
 have HI0 := Lib.hid (show WRI w s.data.toList 0 (.slice none 0 0) w from ⟨Later.refl w, by simpa [Lib.byteCells] using World.ownsRow_nil w w.heap.size 5 1⟩)
 clear hi hz0 hz1 hz2
 go_enter Tryz.func13, Tryz.ntmps13
 go_wp2_with fail
 go_loopw [3, 4] (fun v i wr => ∃ k : Nat, k ≤ s.size ∧ i = .int .i64 k ∧ WRI w s.data.toList k v wr) (fun _ i _ => s.size - (RowKit.intOf i).toNat)
 case atStart => exact ⟨0, by omega, rfl, HI0.out⟩
 case round =>
  obtain ⟨k, hk, rfl, hw⟩ := hrel
  rename World => wk
  have HW := Lib.hid hw
  clear hw HI0
  have hlen := flat_len (s.data.toList.take k)
  have hlk : (s.data.toList.take k).length ≤ k := List.length_take_le _ _
  by_cases hlt : k < s.size
  ·obtain ⟨q, hq⟩ : ∃ q, itsf s[k] = q := ⟨_, rfl⟩
   obtain ⟨x, hx⟩ : ∃ x : Int, x = (s[k].toNat : Int) := ⟨_, rfl⟩
   have hp := fun w1 => itself_is (s[k].toNat : Int) q (by rw [itsI_of, hq]) w1
   have x0 : 0 ≤ x := by omega
   have x1 : x ≤ 255 := by have := s[k].toNat_lt; omega
   have HX := Lib.hid hx
   have HQ := Lib.hid hq
   have hts : (s.data.toList.take (k + 1)).flatMap wordB = (s.data.toList.take k).flatMap wordB ++ wordB s[k] := by rw [later_take_snoc s k hlt, List.flatMap_append]; simp
   have HTS := Lib.hid hts
   clear hq hx hts
   obtain ⟨av, cv, rfl⟩ := slice_of_own HW.out.2
   obtain ⟨n, hn⟩ : ∃ n, ((s.data.toList.take k).flatMap wordB).length = n := ⟨_, rfl⟩
   have HN := Lib.hid hn
   have hnb : n ≤ 3000000000 := by omega
   have HOW := Lib.hid (show wk.ownsRow w.heap.size 5 1 (.slice av n cv) n (Lib.byteCells ((s.data.toList.take k).flatMap wordB)) by have h := HW.out.2; rwa [HN.out] at h)
   rw [hn]
   clear hn hlen hlk
   cases q
   ·obtain ⟨h, hh⟩ : ∃ h : Nat, h = s[k].toNat / 16 := ⟨_, rfl⟩
    obtain ⟨l, hl⟩ : ∃ l : Nat, l = s[k].toNat % 16 := ⟨_, rfl⟩
    have HWB := Lib.hid (show wordB s[k] = [37, hexd h, hexd l] by unfold wordB; rw [HQ.out, hh, hl]; rfl)
    have HD1 := Lib.hid (fun W => digit_is h (by have := s[k].toNat_lt; omega) ((s[k].toNat : Int) / 16) (by omega) W)
    have HD2 := Lib.hid (fun W => digit_is l (by omega) ((s[k].toNat : Int) % 16) (by omega) W)
    have hb0 : 0 ≤ (s[k].toNat : Int) := by omega
    have hb9 : (s[k].toNat : Int) ≤ 255 := by have := s[k].toNat_lt; omega
    clear hh hl
    go_wp2_with fail
    refine (hp wk).mono ?_
    rintro e w1 ⟨rfl, hw1⟩
    rw [hw1]
    clear hw1 hp
    go_upto_region 9 with fail
    have hr1 : IntKind.i64.wrap (s[k].toNat : Int) = (s[k].toNat : Int) := IntWalk.i64_in _ (by omega)
    have hr2 : IntKind.i64.wrap ((s[k].toNat : Int) / 16) = (s[k].toNat : Int) / 16 := IntWalk.i64_in _ (by omega)
    have hr3 : IntKind.i64.wrap ((s[k].toNat : Int) % 16) = (s[k].toNat : Int) % 16 := IntWalk.i64_in _ (by omega)
    refine wp_region_iv mixedW (fun D' a' W' => ∃ y3 x23 x24 x25 x26 x27 x28 x29 x30 x31 x32 x33 x34 x35 x36 x37, a' = ⟨#[.string s, undef, .string ⟨#[]⟩, y3, .int .i64 k, .string s, .bool false, .int .i64 k, .string s, .int .i64 s.size, .bool true, u11, u12, .string s, .int .i64 k, .int .u8 (s[k].toNat : Int), .bool false, u17, u18, u19, u20, u21, u22, x23, x24, x25, x26, x27, x28, x29, x30, x31, x32, x33, x34, x35, x36, x37, undef, undef], []⟩ ∧ (D' 15 = false → y3 = .slice av n cv) ∧ (D' 14 = false → Later wk W') ∧ (D' 13 = true → D' 14 = false → ∃ Z, x36 = .slice (some ⟨Z, 0, none⟩) 3 3 ∧ W'.heap[Z]? = some (.cells #[.int .u8 37, .int .u8 ((hexd h).toNat : Int), .int .u8 ((hexd l).toNat : Int)] 5 (0, 0))) ∧ (D' 14 = true → Later w W' ∧ W'.ownsRow w.heap.size 5 1 x37 (n + 3) (Lib.byteCells ((s.data.toList.take k).flatMap wordB) ++ [.int .u8 37, .int .u8 ((hexd h).toNat : Int), .int .u8 ((hexd l).toNat : Int)])) ∧ (D' 0 = true → x23 = .slice av n cv) ∧ (D' 1 = true → x24 = .string s) ∧ (D' 2 = true → x25 = .int .i64 k) ∧ (D' 3 = true → x26 = .int .u8 (s[k].toNat : Int)) ∧ (D' 4 = true → x27 = .int .i64 (s[k].toNat : Int)) ∧ (D' 5 = true → x28 = .int .i64 ((s[k].toNat : Int) / 16)) ∧ (D' 6 = true → x29 = .int .u8 ((hexd h).toNat : Int)) ∧ (D' 7 = true → x30 = .string s) ∧ (D' 8 = true → x31 = .int .i64 k) ∧ (D' 9 = true → x32 = .int .u8 (s[k].toNat : Int)) ∧ (D' 10 = true → x33 = .int .i64 (s[k].toNat : Int)) ∧ (D' 11 = true → x34 = .int .i64 ((s[k].toNat : Int) % 16)) ∧ (D' 12 = true → x35 = .int .u8 ((hexd l).toNat : Int)) ∧ (D' 15 = true → y3 = x37)) (by kernel_rfl) ?_ ?_ ?_
    ·exact ⟨.slice av n cv, u23, u24, u25, u26, u27, u28, u29, u30, u31, u32, u33, u34, u35, u36, u37, rfl, (fun _ => rfl), (fun _ => (Later.refl wk).drew), (fun h => by cases h), (fun h => by cases h), (fun h => by cases h), (fun h => by cases h), (fun h => by cases h), (fun h => by cases h), (fun h => by cases h), (fun h => by cases h), (fun h => by cases h), (fun h => by cases h), (fun h => by cases h), (fun h => by cases h), (fun h => by cases h), (fun h => by cases h), (fun h => by cases h), (fun h => by cases h)⟩
    ·intro i D' a' W' hi hDi hdep hcl hI
     obtain ⟨y3, x23, x24, x25, x26, x27, x28, x29, x30, x31, x32, x33, x34, x35, x36, x37, rfl, gY, gW, gZ, gE, f0, f1, f2, f3, f4, f5, f6, f7, f8, f9, f10, f11, f12, f15⟩ := hI
     have hi' : i = 0 ∨ i = 1 ∨ i = 2 ∨ i = 3 ∨ i = 4 ∨ i = 5 ∨ i = 6 ∨ i = 7 ∨ i = 8 ∨ i = 9 ∨ i = 10 ∨ i = 11 ∨ i = 12 ∨ i = 13 ∨ i = 14 ∨ i = 15 := by
      have : i < 16 := hi
      omega
     rcases hi' with rfl | rfl | rfl | rfl | rfl | rfl | rfl | rfl | rfl | rfl | rfl | rfl | rfl | rfl | rfl | rfl
     ·have h14 := hcl.no hDi (k := 14) (by decide) (by kernel_rfl)
      have h15 := hcl.no h14 (k := 15) (by decide) (by kernel_rfl)
      have q := gY h15
      subst q
      refine wpOp_step rfl (fun K' hK' => ?_)
      rw [if_pos (by rfl)]
      go_simp
      exact hK' _ _ ⟨_, _, x24, x25, x26, x27, x28, x29, x30, x31, x32, x33, x34, x35, x36, x37, rfl, (fun _ => rfl), gW, gZ, gE, (fun _ => rfl), f1, f2, f3, f4, f5, f6, f7, f8, f9, f10, f11, f12, f15⟩
     ·skip
      refine wpOp_step rfl (fun K' hK' => ?_)
      rw [if_pos (by rfl)]
      go_simp
      exact hK' _ _ ⟨y3, x23, _, x25, x26, x27, x28, x29, x30, x31, x32, x33, x34, x35, x36, x37, rfl, gY, gW, gZ, gE, f0, (fun _ => rfl), f2, f3, f4, f5, f6, f7, f8, f9, f10, f11, f12, f15⟩
     ·skip
      refine wpOp_step rfl (fun K' hK' => ?_)
      rw [if_pos (by rfl)]
      go_simp
      exact hK' _ _ ⟨y3, x23, x24, _, x26, x27, x28, x29, x30, x31, x32, x33, x34, x35, x36, x37, rfl, gY, gW, gZ, gE, f0, f1, (fun _ => rfl), f3, f4, f5, f6, f7, f8, f9, f10, f11, f12, f15⟩
     ·have q := f1 (hdep 1 (by kernel_rfl))
      subst q
      have q := f2 (hdep 2 (by kernel_rfl))
      subst q
      refine wpOp_step rfl (fun K' hK' => ?_)
      rw [if_pos (by rfl)]
      go_simp
      exact hK' _ _ ⟨y3, x23, _, _, _, x27, x28, x29, x30, x31, x32, x33, x34, x35, x36, x37, rfl, gY, gW, gZ, gE, f0, (fun _ => rfl), (fun _ => rfl), (fun _ => rfl), f4, f5, f6, f7, f8, f9, f10, f11, f12, f15⟩
     ·have q := f3 (hdep 3 (by kernel_rfl))
      subst q
      refine wpOp_step rfl (fun K' hK' => ?_)
      rw [if_pos (by rfl)]
      go_simp
      exact hK' _ _ ⟨y3, x23, x24, x25, _, _, x28, x29, x30, x31, x32, x33, x34, x35, x36, x37, rfl, gY, gW, gZ, gE, f0, f1, f2, (fun _ => rfl), (fun _ => rfl), f5, f6, f7, f8, f9, f10, f11, f12, f15⟩
     ·have q := f4 (hdep 4 (by kernel_rfl))
      subst q
      refine wpOp_step rfl (fun K' hK' => ?_)
      rw [if_pos (by rfl)]
      go_simp
      exact hK' _ _ ⟨y3, x23, x24, x25, x26, _, _, x29, x30, x31, x32, x33, x34, x35, x36, x37, rfl, gY, gW, gZ, gE, f0, f1, f2, f3, (fun _ => rfl), (fun _ => rfl), f6, f7, f8, f9, f10, f11, f12, f15⟩
     ·have q := f5 (hdep 5 (by kernel_rfl))
      subst q
      refine wpOp_step rfl (fun K' hK' => ?_)
      rw [if_pos (by rfl)]
      go_simp
      refine (HD1.out _).mono ?_
      rintro e W'' ⟨rfl, rfl⟩
      exact hK' _ _ ⟨y3, x23, x24, x25, x26, x27, _, _, x30, x31, x32, x33, x34, x35, x36, x37, rfl, gY, gW, gZ, gE, f0, f1, f2, f3, f4, (fun _ => rfl), (fun _ => rfl), f7, f8, f9, f10, f11, f12, f15⟩
     ·skip
      refine wpOp_step rfl (fun K' hK' => ?_)
      rw [if_pos (by rfl)]
      go_simp
      exact hK' _ _ ⟨y3, x23, x24, x25, x26, x27, x28, x29, _, x31, x32, x33, x34, x35, x36, x37, rfl, gY, gW, gZ, gE, f0, f1, f2, f3, f4, f5, f6, (fun _ => rfl), f8, f9, f10, f11, f12, f15⟩
     ·skip
      refine wpOp_step rfl (fun K' hK' => ?_)
      rw [if_pos (by rfl)]
      go_simp
      exact hK' _ _ ⟨y3, x23, x24, x25, x26, x27, x28, x29, x30, _, x32, x33, x34, x35, x36, x37, rfl, gY, gW, gZ, gE, f0, f1, f2, f3, f4, f5, f6, f7, (fun _ => rfl), f9, f10, f11, f12, f15⟩
     ·have q := f7 (hdep 7 (by kernel_rfl))
      subst q
      have q := f8 (hdep 8 (by kernel_rfl))
      subst q
      refine wpOp_step rfl (fun K' hK' => ?_)
      rw [if_pos (by rfl)]
      go_simp
      exact hK' _ _ ⟨y3, x23, x24, x25, x26, x27, x28, x29, _, _, _, x33, x34, x35, x36, x37, rfl, gY, gW, gZ, gE, f0, f1, f2, f3, f4, f5, f6, (fun _ => rfl), (fun _ => rfl), (fun _ => rfl), f10, f11, f12, f15⟩
     ·have q := f9 (hdep 9 (by kernel_rfl))
      subst q
      refine wpOp_step rfl (fun K' hK' => ?_)
      rw [if_pos (by rfl)]
      go_simp
      exact hK' _ _ ⟨y3, x23, x24, x25, x26, x27, x28, x29, x30, x31, _, _, x34, x35, x36, x37, rfl, gY, gW, gZ, gE, f0, f1, f2, f3, f4, f5, f6, f7, f8, (fun _ => rfl), (fun _ => rfl), f11, f12, f15⟩
     ·have q := f10 (hdep 10 (by kernel_rfl))
      subst q
      refine wpOp_step rfl (fun K' hK' => ?_)
      rw [if_pos (by rfl)]
      go_simp
      exact hK' _ _ ⟨y3, x23, x24, x25, x26, x27, x28, x29, x30, x31, x32, _, _, x35, x36, x37, rfl, gY, gW, gZ, gE, f0, f1, f2, f3, f4, f5, f6, f7, f8, f9, (fun _ => rfl), (fun _ => rfl), f12, f15⟩
     ·have q := f11 (hdep 11 (by kernel_rfl))
      subst q
      refine wpOp_step rfl (fun K' hK' => ?_)
      rw [if_pos (by rfl)]
      go_simp
      refine (HD2.out _).mono ?_
      rintro e W'' ⟨rfl, rfl⟩
      exact hK' _ _ ⟨y3, x23, x24, x25, x26, x27, x28, x29, x30, x31, x32, x33, _, _, x36, x37, rfl, gY, gW, gZ, gE, f0, f1, f2, f3, f4, f5, f6, f7, f8, f9, f10, (fun _ => rfl), (fun _ => rfl), f15⟩
     ·have q := f6 (hdep 6 (by kernel_rfl))
      subst q
      have q := f12 (hdep 12 (by kernel_rfl))
      subst q
      have h14 := hcl.no hDi (k := 14) (by decide) (by kernel_rfl)
      refine wpOp_step rfl (fun K' hK' => ?_)
      rw [if_pos (by rfl)]
      go_simp
      exact hK' _ _ ⟨y3, x23, x24, x25, x26, x27, x28, _, x30, x31, x32, x33, x34, _, _, x37, rfl, gY, (fun _ => (gW h14).alloc _), (fun _ _ => ⟨W'.heap.size, rfl, (MapKept.heap_alloc W' _).1⟩), (fun h => absurd (show D' 14 = true from h) (by rw [h14]; decide)), f0, f1, f2, f3, f4, f5, (fun _ => rfl), f7, f8, f9, f10, f11, (fun _ => rfl), f15⟩
     ·have q := f0 (hdep 0 (by kernel_rfl))
      subst q
      obtain ⟨Z, q, hZ⟩ := gZ (hdep 13 (by kernel_rfl)) hDi
      subst q
      have hl := gW hDi
      have h15 := hcl.no hDi (k := 15) (by decide) (by kernel_rfl)
      refine wpOp_step rfl (fun K' hK' => ?_)
      rw [if_pos (by rfl)]
      refine wp_append_own _ (.tmp 23) (.tmp 36) 22 rfl w.heap.size 5 i0 _ 1 1 Tryz.underlying22 HI.out.1 HI.out.2.1 HI.out.2.2.1 HI.out.2.2.2 rfl (by decide) (.slice av n cv) n (Lib.byteCells ((s.data.toList.take k).flatMap wordB)) rfl (ownsRow_later HOW.out hl) ⟨Z, 0, none⟩ 3 3 [.int .u8 37, .int .u8 ((hexd h).toNat : Int), .int .u8 ((hexd l).toNat : Int)] rfl ?_ ?_ ?_ ?_ ?_ ?_ ?_
      ·rfl
      ·intro j u hu
       rw [addr_addW, Lib.cell_of_heap hZ]
       rw [← Array.getElem?_toList]
       exact hu
      ·intro u hu
       simp at hu
       rcases hu with rfl | rfl | rfl <;> rfl
      ·unfold maxLen; omega
      ·omega
      ·exact (HW.out.1.trans hl).size
      ·intro v8 W8 hown8 hgrow _
       have hfin := And.intro (later_grown (HW.out.1.trans hl) (ownsRow_later HOW.out hl) hgrow) hown8
       exact hK' _ _ ⟨y3, _, x24, x25, x26, x27, x28, x29, x30, x31, x32, x33, x34, x35, _, _, rfl, gY, (fun h => (updD_self h).elim), (fun _ h => (updD_self h).elim), (fun _ => hfin), (fun _ => rfl), f1, f2, f3, f4, f5, f6, f7, f8, f9, f10, f11, f12, (fun h => absurd (show D' 15 = true from h) (by rw [h15]; decide))⟩
     ·skip
      refine wpOp_step rfl (fun K' hK' => ?_)
      rw [if_pos (by rfl)]
      go_simp
      exact hK' _ _ ⟨_, x23, x24, x25, x26, x27, x28, x29, x30, x31, x32, x33, x34, x35, x36, x37, rfl, (fun h => (updD_self h).elim), gW, gZ, gE, f0, f1, f2, f3, f4, f5, f6, f7, f8, f9, f10, f11, f12, (fun _ => rfl)⟩
    ·rintro D' a' W' hD' ⟨y3, x23, x24, x25, x26, x27, x28, x29, x30, x31, x32, x33, x34, x35, x36, x37, rfl, gY, gW, gZ, gE, f0, f1, f2, f3, f4, f5, f6, f7, f8, f9, f10, f11, f12, f15⟩
     have q := f15 (hD' 15 (by decide))
     subst q
     obtain ⟨k1, k2⟩ := gE (hD' 14 (by decide))
     have HREL := Lib.hid (show WRI w s.data.toList (k + 1) y3 W' by
      refine ⟨k1, ?_⟩
      rw [HTS.out, HWB.out, List.length_append, HN.out]
      simpa [Lib.byteCells] using k2)
     clear k1 k2 gY gW gZ gE f0 f1 f2 f3 f4 f5 f6 f7 f8 f9 f10 f11 f12 f15
     go_wp2_with fail
     go_roundw
     case rel => exact ⟨k + 1, by omega, by go_num, HREL.out⟩
     case measure => simp [RowKit.intOf]; omega
   ·have HWB := Lib.hid (show wordB s[k] = [s[k]] by unfold wordB; rw [HQ.out]; rfl)
    go_wp2_with fail
    refine (hp _).mono ?_
    rintro e w1 ⟨rfl, rfl⟩
    clear hp
    go_wp2_with (at_builtin; refine wpList_append_own _ rfl _ _ 22 rfl w.heap.size 5 i0 (.int .u8 0) 1 1 Tryz.underlying22 HI.out.1 HI.out.2.1 HI.out.2.2.1 HI.out.2.2.2 rfl (by decide) _ n _ rfl (HOW.out.alloc _) ⟨w1.heap.size, 0, none⟩ 1 1 [.int .u8 (s[k].toNat : Int)] rfl rfl (cell_one_new _ _ _) (by simp [Value.oneCell']) ?c3 ?c4 ?c5 ?_)
    case c3 => (unfold maxLen; omega)
    case c4 => omega
    case c5 => (have := HW.out.1.size; simp; omega)
    intro v6 w6 hown6 hgrow _
    have HREL := Lib.hid (show WRI w s.data.toList (k + 1) v6 w6 by
     refine ⟨later_grown (HW.out.1.alloc _) (HOW.out.alloc _) hgrow, ?_⟩
     rw [HTS.out, HWB.out, List.length_append, HN.out]
     simpa [Lib.byteCells] using hown6)
    clear hown6 hgrow
    go_wp2_with fail
    go_roundw
    case rel => exact ⟨k + 1, by omega, by go_num, HREL.out⟩
    case measure => simp [RowKit.intOf]; omega
  ·have HT := Lib.hid (show (s.data.toList.take k).flatMap wordB = word s.data.toList by
    rw [List.take_of_length_le (by rw [← Lib.size_eq]; omega)]
    unfold word
    rw [if_neg (fun h => h0 (by rw [Lib.size_eq, h]; rfl))])
   have hcv : (convert 22 9 u3).run Tryz.prog wk = .ok (.string ⟨(word s.data.toList).toArray⟩) wk := by
    have h := HW.out.2
    rw [HT.out] at h
    exact conv_own h rfl
   have HL := Lib.hid HW.out.1
   clear hlen hlk hemp h0
   go_wp2_with fail
   go_ret
   exact ⟨rfl, HL.out⟩
end Go.Proofs.YtkbedajbbakihaaGreatDoor
