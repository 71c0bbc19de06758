/-
 Texts of this proof, put together (Wo, Un): each part's first words say what it holds. Conditions: as each part says.
-/
import Derived.Test.YtkbedajbbakihaaGreatDoorQa
import Derived.Test.YtkbedajbbakihaaGreatDoorQa1
import Derived.StillTailTactics
import Derived.Laws.Strings3
import Derived.Outline
import Derived.Deep.QuietTactic
import Derived.BigQuiet
/-
 Word, walked. Conditions: the string has at most 10^9 bytes.
-/
namespace Go.Proofs.YtkbedajbbakihaaGreatDoor
open Go.RowKit
set_option linter.unusedSimpArgs false
set_option linter.unusedVariables false

theorem later_take_snoc (s : ByteArray) (k : Nat) (h : k < s.size) : s.data.toList.take (k + 1) = s.data.toList.take k ++ [s[k]] := by
 rw [List.take_succ_eq_append_getElem (by simpa using h)]; rfl
theorem wordB_len (c : UInt8) : (wordB c).length ≤ 3 := by unfold wordB; split <;> simp
theorem flat_len (l : List UInt8) : (l.flatMap wordB).length ≤ 3 * l.length := by
 induction l with
 | nil => simp
 | cons c l ih => rw [List.flatMap_cons, List.length_append, List.length_cons]; have := wordB_len c; omega
theorem nib_all : ((List.range 256).all fun k => decide (bits .and .u8 (k : Int) 15 = ((k % 16 : Nat) : Int)) && (decide ((hexS.extract (k / 16) (k / 16 + 1)).data.toList = [hexd (k / 16)]) && decide ((hexS.extract (k % 16) (k % 16 + 1)).data.toList = [hexd (k % 16)]))) = true := by kernel_rfl
theorem nibs (c : UInt8) : bits .and .u8 (c.toNat : Int) 15 = ((c.toNat % 16 : Nat) : Int) ∧ (hexS.extract (c.toNat / 16) (c.toNat / 16 + 1)).data.toList = [hexd (c.toNat / 16)] ∧ (hexS.extract (c.toNat % 16) (c.toNat % 16 + 1)).data.toList = [hexd (c.toNat % 16)] := by
 have h1 := List.all_eq_true.1 nib_all c.toNat (List.mem_range.2 c.toNat_lt)
 simp only [Bool.and_eq_true, decide_eq_true_eq] at h1
 exact h1
/-- what Word's loop keeps -/
def WI (w : World) (N : Nat) (l : List UInt8) (k : Nat) (wr : World) : Prop := WB (N + 1) N (Lib.byteCells ((l.take k).flatMap wordB)) wr ∧ Later w wr
theorem WI.snoc {w : World} {N : Nat} {s : ByteArray} {k : Nat} {wr w' : World} (hlt : k < s.size) (h : WI w N s.data.toList k wr) (hN : w.heap.size = N) (bs : List Value) (hb : bs = Lib.byteCells (wordB s[k])) (h' : WB (N + 1) N (Lib.byteCells ((s.data.toList.take k).flatMap wordB) ++ bs) w') (hk : Kept (N + 1) N wr w') : WI w N s.data.toList (k + 1) w' := by
 refine ⟨?_, hk.later h.2 (by omega) (by omega)⟩
 rw [later_take_snoc s k hlt, List.flatMap_append]
 simp only [List.flatMap_cons, List.flatMap_nil, List.append_nil]
 rw [hb] at h'
 simpa [Lib.byteCells] using h'
set_option maxRecDepth 100000 in
set_option maxHeartbeats 1000000 in
theorem Word_some (s : ByteArray) (hs : s.size ≤ 1000000000) (h0 : s.size ≠ 0) (w : World) :
  Calls Tryz.prog 11 #[.string s] w fun e w' => e = .returned (.string ⟨(word s.data.toList).toArray⟩) ∧ Later w w' := by
 have hemp : s.toList.isEmpty = false := by
  rw [← decide_eq_emptyBytes]
  exact decide_eq_false (fun h => h0 (by rw [h]; rfl))
 have HW := Lib.hid (WB.fresh w)
 obtain ⟨N, hN⟩ : ∃ N, w.heap.size = N := ⟨_, rfl⟩
 rw [hN] at HW
 have HNE := Lib.hid hN
 clear hN
 go_enter Tryz.func11, Tryz.ntmps11
 go_wp2_with fail
 rw [HNE.out]
 have hl1 : Later w (w.alloc (.cells #[.pointer none, .slice none 0 0] 62)) := (Later.refl w).alloc _
 have HI0 := Lib.hid (show WI w N s.data.toList 0 (w.alloc (.cells #[.pointer none, .slice none 0 0] 62)) from ⟨HW.out, hl1⟩)
 clear HW hl1
 go_loopw [10] (fun i wr => ∃ k : Nat, k ≤ s.size ∧ i = .int .i64 k ∧ WI w N s.data.toList k wr) (fun i _ => s.size - (RowKit.intOf i).toNat)
 case atStart => exact ⟨0, by omega, rfl, HI0.out⟩
 case round =>
  obtain ⟨k, hk, rfl, hI⟩ := hrel
  rename World => wk
  have HI := Lib.hid hI
  clear hI HI0
  by_cases hlt : k < s.size
  ·obtain ⟨q, hq⟩ : ∃ q, itsf s[k] = q := ⟨_, rfl⟩
   obtain ⟨x, hx⟩ : ∃ x : Int, x = (s[k].toNat : Int) := ⟨_, rfl⟩
   have hp := fun w1 => plain_is (s[k].toNat : Int) q (by rw [itsI_of, hq]) w1
   have x0 : 0 ≤ x := by omega
   have x1 : x ≤ 255 := by have := s[k].toNat_lt; omega
   have HX := Lib.hid hx
   have HQ := Lib.hid hq
   clear hq hx
   cases q
   ·obtain ⟨hb1, hb2, hb3⟩ := nibs s[k]
    obtain ⟨h, hh⟩ : ∃ h : Nat, h = s[k].toNat / 16 := ⟨_, rfl⟩
    obtain ⟨l, hl⟩ : ∃ l : Nat, l = s[k].toNat % 16 := ⟨_, rfl⟩
    rw [← hh] at hb2
    rw [← hl] at hb1 hb3
    obtain ⟨D1, hD1⟩ : ∃ D : ByteArray, hexS.extract h (h + 1) = D := ⟨_, rfl⟩
    obtain ⟨D2, hD2⟩ : ∃ D : ByteArray, hexS.extract l (l + 1) = D := ⟨_, rfl⟩
    rw [hD1] at hb2
    rw [hD2] at hb3
    have hs1 : D1.size = 1 := by rw [Lib.size_eq, hb2]; rfl
    have hs2 : D2.size = 1 := by rw [Lib.size_eq, hb3]; rfl
    have hlen := flat_len (s.data.toList.take k)
    have hlk : (s.data.toList.take k).length ≤ k := List.length_take_le _ _
    have HSN := Lib.hid (fun w' => WI.snoc (w' := w') hlt HI.out HNE.out (Lib.strCells (⟨#[37]⟩ ++ D1 ++ D2)) (by
     rw [Lib.strCells_eq]
     congr 1
     have e : wordB s[k] = [37, hexd h, hexd l] := by unfold wordB; rw [HQ.out, ← hh, ← hl]; rfl
     rw [e]
     simp [hb2, hb3]))
    have HWR := Lib.hid (fun w' (hk : Later wk w') => writeString_is (N + 1) N (Lib.byteCells ((s.data.toList.take k).flatMap wordB)) (⟨#[37]⟩ ++ D1 ++ D2) w' (HI.out.1.later hk) (by
     rw [Lib.byteCells_length]
     have : (⟨#[37]⟩ ++ D1 ++ D2 : ByteArray).size = 3 := by simp [hs1, hs2]; rfl
     omega))
    rw [← HX.out] at hb1
    have hq16 : x / 16 = (h : Int) := by have := HX.out; omega
    have hlt1 : h < 16 := by have := s[k].toNat_lt; omega
    have hlt2 : l < 16 := by omega
    have hw1 : IntKind.u8.wrap ((h : Int) + 1) = (h : Int) + 1 := by rw [IntKind.wrap_u8]; omega
    have hw2 : IntKind.u8.wrap ((l : Int) + 1) = (l : Int) + 1 := by rw [IntKind.wrap_u8]; omega
    have hcat1 : ¬ 9223372036854775807 < 1 + D1.size := by omega
    have hcat2 : ¬ 9223372036854775807 < 1 + D1.size + D2.size := by omega
    have hsl1 : ∀ W : World, (Instr.slice 9 (.string ⟨#[48, 49, 50, 51, 52, 53, 54, 55, 56, 57, 97, 98, 99, 100, 101, 102]⟩) (some (.int .u8 (h : Int))) (some (.int .u8 ((h : Int) + 1))) none).run Tryz.prog W = .ok (.string D1) W := fun W => by
     have e := run_slice_string (P := Tryz.prog) W 9 hexS .u8 .u8 (h : Int) ((h : Int) + 1) Tryz.underlying9 (by omega) (by omega) (by rw [show hexS.size = 16 from rfl]; omega)
     rw [show ((h : Int) + 1).toNat = h + 1 by omega, show ((h : Int)).toNat = h by omega, hD1] at e
     exact e
    have hsl2 : ∀ W : World, (Instr.slice 9 (.string ⟨#[48, 49, 50, 51, 52, 53, 54, 55, 56, 57, 97, 98, 99, 100, 101, 102]⟩) (some (.int .u8 (l : Int))) (some (.int .u8 ((l : Int) + 1))) none).run Tryz.prog W = .ok (.string D2) W := fun W => by
     have e := run_slice_string (P := Tryz.prog) W 9 hexS .u8 .u8 (l : Int) ((l : Int) + 1) Tryz.underlying9 (by omega) (by omega) (by rw [show hexS.size = 16 from rfl]; omega)
     rw [show ((l : Int) + 1).toNat = l + 1 by omega, show ((l : Int)).toNat = l by omega, hD2] at e
     exact e
    clear hD1 hD2
    have HL := Lib.hid (And.intro hh hl)
    clear hb2 hb3 hh hl hs1 hs2 hlen hlk
    go_wp2_with fail
    refine (hp _).mono ?_
    rintro e w1 ⟨rfl, rfl⟩
    rw [← HX.out]
    clear hp
    go_wp2_with fail
    go_still_tail 14, (by kernel_rfl)
    have hld : Later w1 w1.drew := (Later.refl w1).drew
    change wpList _ _ _ _ _ w1.drew
    generalize w1.drew = w2 at hld ⊢
    have HLD := Lib.hid hld
    clear hld hsl1 hsl2
    go_wp2_with fail
    refine (HWR.out _ HLD.out).mono ?_
    rintro e w3 ⟨rfl, hwb, hkp⟩
    have HS := Lib.hid (HSN.out _ hwb ((Kept.of_later HLD.out (by have := HI.out.1.1.2; omega)).trans hkp))
    clear hwb hkp hb1 hq16 hw1 hw2 hcat1 hcat2
    go_wp2_with fail
    go_roundw
    case rel => exact ⟨k + 1, by omega, by go_num, HS.out⟩
    case measure => simp [RowKit.intOf]; omega
   ·have hlen := flat_len (s.data.toList.take k)
    have hlk : (s.data.toList.take k).length ≤ k := List.length_take_le _ _
    have HSN := Lib.hid (fun w' => WI.snoc (w' := w') hlt HI.out HNE.out [.int .u8 x] (by
     have e : wordB s[k] = [s[k]] := by unfold wordB; rw [HQ.out]; rfl
     rw [e, HX.out]
     rfl))
    have HWR := Lib.hid (writeByte_is (N + 1) N (Lib.byteCells ((s.data.toList.take k).flatMap wordB)) x wk HI.out.1 (by
     rw [Lib.byteCells_length]
     omega))
    clear hlen hlk
    go_wp2_with fail
    refine (hp _).mono ?_
    rintro e w1 ⟨rfl, rfl⟩
    rw [← HX.out]
    clear hp
    go_wp2_with fail
    refine HWR.out.mono ?_
    rintro e w3 ⟨rfl, hwb, hkp⟩
    have HS := Lib.hid (HSN.out _ hwb hkp)
    clear hwb hkp
    go_wp2_with fail
    go_roundw
    case rel => exact ⟨k + 1, by omega, by go_num, HS.out⟩
    case measure => simp [RowKit.intOf]; omega
  ·obtain rfl : k = s.size := by omega
   have HT := Lib.hid (show (s.data.toList.take s.size).flatMap wordB = word s.data.toList by
    rw [List.take_of_length_le (Nat.le_of_eq (Lib.size_eq s).symm)]
    unfold word
    rw [if_neg (fun h => h0 (by rw [Lib.size_eq, h]; rfl))])
   have HST := Lib.hid (string_is N (word s.data.toList) w wk (by rw [← HT.out]; exact HI.out.1) HI.out.2 (by have := HNE.out; omega))
   clear hemp
   go_wp2_with fail
   refine HST.out.mono ?_
   rintro e w1 ⟨rfl, hl⟩
   go_wp2_with fail
   go_ret
   exact ⟨rfl, hl⟩
theorem Word_is (s : ByteArray) (hs : s.size ≤ 1000000000) (w : World) :
  Calls Tryz.prog 11 #[.string s] w fun e w' => e = .returned (.string ⟨(word s.data.toList).toArray⟩) ∧ Later w w' := by
 by_cases h0 : s.size = 0
 ·have ht : s = ⟨#[]⟩ := by
   apply ByteArray.ext
   exact Array.eq_empty_of_size_eq_zero h0
  subst ht
  clear h0 hs
  go_enter Tryz.func11, Tryz.ntmps11
  go_wp2_with fail
  go_ret
  exact ⟨rfl, Later.refl _⟩
 ·exact Word_some s hs h0 w
/-- the same at a list of bytes -/
theorem Word_l (l : List UInt8) (hl : l.length ≤ 1000000000) (w : World) :
  Calls Tryz.prog 11 #[.string ⟨l.toArray⟩] w fun e w' => e = .returned (.string ⟨(word l).toArray⟩) ∧ Later w w' := by
 have := Word_is ⟨l.toArray⟩ (by simpa [ByteArray.size] using hl) w
 simpa using this
end Go.Proofs.YtkbedajbbakihaaGreatDoor

/-
 Unword, walked. Conditions: the word has at most 10^8 bytes.
-/
namespace Go.Proofs.YtkbedajbbakihaaGreatDoor
open Go.RowKit
set_option linter.unusedSimpArgs false
set_option linter.unusedVariables false

theorem drop_get (s : ByteArray) (k : Nat) (h : k < s.size) : s.data.toList.drop k = s[k] :: s.data.toList.drop (k + 1) := by
 rw [List.drop_eq_getElem_cons (by simpa using h)]
 rfl
theorem dec_plain (s : ByteArray) (k : Nat) (h : k < s.size) (hc : s[k] ≠ 37 ∨ ¬ k + 2 < s.size) : dec (s.data.toList.drop k) = (dec (s.data.toList.drop (k + 1))).map (s[k] :: ·) := by
 rw [drop_get s k h]
 generalize hr : s.data.toList.drop (k + 1) = r
 have hl : r.length = s.size - (k + 1) := by rw [← hr, List.length_drop]; simp
 match r, hl with
 | [], _ => rfl
 | [d], _ => rfl
 | a :: b :: r, hl =>
  rw [dec, if_neg]
  rcases hc with hc | hc
  ·exact hc
  ·simp at hl; omega
theorem dec_three (s : ByteArray) (k : Nat) (h : k + 2 < s.size) (hc : s[k] = 37) : dec (s.data.toList.drop k) = match hexv s[k + 1], hexv s[k + 2] with
   | some h, some g => (dec (s.data.toList.drop (k + 3))).map (UInt8.ofNat (16 * h + g) :: ·)
   | _, _ => none := by
 rw [drop_get s k (by omega), drop_get s (k + 1) (by omega), drop_get s (k + 2) h, dec, if_pos hc]
 rfl
theorem or_all : ((List.range 256).all fun k => decide (bits .or .i64 (((k / 16 : Nat) : Int) * 16) ((k % 16 : Nat) : Int) % 256 = ((UInt8.ofNat k).toNat : Int))) = true := by kernel_rfl
theorem or_nibs (p q : Nat) (hp : p < 16) (hq : q < 16) : bits .or .i64 ((p : Int) * 16) (q : Int) % 256 = ((UInt8.ofNat (16 * p + q)).toNat : Int) := by
 have h1 := List.all_eq_true.1 or_all (16 * p + q) (List.mem_range.2 (by omega))
 rw [show (16 * p + q) / 16 = p by omega, show (16 * p + q) % 16 = q by omega] at h1
 exact of_decide_eq_true h1
/-- what Unword's loop keeps -/
def UI (w : World) (N : Nat) (s : ByteArray) (k : Nat) (acc : List UInt8) (wr : World) : Prop :=
 WB (N + 1) N (Lib.byteCells acc) wr ∧ Later w wr ∧ acc.length ≤ k ∧ dec s.data.toList = (dec (s.data.toList.drop k)).map (acc ++ ·)
theorem UI.snoc {w : World} {N : Nat} {s : ByteArray} {k j : Nat} {acc : List UInt8} {wr w' : World} (h : UI w N s k acc wr) (hN : w.heap.size = N) (c : UInt8) (hj : k < j)
  (hd : dec (s.data.toList.drop k) = (dec (s.data.toList.drop j)).map (c :: ·)) (h' : WB (N + 1) N (Lib.byteCells acc ++ [.int .u8 (c.toNat : Int)]) w') (hk : Kept (N + 1) N wr w') : UI w N s j (acc ++ [c]) w' := by
 refine ⟨by simpa [Lib.byteCells] using h', hk.later h.2.1 (by omega) (by omega), by have := h.2.2.1; simp; omega, ?_⟩
 rw [h.2.2.2, hd, Option.map_map]
 congr 1
 funext t
 simp
def UEnd (r : Option (List UInt8)) (e : Ending) : Prop :=
 match r with
 | some t => e = .returned (.tuple #[.string ⟨t.toArray⟩, .int .i64 0])
 | none => e = .returned (.tuple #[.string ⟨#[]⟩, .int .i64 7])

set_option maxRecDepth 100000 in
set_option maxHeartbeats 1000000 in
theorem Unword_some (s : ByteArray) (hs : s.size ≤ 100000000) (h45 : s.data.toList ≠ [45]) (w : World) :
  Calls Tryz.prog 12 #[.string s] w fun e w' => UEnd (unword s.data.toList) e ∧ Later w w' := by
 have hne : (s.toList == [45]) = false := by rw [Lib.toList_data]; simpa using h45
 have HW := Lib.hid (WB.fresh w)
 obtain ⟨N, hN⟩ : ∃ N, w.heap.size = N := ⟨_, rfl⟩
 rw [hN] at HW
 have HNE := Lib.hid hN
 clear hN
 have H45 := Lib.hid h45
 clear h45
 go_enter Tryz.func12, Tryz.ntmps12
 go_wp2_with fail
 rw [HNE.out]
 have hl1 : Later w (w.alloc (.cells #[.pointer none, .slice none 0 0] 62)) := (Later.refl w).alloc _
 have HI0 := Lib.hid (show UI w N s 0 [] (w.alloc (.cells #[.pointer none, .slice none 0 0] 62)) from ⟨HW.out, hl1, by simp, by simp⟩)
 clear HW hl1
 go_loopw [5] (fun i wr => ∃ (k : Nat) (acc : List UInt8), k ≤ s.size ∧ i = .int .i64 k ∧ UI w N s k acc wr) (fun i _ => s.size - (RowKit.intOf i).toNat)
 case atStart => exact ⟨0, [], by omega, rfl, HI0.out⟩
 case round =>
  obtain ⟨k, acc, hk, rfl, hI⟩ := hrel
  rename World => wk
  have HI := Lib.hid hI
  clear hI HI0
  by_cases hlt : k < s.size
  ·obtain ⟨x, hx⟩ : ∃ x : Int, x = (s[k].toNat : Int) := ⟨_, rfl⟩
   have hacc := HI.out.2.2.1
   have HWR := Lib.hid (fun (c : Int) w' (hl : Later wk w') => writeByte_is (N + 1) N (Lib.byteCells acc) c w' (HI.out.1.later hl) (by
     rw [Lib.byteCells_length]
     omega))
   clear hacc
   by_cases h3 : k + 2 < s.size
   ·by_cases hc : s[k] = 37
    ·obtain ⟨a, ha⟩ : ∃ a, s[k + 1] = a := ⟨_, rfl⟩
     obtain ⟨b, hb⟩ : ∃ b, s[k + 2] = b := ⟨_, rfl⟩
     have h37 : (s[k].toNat : Int) = 37 := by rw [hc]; rfl
     have hg : decide ((k : Int) + 2 < (s.size : Int)) = true := by simp; omega
     have hwr1 : IntKind.i64.wrap ((k : Int) + 1) = (k : Int) + 1 := IntWalk.i64_in _ (by omega)
     have hwr2 : IntKind.i64.wrap ((k : Int) + 2) = (k : Int) + 2 := IntWalk.i64_in _ (by omega)
     have hi1 : ∀ W : World, (Instr.index 9 (.string s) (.int .i64 ((k : Int) + 1))).run Tryz.prog W = .ok (.int .u8 (a.toNat : Int)) W := fun W => by
      rw [run_index_string (P := Tryz.prog) W 9 s .i64 ((k : Int) + 1) Tryz.underlying9, dif_pos (by omega), ← ha]
      rfl
     have hi2 : ∀ W : World, (Instr.index 9 (.string s) (.int .i64 ((k : Int) + 2))).run Tryz.prog W = .ok (.int .u8 (b.toNat : Int)) W := fun W => by
      rw [run_index_string (P := Tryz.prog) W 9 s .i64 ((k : Int) + 2) Tryz.underlying9, dif_pos (by omega), ← hb]
      rfl
     have hd := dec_three s k h3 hc
     rw [ha, hb] at hd
     have HD := Lib.hid hd
     obtain ⟨va, hva⟩ : ∃ v, valI a = v := ⟨_, rfl⟩
     obtain ⟨vb, hvb⟩ : ∃ v, valI b = v := ⟨_, rfl⟩
     have c1 : ∀ n, Calls Tryz.prog 33 #[.string ⟨#[48, 49, 50, 51, 52, 53, 54, 55, 56, 57, 97, 98, 99, 100, 101, 102]⟩, .int .u8 (a.toNat : Int)] (wk.drewN n) fun e w'' => e = .returned (.int .i64 va) ∧ ∃ m, w'' = wk.drewN m := fun n => by
      have := Tryz.strings_IndexByte hexS (a.toNat : Int) (wk.drewN n)
      rw [Int.toNat_natCast, show a.toNat.toUInt8 = a from by simp, index_hex, hva] at this
      exact Calls.quiet_of_same this
     have c2 : ∀ n, Calls Tryz.prog 33 #[.string ⟨#[48, 49, 50, 51, 52, 53, 54, 55, 56, 57, 97, 98, 99, 100, 101, 102]⟩, .int .u8 (b.toNat : Int)] (wk.drewN n) fun e w'' => e = .returned (.int .i64 vb) ∧ ∃ m, w'' = wk.drewN m := fun n => by
      have := Tryz.strings_IndexByte hexS (b.toNat : Int) (wk.drewN n)
      rw [Int.toNat_natCast, show b.toNat.toUInt8 = b from by simp, index_hex, hvb] at this
      exact Calls.quiet_of_same this
     have HVA := Lib.hid hva
     have HVB := Lib.hid hvb
     clear hd hva hvb hc ha hb hx
     go_wp2_with fail
     refine wp_region_quiet_lit (by kernel_rfl) (by kernel_rfl) ?_
     repeat ((with_reducible refine wpQuiet_step (fun K hK => ?_)); go_simp; first | ((with_reducible refine hK _ ?_); clear hK K) | (apply Exists.intro; refine ⟨fun _ => ?_, hK _ ?_⟩; (first | (with_reducible exact c1 _) | (with_reducible exact c2 _)); clear hK K))
     with_reducible refine wpQuiet_nil ?_
     intro _ hw'
     obtain ⟨nq, hw''⟩ := hw'
     subst hw''
     clear c1 c2 hi1 hi2 hwr1 hwr2
     have HLD := Lib.hid ((Later.refl wk).drewN nq)
     generalize wk.drewN nq = w1 at HLD ⊢
     cases hea : hexv a with
     | none =>
      obtain rfl : va = -1 := by rw [← HVA.out, valI, hea]
      have HEN := Lib.hid (show UEnd (unword s.data.toList) (.returned (.tuple #[.string ⟨#[]⟩, .int .i64 7])) by
       have h9 := HI.out.2.2.2
       rw [HD.out, hea] at h9
       rw [unword, if_neg H45.out, h9]
       rfl)
      clear hea
      go_wp2_with fail
      go_ret2
      exact ⟨HEN.out, HI.out.2.1.trans HLD.out⟩
     | some p =>
      cases heb : hexv b with
      | none =>
       obtain rfl : vb = -1 := by rw [← HVB.out, valI, heb]
       obtain rfl : va = (p : Int) := by rw [← HVA.out, valI, hea]
       have HEN := Lib.hid (show UEnd (unword s.data.toList) (.returned (.tuple #[.string ⟨#[]⟩, .int .i64 7])) by
        have h9 := HI.out.2.2.2
        rw [HD.out, hea, heb] at h9
        rw [unword, if_neg H45.out, h9]
        rfl)
       have hp0 : decide ((p : Int) < 0) = false := by simp
       clear hea heb
       go_wp2_with fail
       go_ret2
       exact ⟨HEN.out, HI.out.2.1.trans HLD.out⟩
      | some q =>
       obtain rfl : va = (p : Int) := by rw [← HVA.out, valI, hea]
       obtain rfl : vb = (q : Int) := by rw [← HVB.out, valI, heb]
       have hp16 := (hexv_back hea).1
       have hq16 := (hexv_back heb).1
       have hp0 : decide ((p : Int) < 0) = false := by simp
       have hq0 : decide ((q : Int) < 0) = false := by simp
       rw [hea, heb] at HD
       clear hea heb
       go_wp2_with fail
       rw [or_nibs p q hp16 hq16]
       refine (HWR.out _ _ HLD.out).mono ?_
       rintro e w2 ⟨rfl, hwb, hkp⟩
       have HS := Lib.hid (HI.out.snoc HNE.out (UInt8.ofNat (16 * p + q)) (j := k + 3) (by omega) HD.out hwb ((Kept.of_later HLD.out (by have := HI.out.1.1.2; omega)).trans hkp))
       clear hwb hkp
       go_wp2_with fail
       go_roundw
       case rel => exact ⟨k + 3, _, by omega, by go_num, HS.out⟩
       case measure => simp [RowKit.intOf]; omega
    ·have HS := Lib.hid (fun w' => HI.out.snoc (w' := w') HNE.out s[k] (j := k + 1) (by omega) (dec_plain s k hlt (.inl hc)))
     have hx37 : ((s[k].toNat : Int) == 37) = false := by
      have : s[k].toNat ≠ 37 := fun e => hc (by apply UInt8.toNat_inj.1; rw [e]; rfl)
      simp; omega
     clear hx hc
     go_wp2_with fail
     refine (HWR.out _ _ (Later.refl _)).mono ?_
     rintro e w2 ⟨rfl, hwb, hkp⟩
     have HS2 := Lib.hid (HS.out _ hwb hkp)
     clear hwb hkp
     go_wp2_with fail
     go_roundw
     case rel => exact ⟨k + 1, _, by omega, by go_num, HS2.out⟩
     case measure => simp [RowKit.intOf]; omega
   ·by_cases hc : s[k] = 37
    ·have HS := Lib.hid (fun w' => HI.out.snoc (w' := w') HNE.out s[k] (j := k + 1) (by omega) (dec_plain s k hlt (.inr h3)))
     have h37 : (s[k].toNat : Int) = 37 := by rw [hc]; rfl
     have hg : decide ((k : Int) + 2 < (s.size : Int)) = false := by simp; omega
     rw [h37] at HS
     clear hx hc h3
     go_wp2_with fail
     refine (HWR.out _ _ (Later.refl _)).mono ?_
     rintro e w2 ⟨rfl, hwb, hkp⟩
     have HS2 := Lib.hid (HS.out _ hwb hkp)
     clear hwb hkp
     go_wp2_with fail
     go_roundw
     case rel => exact ⟨k + 1, _, by omega, by go_num, HS2.out⟩
     case measure => simp [RowKit.intOf]; omega
    ·have HS := Lib.hid (fun w' => HI.out.snoc (w' := w') HNE.out s[k] (j := k + 1) (by omega) (dec_plain s k hlt (.inl hc)))
     have hx37 : ((s[k].toNat : Int) == 37) = false := by
      have : s[k].toNat ≠ 37 := fun e => hc (by apply UInt8.toNat_inj.1; rw [e]; rfl)
      simp; omega
     clear hx hc
     go_wp2_with fail
     refine (HWR.out _ _ (Later.refl _)).mono ?_
     rintro e w2 ⟨rfl, hwb, hkp⟩
     have HS2 := Lib.hid (HS.out _ hwb hkp)
     clear hwb hkp
     go_wp2_with fail
     go_roundw
     case rel => exact ⟨k + 1, _, by omega, by go_num, HS2.out⟩
     case measure => simp [RowKit.intOf]; omega
  ·obtain rfl : k = s.size := by omega
   have HT := Lib.hid (show dec s.data.toList = some acc by
    rw [HI.out.2.2.2, List.drop_of_length_le (Nat.le_of_eq (Lib.size_eq s).symm)]
    simp [dec])
   have HST := Lib.hid (string_is N acc w wk HI.out.1 HI.out.2.1 (by have := HNE.out; omega))
   have hacc := HI.out.2.2.1
   have HWD := Lib.hid (fun w1 => Word_l acc (by omega) w1)
   clear hacc
   obtain ⟨T, hT⟩ : ∃ T : ByteArray, T = ⟨acc.toArray⟩ := ⟨_, rfl⟩
   rw [← hT] at HST HWD
   have HTT := Lib.hid hT
   by_cases he : acc = []
   ·have e1 : T.toList.isEmpty = true := by rw [hT, ByteArray.toList_mk, he]; rfl
    have e2 : (T.toList == []) = true := by rw [hT, ByteArray.toList_mk, he]; rfl
    have HEN := Lib.hid (show UEnd (unword s.data.toList) (.returned (.tuple #[.string ⟨#[]⟩, .int .i64 7])) by
     rw [unword, if_neg H45.out, HT.out]
     simp only
     rw [if_neg (fun h => h.1 he)]
     rfl)
    clear hT he
    go_wp2_with fail
    refine HST.out.mono ?_
    rintro e w1 ⟨rfl, hl⟩
    have HL := Lib.hid hl
    clear hl
    go_wp2_with fail
    go_ret2
    exact ⟨HEN.out, HL.out⟩
   ·have e1 : T.toList.isEmpty = false := by rw [hT]; simpa using he
    have e2 : (T.toList == []) = false := by rw [hT]; simpa using he
    obtain ⟨U, hU⟩ : ∃ U : ByteArray, U = ⟨(word acc).toArray⟩ := ⟨_, rfl⟩
    rw [← hU] at HWD
    by_cases hw : word acc = s.data.toList
    ·have e3 : (U.toList == s.toList) = true := by rw [hU, ByteArray.toList_mk, Lib.toList_data]; simpa using hw
     have HEN := Lib.hid (show UEnd (unword s.data.toList) (.returned (.tuple #[.string T, .int .i64 0])) by
      rw [unword, if_neg H45.out, HT.out]
      simp only
      rw [if_pos ⟨he, hw⟩, hT]
      rfl)
     clear hT he hU hw
     go_wp2_with fail
     refine HST.out.mono ?_
     rintro e w1 ⟨rfl, hl⟩
     have HL := Lib.hid hl
     clear hl
     go_wp2_with fail
     refine (HWD.out _).mono ?_
     rintro e w2 ⟨rfl, hl2⟩
     go_wp2_with fail
     go_ret2
     exact ⟨HEN.out, HL.out.trans hl2⟩
    ·have e3 : (U.toList == s.toList) = false := by rw [hU, ByteArray.toList_mk, Lib.toList_data]; simpa using hw
     have HEN := Lib.hid (show UEnd (unword s.data.toList) (.returned (.tuple #[.string ⟨#[]⟩, .int .i64 7])) by
      rw [unword, if_neg H45.out, HT.out]
      simp only
      rw [if_neg (fun h => hw h.2)]
      rfl)
     clear hT he hU hw
     go_wp2_with fail
     refine HST.out.mono ?_
     rintro e w1 ⟨rfl, hl⟩
     have HL := Lib.hid hl
     clear hl
     go_wp2_with fail
     refine (HWD.out _).mono ?_
     rintro e w2 ⟨rfl, hl2⟩
     go_wp2_with fail
     go_ret2
     exact ⟨HEN.out, HL.out.trans hl2⟩
theorem Unword_is (s : ByteArray) (hs : s.size ≤ 100000000) (w : World) :
  Calls Tryz.prog 12 #[.string s] w fun e w' => UEnd (unword s.data.toList) e ∧ Later w w' := by
 by_cases h45 : s.data.toList = [45]
 ·have ht : s = ⟨#[45]⟩ := by
   apply ByteArray.ext
   exact Array.toList_inj.1 h45
  subst ht
  have HEN := Lib.hid (show UEnd (unword (ByteArray.data ⟨#[45]⟩).toList) (.returned (.tuple #[.string ⟨#[]⟩, .int .i64 0])) from rfl)
  clear h45 hs
  go_enter Tryz.func12, Tryz.ntmps12
  go_wp2_with fail
  go_ret2
  exact ⟨HEN.out, Later.refl _⟩
 ·exact Unword_some s hs h45 w
end Go.Proofs.YtkbedajbbakihaaGreatDoor
