/-
  The library's builder of strings, written to by a string. Conditions: the builder is one of the call's own; the text stays below 2^47 bytes.
-/
import Derived.Test.YthohoendjipleaaGreatDoorM
import Derived.Test.YthohoendjipleaaGreatDoorShelf
import Derived.Shelf.Strings.Builder1
import Derived.Laws.Externs
import Derived.Laws.CopyRow
namespace Go.Proofs.YthohoendjipleaaGreatDoor
open Go.RowKit

theorem infoB : (Tryz.prog.info? 5).map (fun i => (i.zero, i.size, i.bytes)) = some (some (.int .u8 0), 1, 1) := by kernel_rfl
/-- the builder in block b holds the bytes bs; its buffer lies from block B2 on -/
def WB (B2 b : Nat) (bs : List Value) (w : World) : Prop :=
  (b < B2 ∧ B2 ≤ w.heap.size) ∧ ∃ p v, (p = .pointer none ∨ p = .pointer (some ⟨b, 0, none⟩)) ∧ w.heap[b]? = some (.cells #[p, v] 88 (0, 0)) ∧ w.ownsRow B2 5 1 v bs.length bs
/-- of what lies before block B2 nothing has changed but block b -/
structure Kept (B2 b : Nat) (w w' : World) : Prop where
  os : w'.os = w.os
  tape : w'.tape = w.tape
  output : w'.output = w.output
  size : w.heap.size ≤ w'.heap.size
  block : ∀ k, k < B2 → k ≠ b → w'.heap[k]? = w.heap[k]?
theorem Kept.trans {B2 b : Nat} {x y z : World} (h : Kept B2 b x y) (k : Kept B2 b y z) : Kept B2 b x z :=
  ⟨k.os.trans h.os, k.tape.trans h.tape, k.output.trans h.output, Nat.le_trans h.size k.size, fun i hi hb => (k.block i hi hb).trans (h.block i hi hb)⟩
theorem Kept.refl (B2 b : Nat) (w : World) : Kept B2 b w w := ⟨rfl, rfl, rfl, Nat.le_refl _, fun _ _ _ => rfl⟩
theorem Kept.later {B2 b : Nat} {w x y : World} (h : Kept B2 b x y) (hl : Later w x) (hb : w.heap.size ≤ b) (hB : b < B2) : Later w y :=
  ⟨h.os.trans hl.os, h.tape.trans hl.tape, h.output.trans hl.output, Nat.le_trans hl.size h.size, fun k hk => (h.block k (by omega) (by omega)).trans (hl.block k hk)⟩
theorem Kept.of_later {B2 b : Nat} {x y : World} (hl : Later x y) (hB : B2 ≤ x.heap.size) : Kept B2 b x y :=
  ⟨hl.os, hl.tape, hl.output, hl.size, fun k hk _ => hl.block k (Nat.lt_of_lt_of_le hk hB)⟩
theorem Kept.cell {B2 b : Nat} {x y : World} (h : Kept B2 b x y) {k o : Nat} {v : Value} (hk : k < B2) (hb : k ≠ b) (hc : x.cell? ⟨k, o, none⟩ = some v) : y.cell? ⟨k, o, none⟩ = some v :=
  (World.cell?_of_block (a := ⟨k, o, none⟩) (h.block k hk hb)).trans hc
theorem WB.later {B2 b : Nat} {bs : List Value} {w w' : World} (h : WB B2 b bs w) (hl : Later w w') : WB B2 b bs w' := by
  obtain ⟨⟨h1, h2⟩, p, v, hp, hb, hown⟩ := h
  exact ⟨⟨h1, Nat.le_trans h2 hl.size⟩, p, v, hp, (hl.block b (by omega)).trans hb, ownsRow_later hown hl⟩
theorem ownsRow_mono {w : World} {B B' n : Nat} {e : TypeId} {size : Nat} {v : Value} {xs : List Value} (h : w.ownsRow B e size v n xs) (hB : B' ≤ B) : w.ownsRow B' e size v n xs := by
  obtain ⟨h1, h2⟩ := h
  refine ⟨h1, ?_⟩
  rcases h2 with h2 | ⟨g, cap, cur, hv, hg, h3⟩
  · exact .inl h2
  · exact .inr ⟨g, cap, cur, hv, Nat.le_trans hB hg, h3⟩
theorem WB.is {B2 b : Nat} {bs : List Value} {w : World} (h : WB B2 b bs w) : Lib.IsBuilder 88 5 b b bs w := by
  obtain ⟨⟨h1, h2⟩, p, v, hp, hb, hown⟩ := h
  have hne : v.ownBlock ≠ some b := Lib.ownBlock_ne hown hb (by decide)
  have ho := ownsRow_mono hown (Nat.le_of_lt h1)
  rcases hp with rfl | rfl
  · exact .inl ⟨Nat.le_refl _, v, hb, ho, hne⟩
  · exact .inr ⟨Nat.le_refl _, v, hb, ho, hne⟩

set_option maxRecDepth 100000 in
set_option maxHeartbeats 1000000 in
theorem copyCheck_is (b : Nat) (p v : Value) (w : World) (hp : p = .pointer none ∨ p = .pointer (some ⟨b, 0, none⟩)) (hb : w.heap[b]? = some (.cells #[p, v] 88 (0, 0))) :
    Calls Tryz.prog 61 #[.pointer (some ⟨b, 0, none⟩)] w fun e w' => e = .returned (.tuple #[]) ∧ (w' = w.setCell ⟨b, 0, none⟩ (.pointer (some ⟨b, 0, none⟩))) := by
  obtain ⟨j, hj, hjs⟩ := Option.map_eq_some_iff.1 (show (Tryz.prog.info? 88).map (·.size) = some 2 by kernel_rfl)
  have hlies : liesAt Tryz.prog Tryz.prog.depth 88 (2 / Tryz.prog.cellsOf 88) 0 88 1 = true := by kernel_rfl
  have h0 : w.cell? ⟨b, 0, none⟩ = some p := by rw [Lib.cell_of_heap hb]; rfl
  have hf : w.frozen? ⟨b, 0, none⟩ = false := Lib.frozen_of_heap hb 0
  have hsh : w.shape? b = some (88, 2) := by simp [World.shape?, hb]
  rcases hp with rfl | rfl
  · have HSH := Lib.hid hsh
    have HL := Lib.hid hlies
    clear hb hlies hsh
    go_enter Tryz.func61, Tryz.ntmps61
    go_wp2_with fail
    rw [Lib.run_to_unsafe w ⟨b, 0, none⟩ Tryz.underlying85 Tryz.underlying138 hj (by rw [hjs]; decide) HSH.out (Nat.zero_lt_succ 1)]
    simp only [Result.andThen]
    rw [Oper.upon_value]
    go_wp2_with fail
    rw [run_callFunc_extern Tryz.func92 (by kernel_rfl) (by kernel_rfl) (by kernel_rfl) (e := Extern.AbiNoEscape.same) (by kernel_rfl)]
    rw [Lib.run_noEscape]
    simp only [Result.andThen]
    rw [Oper.upon_value]
    go_wp2_with fail
    rw [Lib.run_from_unsafe w ⟨b, 0, none⟩ Tryz.underlying138 Tryz.underlying85 hj HSH.out HL.out]
    simp only [Result.andThen]
    rw [Oper.upon_value]
    go_wp2_with fail
    go_end0
    exact ⟨rfl, rfl⟩
  · have hsame : w.setCell ⟨b, 0, none⟩ (.pointer (some ⟨b, 0, none⟩)) = w := by
      rw [setCell_eq_setRow w b 0 _ 88 (0, 0) _ hb]
      exact setRow_self w b _ 88 (0, 0) hb
    have HS := Lib.hid hsame
    clear hb hlies hsh hsame
    go_enter Tryz.func61, Tryz.ntmps61
    go_wp2_with fail
    rw [Lib.run_neq_ptr_same w _ Tryz.underlying85 hj]
    go_wp2_with fail
    go_end0
    exact ⟨rfl, HS.out.symm⟩
set_option maxRecDepth 100000 in
set_option maxHeartbeats 1000000 in
theorem writeString_is (B2 b : Nat) (bs : List Value) (s : ByteArray) (w : World) (h : WB B2 b bs w) (hlen : bs.length + s.size ≤ 140737488355328) :
    Calls Tryz.prog 37 #[.pointer (some ⟨b, 0, none⟩), .string s] w fun e w' => e = .returned (.tuple #[.int .i64 s.size, .nilIface]) ∧ (WB B2 b (bs ++ Lib.strCells s) w' ∧ Kept B2 b w w') := by
  obtain ⟨i0, hi, hz0, hz1, hz2⟩ := info_parts infoB
  obtain ⟨⟨hbB, hBw⟩, p, v, hp, hbk0, hown0⟩ := h
  have hblt : b < w.heap.size := by omega
  have hs1 : (w.setCell ⟨b, 0, none⟩ (.pointer (some ⟨b, 0, none⟩))) = w.setRow b #[.pointer (some ⟨b, 0, none⟩), v] := by
    rw [setCell_eq_setRow w b 0 _ 88 (0, 0) _ hbk0]; rfl
  have hK1 : Kept B2 b w (w.setCell ⟨b, 0, none⟩ (.pointer (some ⟨b, 0, none⟩))) := by
    rw [hs1]
    exact ⟨rfl, rfl, rfl, by simp, fun k _ hk => setRow_other w b k _ hk⟩
  have hne0 : v.ownBlock ≠ some b := Lib.ownBlock_ne hown0 hbk0 (by decide)
  have hown1 : (w.setCell ⟨b, 0, none⟩ (.pointer (some ⟨b, 0, none⟩))).ownsRow B2 5 1 v bs.length bs :=
    hown0.kept (row := some b) ⟨rfl, rfl, rfl, by simp, fun k _ hk => Below.heap_setCell _ _ _ _ (fun e => hk (by simp [e]))⟩ (.inr hne0)
  have hbk1 : (w.setCell ⟨b, 0, none⟩ (.pointer (some ⟨b, 0, none⟩))).heap[b]? = some (.cells #[.pointer (some ⟨b, 0, none⟩), v] 88 (0, 0)) := by
    rw [hs1]; exact setRow_heap w b _ _ 88 (0, 0) hbk0
  have HCC := Lib.hid (copyCheck_is b p v w hp hbk0)
  clear hs1 hp hown0 hne0 hbk0
  go_enter Tryz.func37, Tryz.ntmps37
  go_wp2_with fail
  refine (HCC.out).mono ?_
  rintro e w1 ⟨rfl, hw1⟩
  rw [← hw1] at hK1 hown1 hbk1
  clear hw1 HCC
  have hb1s := hK1.size
  have c0 : w1.cell? ⟨b, 0, none⟩ = some (.pointer (some ⟨b, 0, none⟩)) := by rw [Lib.cell_of_heap hbk1]; rfl
  have c1 : w1.cell? ⟨b, 1, none⟩ = some v := by rw [Lib.cell_of_heap hbk1]; rfl
  have HB1 := Lib.hid hbk1
  have HK1 := Lib.hid hK1
  clear hbk1 hK1
  go_wp2_with (at_builtin; refine Lib.wpList_append_own_string _ rfl _ _ 86 9 rfl B2 5 i0 Tryz.underlying86 Tryz.underlying9 hi hz0 hz1 hz2 _ _ _ rfl hown1 s rfl ?c3 ?c4 ?c5 ?_)
  case c3 => unfold maxLen; omega
  case c4 => omega
  case c5 => omega
  intro v' w2 hown' hgrow _
  have hne : v.ownBlock ≠ some b := Lib.ownBlock_ne hown1 HB1.out (by decide)
  have hb2 : w2.heap[b]? = some (.cells #[.pointer (some ⟨b, 0, none⟩), v] 88 (0, 0)) := by
    rw [hgrow.block b (by omega) (fun e => hne e.symm)]
    exact HB1.out
  have d0 : w2.cell? ⟨b, 0, none⟩ = some (.pointer (some ⟨b, 0, none⟩)) := by rw [Lib.cell_of_heap hb2]; rfl
  have d1 : w2.cell? ⟨b, 1, none⟩ = some v := by rw [Lib.cell_of_heap hb2]; rfl
  have f1 : w2.frozen? ⟨b, 1, none⟩ = false := Lib.frozen_of_heap hb2 1
  have hlt2 : ∀ k, v.ownBlock = some k → B2 ≤ k := fun k hk => (hown1.lt k hk).1
  have hK2 : Kept B2 b w w2 := HK1.out.trans ⟨hgrow.os, hgrow.tape, hgrow.output, hgrow.size, fun k hk _ => hgrow.block k (by omega) (fun e => by have := hlt2 k e.symm; omega)⟩
  obtain ⟨ao, n', cap, rfl⟩ : ∃ ao n' cap, v' = .slice ao n' cap := by
    rcases hown'.2 with ⟨hv, _⟩ | ⟨g, cap, cur, hv, _⟩
    · exact ⟨_, _, _, hv⟩
    · exact ⟨_, _, _, hv⟩
  have hne2 : (Value.slice ao n' cap).ownBlock ≠ some b := Lib.ownBlock_ne hown' hb2 (by decide)
  have hfin : WB B2 b (bs ++ Lib.strCells s) (w2.setCell ⟨b, 1, none⟩ (.slice ao n' cap)) := by
    refine ⟨⟨hbB, by have := hK2.size; simp; omega⟩, _, .slice ao n' cap, .inr rfl, ?_, ?_⟩
    · rw [setCell_eq_setRow w2 b 1 _ 88 (0, 0) _ hb2]
      exact setRow_heap w2 b _ _ 88 (0, 0) hb2
    · have h9 := hown'.kept (w' := w2.setCell ⟨b, 1, none⟩ (.slice ao n' cap)) (row := some b) ⟨rfl, rfl, rfl, by simp, fun k _ hk => Below.heap_setCell _ _ _ _ (fun e => hk (by simp [e]))⟩ (.inr hne2)
      simpa [Lib.strCells_length] using h9
  have hkf : Kept B2 b w (w2.setCell ⟨b, 1, none⟩ (.slice ao n' cap)) := hK2.trans (by
    rw [setCell_eq_setRow w2 b 1 _ 88 (0, 0) _ hb2]
    exact ⟨rfl, rfl, rfl, by simp, fun k _ hk => setRow_other w2 b k _ hk⟩)
  have HF := Lib.hid hfin
  have HKF := Lib.hid hkf
  clear hfin hkf hK2 hown' hgrow hb2 hlt2
  go_wp2_with fail
  go_ret2
  exact ⟨rfl, HF.out, HKF.out⟩
end Go.Proofs.YthohoendjipleaaGreatDoor
