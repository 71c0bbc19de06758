/-
  Numbers written in base 16. Conditions: the table of the library's trailing zeros reads as the program's text lays it.
-/
import Derived.Test.YthohoendjipleaaGreatDoorBw
import Derived.Laws.Bits64b
import Derived.IntWalk
import Derived.Lib.Itoa
import Derived.Lib.ItoaMem
namespace Go.Proofs.YthohoendjipleaaGreatDoor
open Go.RowKit Go.Sort
set_option linter.unusedSimpArgs false

/-- the library's tables, as start-up code lays them -/
abbrev Tab (w : World) : Prop := Lib.TabIs Tryz.prog w "internal/strconv.uint64pow10" .u64 Lib.pow10Tab
def Env (w : World) : Prop := Tab w ∧ w.cell? ⟨9, 15, none⟩ = some (.int .u8 4)
theorem var_later {w w' : World} {n : String} {vs : Array Value} (hl : Later w w') (h : w.var? Tryz.prog n = some vs) : w'.var? Tryz.prog n = some vs := by
  unfold World.var? at h ⊢
  cases hg : Tryz.prog.globalNamed n with
  | none => rw [hg] at h; cases h
  | some g =>
    rw [hg] at h
    simp only [Option.bind_eq_bind, Option.bind_some] at h ⊢
    have hb : g < w.heap.size := by
      rcases Nat.lt_or_ge g w.heap.size with h' | h'
      · exact h'
      · rw [Array.getElem?_eq_none h'] at h; cases h
    rw [Below.block hl g hb]; exact h
theorem Tab.later {w w' : World} (h : Tab w) (hl : Later w w') : Tab w' := var_later hl h
theorem Env.later {w w' : World} (h : Env w) (hl : Later w w') : Env w' := ⟨h.1.later hl, cell_at hl h.2 (World.block_lt_of_cell? w _ h.2)⟩

/-- a digit of base 16 -/
def hexd (n : Nat) : UInt8 := if n < 10 then (48 + n).toUInt8 else (87 + n).toUInt8
/-- the k lowest digits of a number, the highest first -/
def hexL (u k : Nat) : List UInt8 := (List.range k).map fun j => hexd (u / 16 ^ (k - 1 - j) % 16)
theorem hexL_length (u k : Nat) : (hexL u k).length = k := by simp [hexL]
theorem hexL_get (u k j : Nat) (h : j < k) : (hexL u k)[j]? = some (hexd (u / 16 ^ (k - 1 - j) % 16)) := by
  simp [hexL, h]
def DIG : ByteArray := ⟨#[48, 49, 50, 51, 52, 53, 54, 55, 56, 57, 97, 98, 99, 100, 101, 102, 103, 104, 105, 106, 107, 108, 109, 110, 111, 112, 113, 114, 115, 116, 117, 118, 119, 120, 121, 122]⟩
theorem dig_at (n : Nat) (h : n < 16) (w : World) : (Instr.index 9 (.string ⟨#[48, 49, 50, 51, 52, 53, 54, 55, 56, 57, 97, 98, 99, 100, 101, 102, 103, 104, 105, 106, 107, 108, 109, 110, 111, 112, 113, 114, 115, 116, 117, 118, 119, 120, 121, 122]⟩) (.int .u64 (n : Int))).run Tryz.prog w = .ok (.int .u8 ((hexd n).toNat : Int)) w := by
  have hh : n = 0 ∨ n = 1 ∨ n = 2 ∨ n = 3 ∨ n = 4 ∨ n = 5 ∨ n = 6 ∨ n = 7 ∨ n = 8 ∨ n = 9 ∨ n = 10 ∨ n = 11 ∨ n = 12 ∨ n = 13 ∨ n = 14 ∨ n = 15 := by omega
  clear h
  rcases hh with rfl | rfl | rfl | rfl | rfl | rfl | rfl | rfl | rfl | rfl | rfl | rfl | rfl | rfl | rfl | rfl
  all_goals (show _ = _; kernel_rfl)
theorem pow2_is (w : World) : Calls Tryz.prog 111 #[.int .i64 16] w fun e w' => e = .returned (.bool true) ∧ w = w' := by
  have hb : bits BinOp.and IntKind.i64 16 15 = 0 := by kernel_rfl
  go_enter Tryz.func111, Tryz.ntmps111
  go_wp2_with fail
  go_ret
  exact ⟨rfl, rfl⟩
theorem tz64_is (w : World) (h : w.cell? ⟨9, 15, none⟩ = some (.int .u8 4)) : Calls Tryz.prog 127 #[.int .u64 16] w fun e w' => e = .returned (.int .i64 4) ∧ w = w' := by
  have hb : IntKind.u64.wrap (bits BinOp.and IntKind.u64 16 (IntKind.u64.wrap (-16)) * 285870213051353865) / 288230376151711744 = 15 := by kernel_rfl
  go_enter Tryz.func127, Tryz.ntmps127
  go_wp2_with (simp only [hb])
  go_ret
  exact ⟨rfl, rfl⟩
theorem tz_is (w : World) (h : w.cell? ⟨9, 15, none⟩ = some (.int .u8 4)) : Calls Tryz.prog 112 #[.int .u64 16] w fun e w' => e = .returned (.int .i64 4) ∧ w = w' := by
  go_enter Tryz.func112, Tryz.ntmps112
  go_wp2_with fail
  refine (tz64_is w h).mono ?_
  rintro e w1 ⟨rfl, rfl⟩
  go_wp2_with fail
  go_ret
  exact ⟨rfl, rfl⟩

/-- behind j rounds the array holds the j lowest digits -/
def HxA (cur : Array Value) (u j : Nat) : Prop := cur.size = 65 ∧ ∀ t, t < j → cur[64 - t]? = some (.int .u8 ((hexd (u / 16 ^ t % 16)).toNat : Int))
theorem HxA.next {cur : Array Value} {u j : Nat} (h : HxA cur u j) (hj : j ≤ 64) : HxA (cur.setIfInBounds (64 - j) (.int .u8 ((hexd (u / 16 ^ j % 16)).toNat : Int))) u (j + 1) := by
  refine ⟨by simpa using h.1, fun t ht => ?_⟩
  have hs := h.1
  by_cases e : t = j
  · subst e
    rw [Array.getElem?_setIfInBounds_self_of_lt (by omega)]
  · rw [Array.getElem?_setIfInBounds_ne (by omega)]
    exact h.2 t (by omega)
def HxI (w wr : World) (u j v : Nat) (cur : Array Value) : Prop :=
  (v = u / 16 ^ j ∧ (j = 0 ∨ 16 ^ j ≤ u)) ∧ HxA cur u j ∧ wr.heap[w.heap.size]? = some (.cells cur 161 (0, 0)) ∧ Later w wr
theorem div_step (u j : Nat) : u / 16 ^ j / 16 = u / 16 ^ (j + 1) := by rw [Nat.div_div_eq_div_mul, Nat.pow_succ]
theorem HxI.next {w wr : World} {u j v : Nat} {cur : Array Value} (h : HxI w wr u j v cur) (hj : j ≤ 15) (hu : u < 18446744073709551616) (hv : 16 ≤ v) :
    HxI w (wr.setCell ⟨w.heap.size, 64 - j, none⟩ (.int .u8 ((hexd (v % 16)).toNat : Int))) u (j + 1) (v / 16) (cur.setIfInBounds (64 - j) (.int .u8 ((hexd (v % 16)).toNat : Int))) ∧ j + 1 ≤ 15 := by
  obtain ⟨⟨h1, h2⟩, h3, h4, h5⟩ := h
  have hp : 0 < 16 ^ j := Nat.pos_of_ne_zero (by simp)
  have hle : 16 ^ (j + 1) ≤ u := by
    have : 16 * 16 ^ j ≤ u := by
      rw [h1] at hv
      exact (Nat.le_div_iff_mul_le hp).1 hv
    rw [Nat.pow_succ, Nat.mul_comm]; exact this
  refine ⟨⟨⟨by rw [h1, div_step], .inr hle⟩, ?_, ?_, h5.setCell _ _ (Nat.le_refl _)⟩, ?_⟩
  · rw [h1]; exact h3.next (by omega)
  · rw [setCell_eq_setRow wr w.heap.size (64 - j) cur 161 (0, 0) _ h4]
    exact setRow_heap wr w.heap.size cur _ 161 (0, 0) h4
  · rcases Nat.lt_or_ge (j + 1) 16 with h' | h'
    · omega
    · have : 16 ^ 16 ≤ 16 ^ (j + 1) := Nat.pow_le_pow_right (by omega) h'
      omega
set_option maxRecDepth 100000 in
set_option maxHeartbeats 4000000 in
theorem formatBits_is (u : Nat) (hu : u < 18446744073709551616) (w : World) (hE : Env w) :
    Calls Tryz.prog 87 #[.slice none 0 0, .int .u64 u, .int .i64 16, .bool false, .bool false] w fun e w' => ∃ k, (1 ≤ k ∧ k ≤ 16 ∧ u < 16 ^ k) ∧ e = .returned (.tuple #[.slice none 0 0, .string ⟨(hexL u k).toArray⟩]) ∧ Later w w' := by
  have hw3 := World.block_lt_of_cell? w _ hE.2
  have hE1 := fun o => (hE.later ((Later.refl w).alloc o)).2
  have HE1 := Lib.hid hE1
  clear hE1
  go_enter Tryz.func87, Tryz.ntmps87
  go_wp2_with fail
  refine (pow2_is _).mono ?_
  rintro e w1 ⟨rfl, rfl⟩
  go_wp2_with fail
  refine (tz_is _ (HE1.out _)).mono ?_
  rintro e w1 ⟨rfl, rfl⟩
  go_wp2_with fail
  have hz65 : Tryz.zeroCells161.size = 65 := by kernel_rfl
  have hI0 : HxI w (w.alloc (Obj.cells Tryz.zeroCells161 161)) u 0 u Tryz.zeroCells161 := ⟨⟨by simp, .inl rfl⟩, ⟨hz65, fun t ht => by omega⟩, heap_alloc_last w _, (Later.refl w).alloc _⟩
  clear HE1 hz65
  go_loopw [1, 13] (fun s1 s13 wr => ∃ (j i v : Nat) (cur : Array Value), j + i = 64 ∧ j ≤ 15 ∧ s1 = .int .u64 v ∧ s13 = .int .i64 ((i : Int) + 1) ∧ HxI w wr u j v cur) (fun _ s13 _ => (RowKit.intOf s13).toNat)
  case atStart => exact ⟨0, 64, u, _, by omega, by omega, rfl, rfl, hI0⟩
  case round =>
    obtain ⟨j, i, v, cur, hji, hj, rfl, rfl, hI⟩ := hrel
    rename World => wk
    clear hI0
    have hi64 : i ≤ 64 := by omega
    have hi0 : 1 ≤ i := by omega
    have hii : ((i : Int) + 1 - 1).toNat = i := by omega
    have hvu : v ≤ u := by rw [hI.1.1]; exact Nat.div_le_self _ _
    have hv64 : v < 18446744073709551616 := by omega
    have hcs : cur.size = 65 := hI.2.1.1
    have hc : wk.cell? ⟨w.heap.size, i, none⟩ = some (cur[i]'(by omega)) := by
      rw [Lib.cell_of_heap hI.2.2.1]; exact Array.getElem?_eq_getElem (by omega)
    have hf : wk.frozen? ⟨w.heap.size, i, none⟩ = false := Lib.frozen_of_heap hI.2.2.1 i
    obtain ⟨old, hold⟩ : ∃ old, cur[i]'(by omega) = old := ⟨_, rfl⟩
    rw [hold] at hc
    have HCS := Lib.hid hcs
    clear hcs hold
    by_cases hv : 16 ≤ v
    · have hnx := hI.next hj hu hv
      rw [show 64 - j = i by omega] at hnx
      have HNX := Lib.hid hnx
      have HJ := Lib.hid hji
      clear hnx hI hji
      have hd1 : decide ((16 : Int) ≤ (v : Int)) = true := by simp; omega
      obtain ⟨d, hd⟩ : ∃ d, v % 16 = d := ⟨_, rfl⟩
      have hand : bits BinOp.and IntKind.u64 (v : Int) 15 = (d : Int) := by
        have := bits_and_u64_nat v 15 hv64 (by omega)
        rw [show ((15 : Nat) : Int) = 15 from rfl] at this
        rw [this, ← hd, show (15 : Nat) = 2 ^ 4 - 1 from rfl, Nat.and_two_pow_sub_one_eq_mod]
      have hdig := dig_at d (by omega)
      rw [hd] at HNX
      clear hd
      go_wp2_with fail
      go_roundw
      case rel => exact ⟨j + 1, i - 1, v / 16, _, by have := HJ.out; omega, HNX.out.2, by rw [Int.natCast_ediv]; rfl, by rw [show ((i - 1 : Nat) : Int) + 1 = (i : Int) by omega], HNX.out.1⟩
      case measure => simp [RowKit.intOf]
    · have hd1 : decide ((16 : Int) ≤ (v : Int)) = false := by simp; omega
      have hdig := dig_at v (by omega)
      have hAX : HxA (cur.setIfInBounds i (.int .u8 ((hexd v).toNat : Int))) u (j + 1) := by
        have h := hI.2.1.next (j := j) (by omega)
        rw [← hI.1.1, Nat.mod_eq_of_lt (by omega : v < 16), show 64 - j = i by omega] at h
        exact h
      have hW : (wk.setCell ⟨w.heap.size, i, none⟩ (.int .u8 ((hexd v).toNat : Int))).heap[w.heap.size]? = some (.cells (cur.setIfInBounds i (.int .u8 ((hexd v).toNat : Int))) 161 (0, 0)) := by
        rw [setCell_eq_setRow wk w.heap.size i cur 161 (0, 0) _ hI.2.2.1]
        exact setRow_heap wk w.heap.size cur _ 161 (0, 0) hI.2.2.1
      have hL : Later w (wk.setCell ⟨w.heap.size, i, none⟩ (.int .u8 ((hexd v).toNat : Int))) := hI.2.2.2.setCell _ _ (Nat.le_refl _)
      have hku : u < 16 ^ (j + 1) := by
        have hp : 0 < 16 ^ j := Nat.pos_of_ne_zero (by simp)
        have h1 : u / 16 ^ j < 16 := by rw [← hI.1.1]; omega
        rw [Nat.pow_succ, Nat.mul_comm]
        exact (Nat.div_lt_iff_lt_mul hp).1 h1
      have hcv : (convert 86 9 (.slice (some ⟨w.heap.size, i, none⟩) (65 - i) (65 - i))).run Tryz.prog (wk.setCell ⟨w.heap.size, i, none⟩ (.int .u8 ((hexd v).toNat : Int))) = .ok (.string ⟨(hexL u (j + 1)).toArray⟩) (wk.setCell ⟨w.heap.size, i, none⟩ (.int .u8 ((hexd v).toNat : Int))) := by
        have h := run_convert_bytes_back (P := Tryz.prog) (wk.setCell ⟨w.heap.size, i, none⟩ (.int .u8 ((hexd v).toNat : Int))) 86 9 5 ⟨w.heap.size, i, none⟩ (65 - i) (hexL u (j + 1)) Tryz.underlying86 Tryz.underlying5 Tryz.underlying9 (fun t ht => by
          rw [hexL_length] at ht
          have e1 := hAX.2 (j - t) (by omega)
          have e2 := hexL_get u (j + 1) t ht
          rw [List.getElem?_eq_getElem (by rw [hexL_length]; exact ht)] at e2
          injection e2 with e2
          rw [e2, show j + 1 - 1 - t = j - t by omega, Lib.add_plain, Lib.cell_of_heap hW, show i + t = 64 - (j - t) by omega]
          exact e1)
        rw [hexL_length, show j + 1 = 65 - i by omega] at h
        rw [show j + 1 = 65 - i by omega]
        exact h
      have hal : Tryz.prog.arrayLen 161 = 65 := by kernel_rfl
      have hsl : ∀ W, (Instr.sliceAt 161 (.pointer (some ⟨w.heap.size, 0, none⟩)) (some (.int .i64 (i : Int))) none none).run Tryz.prog W = .ok (.slice (some ⟨w.heap.size, i, none⟩) (65 - i) (65 - i)) W := fun W => by
        rw [run_sliceAt_array_l W 161 ⟨w.heap.size, 0, none⟩ (by simp [Program.arrayLen, Program.elem, Tryz.underlying161]) .i64 (i : Int) (by omega) (by rw [hal]; omega)]
        go_simp
        omega
      have HKU := Lib.hid hku
      have HLL := Lib.hid hL
      have HJ := Lib.hid (And.intro hj hji)
      clear hku hL hAX hW hI hal hj hji hvu
      go_wp2_with fail
      go_ret2
      exact ⟨j + 1, ⟨by omega, by have := HJ.out; omega, HKU.out⟩, rfl, HLL.out⟩
theorem formatHex_in (u : Nat) (hu : u < 18446744073709551616) (w : World) (hE : Env w) :
    Calls Tryz.prog 58 #[.int .u64 u, .int .i64 16] w fun e w' => ∃ k, (1 ≤ k ∧ k ≤ 16 ∧ u < 16 ^ k) ∧ e = .returned (.string ⟨(hexL u k).toArray⟩) ∧ Later w w' := by
  go_enter Tryz.func58, Tryz.ntmps58
  go_wp2_with fail
  refine (formatBits_is u hu _ hE).mono ?_
  rintro e w1 ⟨k, hk, rfl, hb⟩
  go_wp2_with fail
  go_ret
  exact ⟨k, hk, rfl, hb⟩
theorem formatHex_is (u : Nat) (hu : u < 18446744073709551616) (w : World) (hE : Env w) :
    Calls Tryz.prog 34 #[.int .u64 u, .int .i64 16] w fun e w' => ∃ k, (1 ≤ k ∧ k ≤ 16 ∧ u < 16 ^ k) ∧ e = .returned (.string ⟨(hexL u k).toArray⟩) ∧ Later w w' := by
  go_enter Tryz.func34, Tryz.ntmps34
  go_wp2_with fail
  refine (formatHex_in u hu _ hE).mono ?_
  rintro e w1 ⟨k, hk, rfl, hb⟩
  go_wp2_with fail
  go_ret
  exact ⟨k, hk, rfl, hb⟩
end Go.Proofs.YthohoendjipleaaGreatDoor
