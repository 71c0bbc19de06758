/-
 Texts of this proof, put together (CpZ, FzZ): each part's first words say what it holds. Conditions: as each part says.
-/
import Derived.Test.YtkbedajbbakihaaGreatDoorQa2
import Derived.LoopN
import Derived.Test.YtkbedajbbakihaaGreatDoorQe1
import Derived.Test.YtkbedajbbakihaaGreatDoorQg1
import Derived.Test.YtkbedajbbakihaaGreatDoorQe2
import Derived.Deep.WholeRow
import Derived.Great.BuildSlice
/-
 Numbers within their bounds, and lists of numbers compared, walked. Conditions: the lists lie in memory.
-/
namespace Go.Proofs.YtkbedajbbakihaaGreatDoor
open Go.RowKit
set_option linter.unusedSimpArgs false
set_option linter.unusedVariables false

def fitsB (n : Int) : Bool := decide (0 ≤ n) && decide (n ≤ 999999999)
theorem fitsB_iff (n : Int) : fitsB n = true ↔ 0 ≤ n ∧ n ≤ 999999999 := by simp [fitsB]
/-- n integers from cell off of block X on -/
def IntsAt (w : World) (X off : Nat) (ns : List Int) : Prop := ∀ i, i < ns.length → w.cell? ⟨X, off + i, none⟩ = some (.int .i64 (ns.getD i 0))
theorem inside_is (X : Nat) (ns : List Int) (m : Nat) (hm : ns.length = m) (hm2 : m ≤ 1000000) (w : World) (hc : IntsAt w X 0 ns) (b : Bool) (hb : ns.all fitsB = b) :
  Calls Tryz.prog 68 #[.slice (some ⟨X, 0, none⟩) m m] w fun e w' => e = .returned (.bool b) ∧ w' = w := by
 have HC := Lib.hid hc
 have HB := Lib.hid hb
 have HM := Lib.hid hm
 clear hc hb hm
 go_enter Tryz.func68, Tryz.ntmps68
 go_wp2
 go_loop [7] (fun i => ∃ k : Nat, k ≤ m ∧ i = .int .i64 k ∧ ((ns.take k).all fitsB) = true) (fun i => m - (intOf i).toNat)
 case atStart => exact ⟨0, Nat.zero_le _, rfl, by simp⟩
 case round =>
  obtain ⟨k, hk, rfl, hall⟩ := hrel
  by_cases hlt : k < m
  ·have hkc := HC.out k (by have := HM.out; omega)
   obtain ⟨n, hn⟩ : ∃ n, ns.getD k 0 = n := ⟨_, rfl⟩
   rw [hn] at hkc
   have hget : ns[k]? = some n := by
    rw [List.getD_eq_getElem?_getD, List.getElem?_eq_getElem (by have := HM.out; omega)] at hn
    rw [List.getElem?_eq_getElem (by have := HM.out; omega)]
    exact congrArg some hn
   have HALL := Lib.hid hall
   have HG := Lib.hid hget
   rw [Nat.zero_add] at hkc
   clear hall hget hn
   by_cases hn0 : n < 0
   ·have HF := Lib.hid (show b = false by
     rw [← HB.out, List.all_eq_false]
     exact ⟨n, List.mem_of_getElem? HG.out, by simp [fitsB]; omega⟩)
    go_wp2
    go_ret
    exact ⟨by rw [HF.out]; rfl, rfl⟩
   ·have h0 : 0 ≤ n := by omega
    by_cases hn1 : 999999999 < n
    ·have HF := Lib.hid (show b = false by
      rw [← HB.out, List.all_eq_false]
      exact ⟨n, List.mem_of_getElem? HG.out, by simp [fitsB]; omega⟩)
     go_wp2
     go_ret
     exact ⟨by rw [HF.out]; rfl, rfl⟩
    ·have h1 : n ≤ 999999999 := by omega
     have HT := Lib.hid (show ((ns.take (k + 1)).all fitsB) = true by
      rw [List.take_add_one, HG.out, List.all_append, HALL.out]
      simp [fitsB]; omega)
     go_wp2
     go_round
     case rel => exact ⟨k + 1, by omega, by go_num, HT.out⟩
     case measure => simp [intOf]; omega
  ·have HF := Lib.hid (show b = true by
    rw [← HB.out, ← hall, List.take_of_length_le (by have := HM.out; omega)])
   clear hall
   go_wp2
   go_ret
   exact ⟨by rw [HF.out]; rfl, rfl⟩
theorem SameInts_is (X ox Y oy : Nat) (xs ys : List Int) (n ca cb : Nat) (hx : xs.length = n) (hy : ys.length = n) (hn : n ≤ 1000000) (w : World) (cx : IntsAt w X ox xs) (cy : IntsAt w Y oy ys) (r : Bool) (hr : decide (xs = ys) = r) :
  Calls Tryz.prog 52 #[.slice (some ⟨X, ox, none⟩) n ca, .slice (some ⟨Y, oy, none⟩) n cb] w fun e w' => e = .returned (.bool r) ∧ Later w w' := by
 have HC := Lib.hid (And.intro cx cy)
 have HL := Lib.hid (And.intro hx hy)
 have HR := Lib.hid hr
 have HLW := Lib.hid (fun k => (Later.refl w).drewN k)
 have HLW2 := Lib.hid (fun k j => ((Later.refl w).drewN k).drewN j)
 clear cx cy hx hy hr
 go_enter Tryz.func52, Tryz.ntmps52
 go_wp2
 go_loopw [5] (fun i wr => ∃ k nd : Nat, k ≤ n ∧ i = .int .i64 k ∧ wr = w.drewN nd ∧ xs.take k = ys.take k) (fun i _ => n - (intOf i).toNat)
 case atStart => exact ⟨0, 0, Nat.zero_le _, rfl, rfl, by simp⟩
 case round =>
  obtain ⟨k, nd, hk, rfl, rfl, heq⟩ := hrel
  by_cases hlt : k < n
  ·have hkx : w.cell? ⟨X, ox + k, none⟩ = some (.int .i64 (xs.getD k 0)) := HC.out.1 k (by have := HL.out; omega)
   have hky : w.cell? ⟨Y, oy + k, none⟩ = some (.int .i64 (ys.getD k 0)) := HC.out.2 k (by have := HL.out; omega)
   have gx : xs[k]? = some (xs.getD k 0) := by rw [List.getD_eq_getElem?_getD, List.getElem?_eq_getElem (by have := HL.out; omega)]; rfl
   have gy : ys[k]? = some (ys.getD k 0) := by rw [List.getD_eq_getElem?_getD, List.getElem?_eq_getElem (by have := HL.out; omega)]; rfl
   obtain ⟨x, hx⟩ : ∃ x, xs.getD k 0 = x := ⟨_, rfl⟩
   obtain ⟨y, hy⟩ : ∃ y, ys.getD k 0 = y := ⟨_, rfl⟩
   rw [hx] at hkx gx
   rw [hy] at hky gy
   have HE := Lib.hid heq
   have HG := Lib.hid (And.intro gx gy)
   clear heq gx gy hx hy
   by_cases hxy : x = y
   ·subst hxy
    have HT := Lib.hid (show xs.take (k + 1) = ys.take (k + 1) by rw [List.take_add_one, List.take_add_one, HE.out, HG.out.1, HG.out.2])
    go_wp2_with fail
    go_quiet (fail)
    go_wp2_with fail
    go_roundw
    case rel => exact ⟨k + 1, nd + _, by omega, by go_num, rfl, HT.out⟩
    case measure => simp [intOf]; omega
   ·have hb : (x == y) = false := by simpa using hxy
    have hb2 : (x != y) = true := by simpa using hxy
    have HF := Lib.hid (show r = false by
     rw [← HR.out]
     apply decide_eq_false
     intro h
     have h1 := HG.out.1
     rw [h, HG.out.2] at h1
     exact hxy (Option.some.inj h1).symm)
    clear hxy
    go_wp2_with fail
    go_quiet (fail)
    go_wp2_with fail
    go_ret
    exact ⟨by rw [HF.out]; rfl, HLW2.out _ _⟩
  ·have HF := Lib.hid (show r = true by
    rw [← HR.out, decide_eq_true_eq]
    rw [List.take_of_length_le (by have := HL.out; omega), List.take_of_length_le (by have := HL.out; omega)] at heq
    exact heq)
   clear heq
   go_wp2_with fail
   go_ret
   exact ⟨by rw [HF.out]; rfl, HLW.out _⟩
/-- the two pairs of the law's example -/
def exP : List Value := [.string ⟨#[97]⟩, .string ⟨#[49]⟩, .string ⟨#[98]⟩, .string ⟨#[]⟩]
set_option maxRecDepth 100000 in
theorem SamePairs_ex (X Y ca cb : Nat) (w : World) (cx : ∀ i v, exP[i]? = some v → w.cell? ⟨X, i, none⟩ = some v) (cy : ∀ i v, exP[i]? = some v → w.cell? ⟨Y, i, none⟩ = some v) :
  Calls Tryz.prog 58 #[.slice (some ⟨X, 0, none⟩) 2 ca, .slice (some ⟨Y, 0, none⟩) 2 cb] w fun e w' => e = .returned (.bool true) ∧ Later w w' := by
 have x0 := cx 0 _ rfl
 have x1 := cx 1 _ rfl
 have x2 := cx 2 _ rfl
 have x3 := cx 3 _ rfl
 have y0 := cy 0 _ rfl
 have y1 := cy 1 _ rfl
 have y2 := cy 2 _ rfl
 have y3 := cy 3 _ rfl
 have h1 : ∀ W : World, (binOp .neq 112 (.agg #[.string ⟨#[97]⟩, .string ⟨#[49]⟩]) (.agg #[.string ⟨#[97]⟩, .string ⟨#[49]⟩])).run Tryz.prog W = .ok (.bool false) W := fun W => by kernel_rfl
 have h2 : ∀ W : World, (binOp .neq 112 (.agg #[.string ⟨#[98]⟩, .string ⟨#[]⟩]) (.agg #[.string ⟨#[98]⟩, .string ⟨#[]⟩])).run Tryz.prog W = .ok (.bool false) W := fun W => by kernel_rfl
 have HLW := Lib.hid (fun k => (Later.refl w).drewN k)
 clear cx cy
 go_enter Tryz.func58, Tryz.ntmps58
 go_wp2_with fail
 refine wp_loop_rounds 3 ?_
 rw [rounds_succ]
 go_wp2_with fail
 go_quiet (fail)
 go_wp2_with fail
 rw [rounds_succ]
 go_wp2_with fail
 go_quiet (fail)
 go_wp2_with fail
 rw [rounds_succ]
 go_wp2_with fail
 go_ret
 exact ⟨rfl, HLW.out _⟩
end Go.Proofs.YtkbedajbbakihaaGreatDoor

/-
 Format, walked. Conditions: the script lies in memory; its requests have at most 5 * 10^6 letters each; the listed variables read as laid.
-/
namespace Go.Proofs.YtkbedajbbakihaaGreatDoor
open Go.RowKit Go.Sort Go.Lib
set_option linter.unusedSimpArgs false
set_option linter.unusedVariables false

/-- an entry's cells -/
def ent1 (e : Int × Req) : List Value := .int .i64 e.1 :: (reqA e.2).toList
theorem ent1_len (e : Int × Req) : (ent1 e).length = 13 := rfl
/-- v is a slice over entries -/
def EntsAt (w : World) (v : Value) (es : List (Int × Req)) : Prop := ∃ ao cap, v = .slice ao es.length cap ∧ (es.length = 0 ∨ ∃ X off, ao = some ⟨X, off, none⟩ ∧ ∀ i e, es[i]? = some e → w.rangeAt X (off + i * 13) (ent1 e))
/-- v is a slice over numbers -/
def NumsAt (w : World) (v : Value) (ps : List Int) : Prop := ∃ ao cap, v = .slice ao ps.length cap ∧ (ps.length = 0 ∨ ∃ X off, ao = some ⟨X, off, none⟩ ∧ IntsAt w X off ps)
theorem cell_lt {w : World} {a : Addr} {v : Value} (h : w.cell? a = some v) : a.block < w.heap.size := World.block_lt_of_cell? w a h
theorem EntsAt.later {w w' : World} {v : Value} {es : List (Int × Req)} (h : EntsAt w v es) (hl : Later w w') : EntsAt w' v es := by
 obtain ⟨ao, cap, h1, h2⟩ := h
 refine ⟨ao, cap, h1, h2.imp id ?_⟩
 rintro ⟨X, off, h3, h4⟩
 exact ⟨X, off, h3, fun i e he j u hj => cell_at hl (h4 i e he j u hj) (cell_lt (h4 i e he j u hj))⟩
theorem NumsAt.later {w w' : World} {v : Value} {ps : List Int} (h : NumsAt w v ps) (hl : Later w w') : NumsAt w' v ps := by
 obtain ⟨ao, cap, h1, h2⟩ := h
 refine ⟨ao, cap, h1, h2.imp id ?_⟩
 rintro ⟨X, off, h3, h4⟩
 exact ⟨X, off, h3, fun i hi => cell_at hl (h4 i hi) (cell_lt (h4 i hi))⟩
theorem entC_at (es : List (Int × Req)) : ∀ (i j : Nat) (e : Int × Req) (u : Value), es[i]? = some e → (ent1 e)[j]? = some u → (entC es)[i * 13 + j]? = some u := by
 induction es with
 | nil => intro i j e u h; simp at h
 | cons a t ih =>
  intro i j e u h hu
  have hs : entC (a :: t) = ent1 a ++ entC t := by simp [entC, ent1]
  rw [hs]
  cases i with
  | zero =>
   obtain rfl : a = e := by simpa using h
   rw [Nat.zero_mul, Nat.zero_add, List.getElem?_append_left (List.getElem?_eq_some_iff.1 hu).1]
   exact hu
  | succ i =>
   rw [List.getElem?_append_right (by rw [ent1_len]; omega), ent1_len, show (i + 1) * 13 + j - 13 = i * 13 + j by omega]
   exact ih i j e u (by simpa using h) hu
theorem EntsAt.of_owns {w : World} {base : Nat} {v : Value} {es : List (Int × Req)} (h : w.ownsRow base 59 13 v es.length (entC es)) : EntsAt w v es := by
 rcases h.2 with ⟨rfl, h0⟩ | ⟨g, cap, cur, rfl, _, hg, _⟩
 ·exact ⟨none, 0, by rw [h0], .inl h0⟩
 ·refine ⟨_, cap, rfl, .inr ⟨g, 0, rfl, fun i e he j u hj => ?_⟩⟩
  have := h.cells (g := g) rfl (i * 13 + j) u (entC_at es i j e u he hj)
  rw [show (⟨g, 0, none⟩ : Addr).add (i * 13 + j) = ⟨g, i * 13 + j, none⟩ by unfold Addr.add; split <;> simp_all] at this
  rw [Nat.zero_add]
  exact this
theorem NumsAt.of_owns {w : World} {base : Nat} {v : Value} {ps : List Int} (h : w.ownsRow base 3 1 v ps.length (ints ps)) : NumsAt w v ps := by
 rcases h.2 with ⟨rfl, h0⟩ | ⟨g, cap, cur, rfl, _, hg, _⟩
 ·exact ⟨none, 0, by rw [h0], .inl h0⟩
 ·refine ⟨_, cap, rfl, .inr ⟨g, 0, rfl, fun i hi => ?_⟩⟩
  have h1 : (ints ps)[i]? = some (.int .i64 (ps.getD i 0)) := by simp [ints, hi, List.getD_eq_getElem?_getD]
  have := h.cells (g := g) rfl i _ h1
  rw [show (⟨g, 0, none⟩ : Addr).add i = ⟨g, i, none⟩ by unfold Addr.add; split <;> simp_all] at this
  rw [Nat.zero_add]
  exact this
/-- entries fit -/
def EsFit (es : List (Int × Req)) : Prop := ∀ e ∈ es, inI e.1 ∧ e.2.fit
/-- how Format ends -/
def FmEnd (res : Except Int (List UInt8)) (w : World) (e : Ending) (w' : World) : Prop := Later w w' ∧ match res with
 | .error c => e = .returned (.tuple #[.string ⟨#[]⟩, .int .i64 c])
 | .ok t => e = .returned (.tuple #[strV t, .int .i64 0])
/-- Format's state: A is written -/
structure FmS (w : World) (N : Nat) (ev pv : Value) (A : List UInt8) (wr : World) : Prop where
 wb : WB (N + 1) N (Lib.byteCells A) wr
 later : Later w wr
 box : wr.heap[w.heap.size]? = some (.cells #[ev, pv] 45 (0, 0))
theorem FmS.after {w : World} {N : Nat} {ev pv : Value} {A : List UInt8} {wr wr' : World} (h : FmS w N ev pv A wr) (hN : w.heap.size + 1 = N) (hl : Later wr wr') : FmS w N ev pv A wr' :=
 ⟨h.wb.later hl, h.later.trans hl, (hl.block _ (by have := h.wb.1; omega)).trans h.box⟩
theorem FmS.write {w : World} {N : Nat} {ev pv : Value} {A B : List UInt8} {wr wr' : World} (h : FmS w N ev pv A wr) (hN : w.heap.size + 1 = N) (s : ByteArray) (hs : s.data.toList = B) (hb : WB (N + 1) N (Lib.byteCells A ++ Lib.strCells s) wr') (hk : Kept (N + 1) N wr wr') : FmS w N ev pv (A ++ B) wr' :=
 ⟨by rw [show Lib.byteCells (A ++ B) = Lib.byteCells A ++ Lib.strCells s by simp [Lib.byteCells, Lib.strCells, hs]]; exact hb, hk.later h.later (by omega) (by omega), (hk.block _ (by omega) (by omega)).trans h.box⟩
theorem entsL_take {es : List (Int × Req)} {k : Nat} {e : Int × Req} {A : List UInt8} (h : es[k]? = some e) (hA : entsL (es.take k) = some A) : entsL (es.take (k + 1)) = (entL e).map (A ++ ·) := by
 rw [List.take_add_one, h, entsL_append, hA, Option.bind_some]
 simp only [Option.toList_some, entsL]
 cases entL e <;> simp
theorem entsL_none {es : List (Int × Req)} {k : Nat} (h : entsL (es.take k) = none) : entsL es = none := by
 have h1 := entsL_append (es.take k) (es.drop k)
 rw [List.take_append_drop, h] at h1
 rw [h1]; rfl
theorem pkF_take (m : Nat) {ps : List Int} {k : Nat} {p : Int} (h : ps[k]? = some p) : pkF m 0 (ps.take (k + 1)) = pkF m 0 (ps.take k) ++ pkB m k p := by
 have hk : k < ps.length := (List.getElem?_eq_some_iff.1 h).1
 rw [List.take_add_one, h, pkF_append, Nat.zero_add, List.length_take, Nat.min_eq_left (by omega)]
 simp [pkF]
theorem showP_len {r : Req} (hr : r.fit) {t : List UInt8} (h : showP r = some t) : t.length ≤ 80000000 := by
 obtain ⟨ws, h1, rfl⟩ := showP_line h
 obtain ⟨d, vs, _, h3, rfl, h4⟩ := line_words h1
 have h5 := jn_len (nameN d :: vs)
 obtain ⟨h6, h7⟩ := shFs_sum r hr _ vs h3
 have h8 : (fldsN d).length ≤ 4 := by
  have := flds_len (d - 1)
  rwa [show d - 1 + 1 = d by omega] at this
 have h9 : (nameN d).length ≤ 10 := by
  have hall : ∀ k ∈ [1, 2, 3, 4, 5, 6, 7, 8, 9, 10], (nameN k).length ≤ 10 := by decide
  exact hall d (by simp; omega)
 simp only [sumL, List.map_cons, List.sum_cons, List.length_cons] at h5 h7
 omega

set_option maxRecDepth 100000 in
set_option maxHeartbeats 8000000 in
theorem Format_big (ev pv : Value) (s : Scr) (w : World) (hb : bigP s = true) (hev : EntsAt w ev s.1) (hpv : NumsAt w pv s.2) (hn : s.1.length ≤ 140737488355328) (hm : s.2.length ≤ 140737488355328) :
  Calls Tryz.prog 25 #[.agg #[ev, pv]] w (FmEnd (fmtP s) w) := by
 have hf : fmtP s = .error 3 := by unfold fmtP; rw [if_pos hb]
 rw [hf]
 obtain ⟨ae, ce, rfl, -⟩ := hev
 obtain ⟨ap, cp, rfl, -⟩ := hpv
 obtain ⟨n, hn'⟩ : ∃ n, s.1.length = n := ⟨_, rfl⟩
 obtain ⟨m, hm'⟩ : ∃ m, s.2.length = m := ⟨_, rfl⟩
 unfold bigP at hb
 rw [hn', hm'] at hb
 rw [hn'] at hn ⊢
 rw [hm'] at hm ⊢
 have HF := Lib.hid (fun w' (hl : Later w w') => show FmEnd (.error 3) w (.returned (.tuple #[.string ⟨#[]⟩, .int .i64 3])) w' from ⟨hl, rfl⟩)
 have HL := Lib.hid (fun o => (Later.refl w).alloc o)
 clear hf hn' hm'
 by_cases h1 : 4096 < n
 ·have d1 : decide ((4096 : Int) < (n : Int)) = true := by simp; omega
  have d1' : (4096 : Int) < (n : Int) := by omega
  clear hb
  go_enter Tryz.func25, Tryz.ntmps25
  go_wp2_with fail
  go_ret2
  exact HF.out _ (HL.out _)
 ·have h2 : 65536 < m := by simpa [h1] using hb
  have d1 : decide ((4096 : Int) < (n : Int)) = false := by simp; omega
  have d1' : ¬ (4096 : Int) < (n : Int) := by omega
  have d2 : decide ((65536 : Int) < (m : Int)) = true := by simp; omega
  have d2' : (65536 : Int) < (m : Int) := by omega
  clear hb
  go_enter Tryz.func25, Tryz.ntmps25
  go_wp2_with fail
  go_ret2
  exact HF.out _ (HL.out _)
set_option maxRecDepth 100000 in
set_option maxHeartbeats 16000000 in
theorem Format_is (ev pv : Value) (s : Scr) (w : World) (hw : Laid w) (hb : bigP s = false) (hev : EntsAt w ev s.1) (hpv : NumsAt w pv s.2) (hfit : EsFit s.1) (hin : ∀ p ∈ s.2, inI p) :
  Calls Tryz.prog 25 #[.agg #[ev, pv]] w (FmEnd (fmtP s) w) := by
 obtain ⟨es, ps⟩ := s
 dsimp only at hev hpv hfit hin
 have hbl := big_le (s := (es, ps)) (by rw [hb]; simp)
 have hf : fmtP (es, ps) = match entsL es with
  | none => .error 4
  | some a => if 262144 < (a ++ pkF ps.length 0 ps).length then .error 3 else .ok (a ++ pkF ps.length 0 ps) := by
  unfold fmtP; rw [hb, if_neg (by simp)]; rfl
 obtain ⟨res, hres⟩ : ∃ res, fmtP (es, ps) = res := ⟨_, rfl⟩
 rw [hres]
 rw [hres] at hf
 have HEV := Lib.hid (fun w' (hl : Later w w') => hev.later hl)
 have HPV := Lib.hid (fun w' (hl : Later w w') => hpv.later hl)
 obtain ⟨ae, ce, rfl, -⟩ := hev
 obtain ⟨ap, cp, rfl, -⟩ := hpv
 obtain ⟨n, hn'⟩ : ∃ n, es.length = n := ⟨_, rfl⟩
 obtain ⟨m, hm'⟩ : ∃ m, ps.length = m := ⟨_, rfl⟩
 dsimp only at hbl
 rw [hn', hm'] at hbl
 rw [hm'] at hf
 rw [hn'] at HEV ⊢
 rw [hm'] at HPV ⊢
 have HNM := Lib.hid (And.intro hn' hm')
 have HW := Lib.hid hw
 have HFIT := Lib.hid (And.intro hfit hin)
 have HRES := Lib.hid hf
 obtain ⟨hb1, hb2⟩ := hbl
 have d1 : decide ((4096 : Int) < (n : Int)) = false := by simp; omega
 have d1' : ¬ (4096 : Int) < (n : Int) := by omega
 have d2 : decide ((65536 : Int) < (m : Int)) = false := by simp; omega
 have d2' : ¬ (65536 : Int) < (m : Int) := by omega
 obtain ⟨N, hN⟩ : ∃ N, w.heap.size + 1 = N := ⟨_, rfl⟩
 have HN := Lib.hid hN
 have HFS0 := Lib.hid (show FmS w N (.slice ae n ce) (.slice ap m cp) [] ((w.alloc (.cells #[.slice ae n ce, .slice ap m cp] 45)).alloc (.cells #[.pointer none, .slice none 0 0] 62)) by
  have h1 := WB.fresh (w.alloc (.cells #[.slice ae n ce, .slice ap m cp] 45))
  rw [World.size_alloc, hN] at h1
  refine ⟨h1, ((Later.refl w).alloc _).alloc _, ?_⟩
  rw [heap_alloc_lt _ _ _ (by simp)]
  exact (MapKept.heap_alloc w _).1)
 have HE4 := Lib.hid (fun w' (hl : Later w w') (hn : entsL es = none) => show FmEnd res w (.returned (.tuple #[.string ⟨#[]⟩, .int .i64 4])) w' by
  rw [hf, hn]
  exact ⟨hl, rfl⟩)
 clear hn' hm' hw hfit hin hf hres hN hb
 go_enter Tryz.func25, Tryz.ntmps25
 go_wp2_with fail
 rw [HN.out]
 go_loopw [24] (fun i wr => ∃ (k : Nat) (A : List UInt8), k ≤ n ∧ i = .int .i64 k ∧ entsL (es.take k) = some A ∧ A.length ≤ k * 100000000 ∧ FmS w N (.slice ae n ce) (.slice ap m cp) A wr) (fun i _ => n - (RowKit.intOf i).toNat)
 case atStart => exact ⟨0, [], by omega, rfl, by simp [entsL], by simp, HFS0.out⟩
 case round =>
  obtain ⟨k, A, hk, rfl, hA, hAl, hfs⟩ := hrel
  rename World => wk
  have HFS := Lib.hid hfs
  have HA := Lib.hid hA
  have HAL := Lib.hid hAl
  clear hA hAl hfs HFS0
  by_cases hlt : k < n
  ·have hX := HEV.out wk HFS.out.later
   obtain ⟨ae', ce', hvv, h0 | ⟨X, off, rfl, hrg⟩⟩ := hX
   ·have := HNM.out.1; omega
   ·injection hvv with q1 q2 q3
    subst q1
    have hke : k < es.length := by have := HNM.out.1; omega
    obtain ⟨e, he⟩ : ∃ e, es[k]? = some e := ⟨_, List.getElem?_eq_getElem hke⟩
    have hr := hrg k e he
    have hef := HFIT.out.1 e (List.mem_of_getElem? he)
    obtain ⟨D, hD⟩ : ∃ D, ent1 e = D := ⟨_, rfl⟩
    rw [hD] at hr
    have hDl : D.length = 13 := by rw [← hD]; rfl
    have HR := Lib.hid hr
    have HE := Lib.hid (And.intro he hef)
    have HD := Lib.hid (And.intro hD hDl)
    have hDi : (Tryz.prog.info? 59).map (·.size) = some D.length := by rw [hDl]; kernel_rfl
    have hDz : (#[.int .i64 0, .int .i64 0, .int .i64 0, .int .u32 0, .int .u8 0, .string ⟨#[]⟩, .string ⟨#[]⟩, .string ⟨#[]⟩, .int .i64 0, .int .i64 0, .int .u64 0, .int .u64 0, .int .u8 0] : Array Value).size = D.toArray.size := by simp [hDl]
    have hDo : D.toArray.all (·.oneCell') = true := by rw [← hD]; simp [ent1, reqA, strV, Value.oneCell']
    have hDi2 : (Tryz.prog.info? 59).map (·.size) = some D.toArray.size := by rw [List.size_toArray]; exact hDi
    have HDI := Lib.hid (And.intro hDi (And.intro hDz (And.intro hDo hDi2)))
    have HBOX := Lib.hid (show ∀ W : World, (W.alloc (.cells #[.int .i64 0, .int .i64 0, .int .i64 0, .int .u32 0, .int .u8 0, .string ⟨#[]⟩, .string ⟨#[]⟩, .string ⟨#[]⟩, .int .i64 0, .int .i64 0, .int .u64 0, .int .u64 0, .int .u8 0] 59)).heap[W.heap.size]? = some (.cells #[.int .i64 0, .int .i64 0, .int .i64 0, .int .u32 0, .int .u8 0, .string ⟨#[]⟩, .string ⟨#[]⟩, .string ⟨#[]⟩, .int .i64 0, .int .i64 0, .int .u64 0, .int .u64 0, .int .u8 0] 59 (0, 0)) from fun W => (MapKept.heap_alloc W _).1)
    clear hr he hef hD hDl hDi hDi2 hDz hDo hrg q2 q3
    go_upto_region 7 with (first | (refine wpList_load_mid rfl 59 (.tmp 26) rfl X (off + k * 13) rfl D _ HR.out Tryz.underlying59 rfl HDI.out.1 ?_) | (refine wpList_store_rowTo rfl 59 (.tmp 6) (.tmp 27) rfl rfl wk.heap.size D.toArray rfl rfl 59 _ (HBOX.out wk) HDI.out.2.2.2 HDI.out.2.1 HDI.out.2.2.1 ?_; rw [World.setRow_alloc_new]))
    obtain ⟨E, hE⟩ : ∃ E, wk.heap.size = E := ⟨_, rfl⟩
    obtain ⟨W1, hW1⟩ : ∃ W1, wk.alloc (.cells D.toArray 59) = W1 := ⟨_, rfl⟩
    have hl1 : Later wk W1 := by rw [← hW1]; exact (Later.refl wk).alloc _
    have hk1 : W1.heap[E]? = some (.cells D.toArray 59 (0, 0)) := by rw [← hW1, ← hE]; exact (MapKept.heap_alloc wk _).1
    have hE1 : E < W1.heap.size := by rw [← hW1, ← hE]; simp
    obtain ⟨n0, r⟩ := e
    have hD := HD.out.1
    have c0 : W1.cell? ⟨E, 0, none⟩ = some (.int .i64 n0) := by rw [Lib.cell_of_heap hk1, ← hD]; rfl
    have hrq : W1.rangeAt E 1 (reqA r).toList := fun j u hj => by
     rw [Lib.cell_of_heap hk1, ← hD, Nat.add_comm]
     rw [List.getElem?_toArray]
     exact hj
    have hfit := HE.out.2
    dsimp only at hfit
    have hsr := ShowRequest_is r hfit.2 W1 (HW.out.later (HFS.out.later.trans hl1))
    unfold reqV at hsr
    have hQz : (Tryz.prog.info? 39).map (·.size) = some (reqA r).toList.length := by rw [Array.length_toList, reqA_size]; kernel_rfl
    obtain ⟨Q, hQ⟩ : ∃ Q, (reqA r).toList = Q := ⟨_, rfl⟩
    have hQ2 : reqA r = Q.toArray := by rw [← hQ, Array.toArray_toList]
    rw [hQ] at hrq hQz
    rw [hQ2] at hsr
    have HSR := Lib.hid hsr
    have HQ := Lib.hid (And.intro hrq hQz)
    have HC0 := Lib.hid c0
    have HL1 := Lib.hid (HFS.out.after HN.out hl1)
    have HEN := Lib.hid (And.intro HE.out.1 (And.intro hfit.1 hfit.2))
    have HE1 := Lib.hid hE1
    rw [hE, hW1]
    clear hE hW1 hl1 hk1 hE1 hD c0 hrq hfit hsr hQz hQ hQ2 HR HDI HBOX HD HE
    cases hs : showP r with
    | none =>
     rw [hs] at HSR
     have HS2 := Lib.hid (show Calls Tryz.prog 22 #[.agg Q.toArray] W1 fun e w' => e = .returned (.tuple #[.string ⟨#[]⟩, .int .i64 4]) ∧ Later W1 w' from HSR.out)
     have HEE := Lib.hid (show entsL es = none from entsL_none (k := k + 1) (by rw [entsL_take HEN.out.1 HA.out]; unfold entL; rw [hs]; rfl))
     clear hs HSR
     go_wp2_with (refine wpList_load_mid rfl 39 (.tmp 29) rfl E 1 rfl Q _ HQ.out.1 Tryz.underlying39 rfl HQ.out.2 ?_)
     refine HS2.out.mono ?_
     rintro e w2 ⟨rfl, hl2⟩
     have HF := Lib.hid (HE4.out w2 (HL1.out.later.trans hl2) HEE.out)
     have hne : ∀ W : World, (binOp .neq 24 (.int .i64 4) (.int .i64 0)).run Tryz.prog W = .ok (.bool true) W := fun W => by rfl
     clear hl2
     go_wp2_with fail
     go_ret2
     exact HF.out
    | some t =>
     rw [hs] at HSR
     have HS2 := Lib.hid (show Calls Tryz.prog 22 #[.agg Q.toArray] W1 fun e w' => e = .returned (.tuple #[.string ⟨t.toArray⟩, .int .i64 0]) ∧ Later W1 w' from HSR.out)
     have htl := showP_len HEN.out.2.2 hs
     obtain ⟨T, hT⟩ : ∃ T : ByteArray, T = ⟨t.toArray⟩ := ⟨_, rfl⟩
     obtain ⟨T1, hT1⟩ : ∃ T1 : ByteArray, T1 = ⟨(Lib.itoa n0).toArray⟩ := ⟨_, rfl⟩
     obtain ⟨J, hJ⟩ : ∃ J : ByteArray, J = ⟨(jn [Lib.itoa n0, t]).toArray⟩ := ⟨_, rfl⟩
     have hin := HEN.out.2.1
     have hil := itoa_len n0 hin.1 hin.2
     have hJl : J.size = (Lib.itoa n0).length + t.length + 1 := by rw [hJ]; simp [ByteArray.size, jn]; omega
     rw [← hT] at HS2
     have HIT := Lib.hid (fun V (hV : Laid V) => show Calls Tryz.prog 69 #[.int .i64 n0] V fun e w' => e = .returned (.string T1) ∧ Later V w' by rw [hT1]; exact itoa_is n0 hin.1 hin.2 V hV)
     have HJN := Lib.hid (fun V : World => show Calls Tryz.prog 61 #[.slice (some ⟨V.heap.size, 0, none⟩) 2 2] (V.alloc (.cells #[.string T1, .string T] 9)) fun e w' => e = .returned (.string J) ∧ Later (V.alloc (.cells #[.string T1, .string T] 9)) w' by
      rw [hJ]
      refine join_is (V.alloc (.cells #[.string T1, .string T] 9)) (.slice (some ⟨V.heap.size, 0, none⟩) 2 2) [Lib.itoa n0, t] ⟨V.heap.size, 2, rfl, by simp, by simp, fun j hj => ?_⟩ (by simp [sumL]; omega)
      rw [World.cell?_alloc_new, hT1, hT]
      have : j = 0 ∨ j = 1 := by simp at hj; omega
      rcases this with rfl | rfl <;> rfl)
     have hJb : ¬ 9223372036854775807 < J.size + 1 := by omega
     have hJd : (J ++ ⟨#[10]⟩ : ByteArray).data.toList = Lib.itoa n0 ++ 32 :: t ++ [10] := by rw [hJ]; simp [jn]
     have hJs : (J ++ ⟨#[10]⟩ : ByteArray).size = J.size + 1 := by simp [ByteArray.size_append]; rfl
     have HJ := Lib.hid (And.intro hJl (And.intro hJd (And.intro hJs (And.intro hil htl))))
     have HS := Lib.hid hs
     have HINS := Lib.hid (fun (V : World) b (hb : fitsB n0 = b) => show Calls Tryz.prog 68 #[.slice (some ⟨V.heap.size, 0, none⟩) 1 1] (V.alloc (.cells #[.int .i64 n0] 3)) fun e w' => e = .returned (.bool b) ∧ w' = V.alloc (.cells #[.int .i64 n0] 3) from
      inside_is V.heap.size [n0] 1 rfl (by omega) _ (fun i hi => by
       obtain rfl : i = 0 := by simp at hi; omega
       rw [World.cell?_alloc_new]; rfl) b (by simpa using hb))
     clear hs HSR htl hT hT1 hJ hin hil hJl hJd hJs
     go_wp2_with (refine wpList_load_mid rfl 39 (.tmp 29) rfl E 1 rfl Q _ HQ.out.1 Tryz.underlying39 rfl HQ.out.2 ?_)
     refine HS2.out.mono ?_
     rintro e w2 ⟨rfl, hl2⟩
     have c2 : w2.cell? ⟨E, 0, none⟩ = some (.int .i64 n0) := cell_at hl2 HC0.out HE1.out
     have HL2 := Lib.hid (HL1.out.after HN.out hl2)
     have hne : ∀ W : World, (binOp .neq 24 (.int .i64 0) (.int .i64 0)).run Tryz.prog W = .ok (.bool false) W := fun W => by rfl
     have hE2 : E < w2.heap.size := Nat.lt_of_lt_of_le HE1.out hl2.size
     clear hl2 HS2
     cases hfb : fitsB n0 with
     | false =>
      have HEE := Lib.hid (show entsL es = none from entsL_none (k := k + 1) (by
       rw [entsL_take HEN.out.1 HA.out]
       unfold entL
       rw [HS.out, Option.bind_some, if_neg (fun h => by rw [(fitsB_iff n0).2 h] at hfb; cases hfb)]
       rfl))
      have HF := Lib.hid (fun o => HE4.out (w2.alloc o) (HL2.out.later.alloc o) HEE.out)
      have HI1 := Lib.hid (HINS.out w2 false hfb)
      clear hfb
      go_wp2_with fail
      refine HI1.out.mono ?_
      rintro e w3 ⟨rfl, rfl⟩
      go_wp2_with fail
      go_ret2
      exact HF.out _
     | true =>
      have HI1 := Lib.hid (HINS.out w2 true hfb)
      have HENT := Lib.hid (show entL (n0, r) = some (Lib.itoa n0 ++ 32 :: t ++ [10]) by
       unfold entL
       rw [HS.out, Option.bind_some, if_pos ((fitsB_iff n0).1 hfb)])
      clear hfb
      go_wp2_with fail
      refine HI1.out.mono ?_
      rintro e w3 ⟨rfl, hw3⟩
      have hl3 : Later w2 w3 := by rw [hw3]; exact (Later.refl w2).alloc _
      have c3 : w3.cell? ⟨E, 0, none⟩ = some (.int .i64 n0) := cell_at hl3 c2 hE2
      have HL3 := Lib.hid (HL2.out.after HN.out hl3)
      clear hw3 hl3 c2 hE2 HL2 HI1 HINS
      go_wp2_with fail
      refine (HIT.out w3 (HW.out.later HL3.out.later)).mono ?_
      rintro e w4 ⟨rfl, hl4⟩
      have HL4 := Lib.hid (HL3.out.after HN.out hl4)
      clear hl4 c3 HL3
      go_wp2_with fail
      refine (HJN.out w4).mono ?_
      rintro e w5 ⟨rfl, hl5⟩
      have HL5 := Lib.hid (HL4.out.after HN.out (((Later.refl w4).alloc _).trans hl5))
      clear hl5 HL4
      have HWS := Lib.hid (writeString_is (N + 1) N (Lib.byteCells A) (J ++ ⟨#[10]⟩) w5 HL5.out.wb (by
       have h1 := HJ.out
       have h2 := HAL.out
       have h3 : (Lib.byteCells A).length = A.length := by simp [Lib.byteCells]
       rw [h1.2.2.1, h3]
       omega))
      go_wp2_with fail
      refine HWS.out.mono ?_
      rintro e w6 ⟨rfl, hwb6, hk6⟩
      have HREL := Lib.hid (HL5.out.write HN.out (J ++ ⟨#[10]⟩) HJ.out.2.1 hwb6 hk6)
      have HEA := Lib.hid (show entsL (es.take (k + 1)) = some (A ++ (Lib.itoa n0 ++ 32 :: t ++ [10])) by rw [entsL_take HEN.out.1 HA.out, HENT.out]; rfl)
      have HLN := Lib.hid (show (A ++ (Lib.itoa n0 ++ 32 :: t ++ [10])).length ≤ (k + 1) * 100000000 by
       have h1 := HJ.out
       have h2 := HAL.out
       simp only [List.length_append, List.length_cons, List.length_nil]
       omega)
      clear hwb6 hk6
      go_wp2_with fail
      go_roundw
      case rel => exact ⟨k + 1, _, by omega, by go_num, HEA.out, HLN.out, HREL.out⟩
      case measure => simp [RowKit.intOf]; omega
  ·have HALL := Lib.hid (show entsL es = some A by
    have h := HA.out
    rwa [List.take_of_length_le (by have := HNM.out.1; omega)] at h)
   have b1 : wk.cell? ⟨w.heap.size, 1, none⟩ = some (.slice ap m cp) := by rw [Lib.cell_of_heap HFS.out.box]; rfl
   have HBD := Lib.hid (show A.length ≤ 409600000000 by have := HAL.out; omega)
   have HP0 := Lib.hid (show FmS w N (.slice ae n ce) (.slice ap m cp) (A ++ pkF m 0 (ps.take 0)) wk by simpa [pkF] using HFS.out)
   clear HEV HA HAL HFS hk
   go_wp2_with fail
   clear b1
   go_loopw [55] (fun i wr => ∃ (q : Nat), q ≤ m ∧ i = .int .i64 q ∧ (pkF m 0 (ps.take q)).length ≤ q * 30 ∧ FmS w N (.slice ae n ce) (.slice ap m cp) (A ++ pkF m 0 (ps.take q)) wr) (fun i _ => m - (RowKit.intOf i).toNat)
   case atStart => exact ⟨0, by omega, rfl, by simp [pkF], HP0.out⟩
   case round =>
    obtain ⟨q, hq, rfl, hql, hfs⟩ := hrel
    rename World => wq
    have HFS := Lib.hid hfs
    have HQL := Lib.hid hql
    clear hfs hql HP0
    by_cases hlt2 : q < m
    ·have hX := HPV.out wq HFS.out.later
     obtain ⟨ap', cp', hvv, h0 | ⟨X, off, rfl, hrg⟩⟩ := hX
     ·have := HNM.out.2; omega
     ·injection hvv with q1 q2 q3
      subst q1
      have hqe : q < ps.length := by have := HNM.out.2; omega
      obtain ⟨p, hp⟩ : ∃ p, ps[q]? = some p := ⟨_, List.getElem?_eq_getElem hqe⟩
      have hcp := hrg q hqe
      have hgd : ps.getD q 0 = p := by rw [List.getD_eq_getElem?_getD, hp]; rfl
      rw [hgd] at hcp
      have hin := HFIT.out.2 p (List.mem_of_getElem? hp)
      have hil := itoa_len p hin.1 hin.2
      obtain ⟨T1, hT1⟩ : ∃ T1 : ByteArray, T1 = ⟨(Lib.itoa p).toArray⟩ := ⟨_, rfl⟩
      have hTs : T1.size = (Lib.itoa p).length := by rw [hT1]; simp [ByteArray.size]
      have HIT := Lib.hid (fun V (hV : Laid V) => show Calls Tryz.prog 69 #[.int .i64 p] V fun e w' => e = .returned (.string T1) ∧ Later V w' by rw [hT1]; exact itoa_is p hin.1 hin.2 V hV)
      have hb1 : ¬ 9223372036854775807 < 1 + T1.size := by omega
      have hb2 : ¬ 9223372036854775807 < T1.size + 1 := by omega
      have HTD := Lib.hid (show (⟨#[32]⟩ ++ T1 : ByteArray).data.toList = 32 :: Lib.itoa p by rw [hT1]; simp)
      have HTZ := Lib.hid (show (⟨#[32]⟩ ++ T1 : ByteArray).size = 1 + T1.size ∧ T1.size ≤ 21 ∧ (Lib.itoa p).length ≤ 21 by
       refine ⟨by rw [ByteArray.size_append]; rfl, by omega, hil⟩)
      have HP := Lib.hid hp
      have b1 : wq.cell? ⟨w.heap.size, 1, none⟩ = some (.slice (some ⟨X, off, none⟩) m cp) := by rw [Lib.cell_of_heap HFS.out.box]; rfl
      have HPK := Lib.hid (pkF_take m hp)
      clear hp hgd hin hil hT1 hTs hqe q2 q3 hrg
      by_cases h1 : q % 16 = 0
      ·have e1 : ((q : Int) % 16 == 0) = true := by simp; omega
       have e2 : ((q : Int) % 16 == 15) = false := by simp; omega
       by_cases h2 : q + 1 = m
       ·have e3 : ((q : Int) == (m : Int) - 1) = true := by simp; omega
        have HBB := Lib.hid (show pkB m q p = picksN ++ (32 :: Lib.itoa p ++ [10]) by unfold pkB; rw [if_pos (by omega), if_pos (by omega)])
        clear h1 h2
        have HWS1 := Lib.hid (writeString_is (N + 1) N (Lib.byteCells (A ++ pkF m 0 (ps.take q))) ⟨#[112, 105, 99, 107, 115]⟩ wq HFS.out.wb (by
         have z1 := HQL.out
         have z2 := HBD.out
         have z3 := HTZ.out
         have z4 : (Lib.byteCells (A ++ pkF m 0 (ps.take q))).length = (A ++ pkF m 0 (ps.take q)).length := by simp [Lib.byteCells]
         rw [z4]; rw [show (⟨#[112, 105, 99, 107, 115]⟩ : ByteArray).size = 5 from rfl]
         simp only [List.length_append, List.length_cons, List.length_nil, picksN]
         omega))
        go_wp2_with fail
        refine HWS1.out.mono ?_
        rintro e v1 ⟨rfl, hwb1, hkk1⟩
        have HV1 := Lib.hid (HFS.out.write HN.out (B := picksN) ⟨#[112, 105, 99, 107, 115]⟩ rfl hwb1 hkk1)
        clear hwb1 hkk1
        go_wp2_with fail
        refine (HIT.out v1 (HW.out.later HV1.out.later)).mono ?_
        rintro e vi ⟨rfl, hli⟩
        have HVI := Lib.hid (HV1.out.after HN.out hli)
        clear hli
        have HWS2 := Lib.hid (writeString_is (N + 1) N (Lib.byteCells ((A ++ pkF m 0 (ps.take q)) ++ picksN)) (⟨#[32]⟩ ++ T1) vi HVI.out.wb (by
         have z1 := HQL.out
         have z2 := HBD.out
         have z3 := HTZ.out
         have z4 : (Lib.byteCells ((A ++ pkF m 0 (ps.take q)) ++ picksN)).length = ((A ++ pkF m 0 (ps.take q)) ++ picksN).length := by simp [Lib.byteCells]
         rw [z4]; rw [z3.1]
         simp only [List.length_append, List.length_cons, List.length_nil, picksN]
         omega))
        go_wp2_with fail
        refine HWS2.out.mono ?_
        rintro e v2 ⟨rfl, hwb2, hkk2⟩
        have HV2 := Lib.hid (HVI.out.write HN.out (B := (32 :: Lib.itoa p)) (⟨#[32]⟩ ++ T1) HTD.out hwb2 hkk2)
        clear hwb2 hkk2
        have c1 : v2.cell? ⟨w.heap.size, 1, none⟩ = some (.slice (some ⟨X, off, none⟩) m cp) := by rw [Lib.cell_of_heap HV2.out.box]; rfl
        have HWS3 := Lib.hid (writeString_is (N + 1) N (Lib.byteCells (((A ++ pkF m 0 (ps.take q)) ++ picksN) ++ (32 :: Lib.itoa p))) ⟨#[10]⟩ v2 HV2.out.wb (by
         have z1 := HQL.out
         have z2 := HBD.out
         have z3 := HTZ.out
         have z4 : (Lib.byteCells (((A ++ pkF m 0 (ps.take q)) ++ picksN) ++ (32 :: Lib.itoa p))).length = (((A ++ pkF m 0 (ps.take q)) ++ picksN) ++ (32 :: Lib.itoa p)).length := by simp [Lib.byteCells]
         rw [z4]; rw [show (⟨#[10]⟩ : ByteArray).size = 1 from rfl]
         simp only [List.length_append, List.length_cons, List.length_nil, picksN]
         omega))
        go_wp2_with fail
        refine HWS3.out.mono ?_
        rintro e v3 ⟨rfl, hwb3, hkk3⟩
        have HV3 := Lib.hid (HV2.out.write HN.out (B := [10]) ⟨#[10]⟩ rfl hwb3 hkk3)
        clear hwb3 hkk3
        have HREL := Lib.hid (show FmS w N (.slice ae n ce) (.slice (some ⟨X, off, none⟩) m cp) (A ++ pkF m 0 (ps.take (q + 1))) v3 by
         have h := HV3.out
         rw [HPK.out, HBB.out]
         simpa only [List.append_assoc, List.nil_append, List.append_nil] using h)
        have HLEN := Lib.hid (show (pkF m 0 (ps.take (q + 1))).length ≤ (q + 1) * 30 by
         have z1 := HQL.out
         have z3 := HTZ.out
         rw [HPK.out, HBB.out]
         simp only [List.length_append, List.length_cons, List.length_nil, picksN]
         omega)
        go_wp2_with fail
        go_roundw
        case rel => exact ⟨q + 1, by omega, by go_num, HLEN.out, HREL.out⟩
        case measure => simp [RowKit.intOf]; omega
       ·have e3 : ((q : Int) == (m : Int) - 1) = false := by simp; omega
        have HBB := Lib.hid (show pkB m q p = picksN ++ (32 :: Lib.itoa p ++ []) by unfold pkB; rw [if_pos (by omega), if_neg (by omega)])
        clear h1 h2
        have HWS1 := Lib.hid (writeString_is (N + 1) N (Lib.byteCells (A ++ pkF m 0 (ps.take q))) ⟨#[112, 105, 99, 107, 115]⟩ wq HFS.out.wb (by
         have z1 := HQL.out
         have z2 := HBD.out
         have z3 := HTZ.out
         have z4 : (Lib.byteCells (A ++ pkF m 0 (ps.take q))).length = (A ++ pkF m 0 (ps.take q)).length := by simp [Lib.byteCells]
         rw [z4]; rw [show (⟨#[112, 105, 99, 107, 115]⟩ : ByteArray).size = 5 from rfl]
         simp only [List.length_append, List.length_cons, List.length_nil, picksN]
         omega))
        go_wp2_with fail
        refine HWS1.out.mono ?_
        rintro e v1 ⟨rfl, hwb1, hkk1⟩
        have HV1 := Lib.hid (HFS.out.write HN.out (B := picksN) ⟨#[112, 105, 99, 107, 115]⟩ rfl hwb1 hkk1)
        clear hwb1 hkk1
        go_wp2_with fail
        refine (HIT.out v1 (HW.out.later HV1.out.later)).mono ?_
        rintro e vi ⟨rfl, hli⟩
        have HVI := Lib.hid (HV1.out.after HN.out hli)
        clear hli
        have HWS2 := Lib.hid (writeString_is (N + 1) N (Lib.byteCells ((A ++ pkF m 0 (ps.take q)) ++ picksN)) (⟨#[32]⟩ ++ T1) vi HVI.out.wb (by
         have z1 := HQL.out
         have z2 := HBD.out
         have z3 := HTZ.out
         have z4 : (Lib.byteCells ((A ++ pkF m 0 (ps.take q)) ++ picksN)).length = ((A ++ pkF m 0 (ps.take q)) ++ picksN).length := by simp [Lib.byteCells]
         rw [z4]; rw [z3.1]
         simp only [List.length_append, List.length_cons, List.length_nil, picksN]
         omega))
        go_wp2_with fail
        refine HWS2.out.mono ?_
        rintro e v2 ⟨rfl, hwb2, hkk2⟩
        have HV2 := Lib.hid (HVI.out.write HN.out (B := (32 :: Lib.itoa p)) (⟨#[32]⟩ ++ T1) HTD.out hwb2 hkk2)
        clear hwb2 hkk2
        have c1 : v2.cell? ⟨w.heap.size, 1, none⟩ = some (.slice (some ⟨X, off, none⟩) m cp) := by rw [Lib.cell_of_heap HV2.out.box]; rfl
        have HREL := Lib.hid (show FmS w N (.slice ae n ce) (.slice (some ⟨X, off, none⟩) m cp) (A ++ pkF m 0 (ps.take (q + 1))) v2 by
         have h := HV2.out
         rw [HPK.out, HBB.out]
         simpa only [List.append_assoc, List.nil_append, List.append_nil] using h)
        have HLEN := Lib.hid (show (pkF m 0 (ps.take (q + 1))).length ≤ (q + 1) * 30 by
         have z1 := HQL.out
         have z3 := HTZ.out
         rw [HPK.out, HBB.out]
         simp only [List.length_append, List.length_cons, List.length_nil, picksN]
         omega)
        go_wp2_with fail
        go_roundw
        case rel => exact ⟨q + 1, by omega, by go_num, HLEN.out, HREL.out⟩
        case measure => simp [RowKit.intOf]; omega
      ·have e1 : ((q : Int) % 16 == 0) = false := by simp; omega
       by_cases h2 : q % 16 = 15
       ·have e2 : ((q : Int) % 16 == 15) = true := by simp; omega
        have HBB := Lib.hid (show pkB m q p = [] ++ (32 :: Lib.itoa p ++ [10]) by unfold pkB; rw [if_neg (by omega), if_pos (by omega)])
        clear h1 h2
        go_wp2_with fail
        refine (HIT.out wq (HW.out.later HFS.out.later)).mono ?_
        rintro e vi ⟨rfl, hli⟩
        have HVI := Lib.hid (HFS.out.after HN.out hli)
        clear hli
        have HWS1 := Lib.hid (writeString_is (N + 1) N (Lib.byteCells (A ++ pkF m 0 (ps.take q))) (⟨#[32]⟩ ++ T1) vi HVI.out.wb (by
         have z1 := HQL.out
         have z2 := HBD.out
         have z3 := HTZ.out
         have z4 : (Lib.byteCells (A ++ pkF m 0 (ps.take q))).length = (A ++ pkF m 0 (ps.take q)).length := by simp [Lib.byteCells]
         rw [z4]; rw [z3.1]
         simp only [List.length_append, List.length_cons, List.length_nil, picksN]
         omega))
        go_wp2_with fail
        refine HWS1.out.mono ?_
        rintro e v1 ⟨rfl, hwb1, hkk1⟩
        have HV1 := Lib.hid (HVI.out.write HN.out (B := (32 :: Lib.itoa p)) (⟨#[32]⟩ ++ T1) HTD.out hwb1 hkk1)
        clear hwb1 hkk1
        have c1 : v1.cell? ⟨w.heap.size, 1, none⟩ = some (.slice (some ⟨X, off, none⟩) m cp) := by rw [Lib.cell_of_heap HV1.out.box]; rfl
        have HWS2 := Lib.hid (writeString_is (N + 1) N (Lib.byteCells ((A ++ pkF m 0 (ps.take q)) ++ (32 :: Lib.itoa p))) ⟨#[10]⟩ v1 HV1.out.wb (by
         have z1 := HQL.out
         have z2 := HBD.out
         have z3 := HTZ.out
         have z4 : (Lib.byteCells ((A ++ pkF m 0 (ps.take q)) ++ (32 :: Lib.itoa p))).length = ((A ++ pkF m 0 (ps.take q)) ++ (32 :: Lib.itoa p)).length := by simp [Lib.byteCells]
         rw [z4]; rw [show (⟨#[10]⟩ : ByteArray).size = 1 from rfl]
         simp only [List.length_append, List.length_cons, List.length_nil, picksN]
         omega))
        go_wp2_with fail
        refine HWS2.out.mono ?_
        rintro e v2 ⟨rfl, hwb2, hkk2⟩
        have HV2 := Lib.hid (HV1.out.write HN.out (B := [10]) ⟨#[10]⟩ rfl hwb2 hkk2)
        clear hwb2 hkk2
        have HREL := Lib.hid (show FmS w N (.slice ae n ce) (.slice (some ⟨X, off, none⟩) m cp) (A ++ pkF m 0 (ps.take (q + 1))) v2 by
         have h := HV2.out
         rw [HPK.out, HBB.out]
         simpa only [List.append_assoc, List.nil_append, List.append_nil] using h)
        have HLEN := Lib.hid (show (pkF m 0 (ps.take (q + 1))).length ≤ (q + 1) * 30 by
         have z1 := HQL.out
         have z3 := HTZ.out
         rw [HPK.out, HBB.out]
         simp only [List.length_append, List.length_cons, List.length_nil, picksN]
         omega)
        go_wp2_with fail
        go_roundw
        case rel => exact ⟨q + 1, by omega, by go_num, HLEN.out, HREL.out⟩
        case measure => simp [RowKit.intOf]; omega
       ·have e2 : ((q : Int) % 16 == 15) = false := by simp; omega
        by_cases h3 : q + 1 = m
        ·have e3 : ((q : Int) == (m : Int) - 1) = true := by simp; omega
         have HBB := Lib.hid (show pkB m q p = [] ++ (32 :: Lib.itoa p ++ [10]) by unfold pkB; rw [if_neg (by omega), if_pos (by omega)])
         clear h1 h2
         go_wp2_with fail
         refine (HIT.out wq (HW.out.later HFS.out.later)).mono ?_
         rintro e vi ⟨rfl, hli⟩
         have HVI := Lib.hid (HFS.out.after HN.out hli)
         clear hli
         have HWS1 := Lib.hid (writeString_is (N + 1) N (Lib.byteCells (A ++ pkF m 0 (ps.take q))) (⟨#[32]⟩ ++ T1) vi HVI.out.wb (by
          have z1 := HQL.out
          have z2 := HBD.out
          have z3 := HTZ.out
          have z4 : (Lib.byteCells (A ++ pkF m 0 (ps.take q))).length = (A ++ pkF m 0 (ps.take q)).length := by simp [Lib.byteCells]
          rw [z4]; rw [z3.1]
          simp only [List.length_append, List.length_cons, List.length_nil, picksN]
          omega))
         go_wp2_with fail
         refine HWS1.out.mono ?_
         rintro e v1 ⟨rfl, hwb1, hkk1⟩
         have HV1 := Lib.hid (HVI.out.write HN.out (B := (32 :: Lib.itoa p)) (⟨#[32]⟩ ++ T1) HTD.out hwb1 hkk1)
         clear hwb1 hkk1
         have c1 : v1.cell? ⟨w.heap.size, 1, none⟩ = some (.slice (some ⟨X, off, none⟩) m cp) := by rw [Lib.cell_of_heap HV1.out.box]; rfl
         have HWS2 := Lib.hid (writeString_is (N + 1) N (Lib.byteCells ((A ++ pkF m 0 (ps.take q)) ++ (32 :: Lib.itoa p))) ⟨#[10]⟩ v1 HV1.out.wb (by
          have z1 := HQL.out
          have z2 := HBD.out
          have z3 := HTZ.out
          have z4 : (Lib.byteCells ((A ++ pkF m 0 (ps.take q)) ++ (32 :: Lib.itoa p))).length = ((A ++ pkF m 0 (ps.take q)) ++ (32 :: Lib.itoa p)).length := by simp [Lib.byteCells]
          rw [z4]; rw [show (⟨#[10]⟩ : ByteArray).size = 1 from rfl]
          simp only [List.length_append, List.length_cons, List.length_nil, picksN]
          omega))
         go_wp2_with fail
         refine HWS2.out.mono ?_
         rintro e v2 ⟨rfl, hwb2, hkk2⟩
         have HV2 := Lib.hid (HV1.out.write HN.out (B := [10]) ⟨#[10]⟩ rfl hwb2 hkk2)
         clear hwb2 hkk2
         have HREL := Lib.hid (show FmS w N (.slice ae n ce) (.slice (some ⟨X, off, none⟩) m cp) (A ++ pkF m 0 (ps.take (q + 1))) v2 by
          have h := HV2.out
          rw [HPK.out, HBB.out]
          simpa only [List.append_assoc, List.nil_append, List.append_nil] using h)
         have HLEN := Lib.hid (show (pkF m 0 (ps.take (q + 1))).length ≤ (q + 1) * 30 by
          have z1 := HQL.out
          have z3 := HTZ.out
          rw [HPK.out, HBB.out]
          simp only [List.length_append, List.length_cons, List.length_nil, picksN]
          omega)
         go_wp2_with fail
         go_roundw
         case rel => exact ⟨q + 1, by omega, by go_num, HLEN.out, HREL.out⟩
         case measure => simp [RowKit.intOf]; omega
        ·have e3 : ((q : Int) == (m : Int) - 1) = false := by simp; omega
         have HBB := Lib.hid (show pkB m q p = [] ++ (32 :: Lib.itoa p ++ []) by unfold pkB; rw [if_neg (by omega), if_neg (by omega)])
         clear h1 h2
         go_wp2_with fail
         refine (HIT.out wq (HW.out.later HFS.out.later)).mono ?_
         rintro e vi ⟨rfl, hli⟩
         have HVI := Lib.hid (HFS.out.after HN.out hli)
         clear hli
         have HWS1 := Lib.hid (writeString_is (N + 1) N (Lib.byteCells (A ++ pkF m 0 (ps.take q))) (⟨#[32]⟩ ++ T1) vi HVI.out.wb (by
          have z1 := HQL.out
          have z2 := HBD.out
          have z3 := HTZ.out
          have z4 : (Lib.byteCells (A ++ pkF m 0 (ps.take q))).length = (A ++ pkF m 0 (ps.take q)).length := by simp [Lib.byteCells]
          rw [z4]; rw [z3.1]
          simp only [List.length_append, List.length_cons, List.length_nil, picksN]
          omega))
         go_wp2_with fail
         refine HWS1.out.mono ?_
         rintro e v1 ⟨rfl, hwb1, hkk1⟩
         have HV1 := Lib.hid (HVI.out.write HN.out (B := (32 :: Lib.itoa p)) (⟨#[32]⟩ ++ T1) HTD.out hwb1 hkk1)
         clear hwb1 hkk1
         have c1 : v1.cell? ⟨w.heap.size, 1, none⟩ = some (.slice (some ⟨X, off, none⟩) m cp) := by rw [Lib.cell_of_heap HV1.out.box]; rfl
         have HREL := Lib.hid (show FmS w N (.slice ae n ce) (.slice (some ⟨X, off, none⟩) m cp) (A ++ pkF m 0 (ps.take (q + 1))) v1 by
          have h := HV1.out
          rw [HPK.out, HBB.out]
          simpa only [List.append_assoc, List.nil_append, List.append_nil] using h)
         have HLEN := Lib.hid (show (pkF m 0 (ps.take (q + 1))).length ≤ (q + 1) * 30 by
          have z1 := HQL.out
          have z3 := HTZ.out
          rw [HPK.out, HBB.out]
          simp only [List.length_append, List.length_cons, List.length_nil, picksN]
          omega)
         go_wp2_with fail
         go_roundw
         case rel => exact ⟨q + 1, by omega, by go_num, HLEN.out, HREL.out⟩
         case measure => simp [RowKit.intOf]; omega
    ·have HPALL := Lib.hid (show ps.take q = ps from List.take_of_length_le (by have := HNM.out.2; omega))
     have HB := Lib.hid (HFS.out.wb.is)
     have hlen : (Lib.byteCells (A ++ pkF m 0 (ps.take q))).length = A.length + (pkF m 0 ps).length := by rw [HPALL.out]; simp [Lib.byteCells]
     have HLEN := Lib.hid (fun V => (Tryz.Builder_Len N N (Lib.byteCells (A ++ pkF m 0 (ps.take q))) V))
     have hB := HLEN.out wq HFS.out.wb.is
     rw [hlen] at hB
     obtain ⟨L, hL⟩ : ∃ L, A.length + (pkF m 0 ps).length = L := ⟨_, rfl⟩
     rw [hL] at hB
     have HBL := Lib.hid hB
     have HL := Lib.hid hL
     have HST := Lib.hid (string_is N (A ++ pkF m 0 (ps.take q)) w wq HFS.out.wb HFS.out.later (by have := HN.out; omega))
     clear hB hlen hL HLEN
     by_cases hbig : 262144 < L
     ·have d3 : decide ((262144 : Int) < (L : Int)) = true := by simp; omega
      have d3' : (262144 : Int) < (L : Int) := by omega
      have HF := Lib.hid (show FmEnd res w (.returned (.tuple #[.string ⟨#[]⟩, .int .i64 3])) wq by
       rw [HRES.out, HALL.out]
       simp only
       rw [if_pos (by rw [List.length_append, HL.out]; exact hbig)]
       exact ⟨HFS.out.later, rfl⟩)
      go_wp2_with fail
      refine HBL.out.mono ?_
      rintro e w8 ⟨rfl, rfl⟩
      go_wp2_with fail
      go_ret2
      exact HF.out
     ·have d3 : decide ((262144 : Int) < (L : Int)) = false := by simp; omega
      have d3' : ¬ (262144 : Int) < (L : Int) := by omega
      have HF := Lib.hid (fun w' (hl : Later w w') => show FmEnd res w (.returned (.tuple #[strV (A ++ pkF m 0 ps), .int .i64 0])) w' by
       rw [HRES.out, HALL.out]
       simp only
       rw [if_neg (by rw [List.length_append, HL.out]; exact hbig)]
       exact ⟨hl, rfl⟩)
      have HST2 := Lib.hid (show Calls Tryz.prog 32 #[.pointer (some ⟨N, 0, none⟩)] wq fun e w' => e = .returned (strV (A ++ pkF m 0 ps)) ∧ Later w w' by
       have h := HST.out
       rw [HPALL.out] at h
       exact h)
      obtain ⟨U, hU⟩ : ∃ U : ByteArray, U = ⟨(A ++ pkF m 0 ps).toArray⟩ := ⟨_, rfl⟩
      unfold strV at HST2 HF
      rw [← hU] at HST2 HF
      clear hU HST
      go_wp2_with fail
      refine HBL.out.mono ?_
      rintro e w8 ⟨rfl, rfl⟩
      go_wp2_with fail
      refine HST2.out.mono ?_
      rintro e w9 ⟨rfl, hl9⟩
      have HF9 := Lib.hid (HF.out w9 hl9)
      clear hl9
      go_wp2_with fail
      go_ret2
      exact HF9.out
end Go.Proofs.YtkbedajbbakihaaGreatDoor
