/-
 Texts of this proof, put together (Pa, LnZ, Li, Rl): each part's first words say what it holds. Conditions: as each part says.
-/
import Derived.Test.YtkbedajbbakihaaGreatDoorQd1
import Derived.Test.YtkbedajbbakihaaGreatDoorQd
import Derived.Lib.SplitLaws
import Derived.Test.YtkbedajbbakihaaGreatDoorQb
import Derived.Shelf.Abstract
import Derived.WalkKit
import Derived.OwnWalkIn
import Derived.TacticsInMore
import Derived.LoopNIn
import Derived.LoopIn
/-
 What Parse does with one line (its closure), walked. Conditions: the reader and the cells are the call's own.
-/
namespace Go.Proofs.YtkbedajbbakihaaGreatDoor
open Go.RowKit Go.Sort Go.Lib
set_option linter.unusedSimpArgs false
set_option linter.unusedVariables false

def picksN : List UInt8 := [112, 105, 99, 107, 115]
/-- what the words of a line of a script say -/
noncomputable def wsP : List (List UInt8) → Option (List Int ⊕ (Int × Req))
 | [] => none
 | h :: t => if h = picksN then (pksR t).map .inl else (num h).bind fun n => (readR t).map fun r => .inr (n, r)
/-- what a line of a script says -/
noncomputable def lnP (x : List UInt8 × Bool) : Option (List Int ⊕ (Int × Req)) := if x.2 = true then wsP (spl x.1) else none
/-- w' is w but for some blocks, new blocks and draws -/
structure Exc (bs : List Nat) (w w' : World) : Prop where
 os : w'.os = w.os
 tape : w'.tape = w.tape
 output : w'.output = w.output
 size : w.heap.size ≤ w'.heap.size
 block : ∀ k, k < w.heap.size → k ∉ bs → w'.heap[k]? = w.heap[k]?
theorem Exc.refl (bs : List Nat) (w : World) : Exc bs w w := ⟨rfl, rfl, rfl, Nat.le_refl _, fun _ _ _ => rfl⟩
theorem Exc.trans {bs : List Nat} {x y z : World} (h : Exc bs x y) (k : Exc bs y z) : Exc bs x z :=
 ⟨k.os.trans h.os, k.tape.trans h.tape, k.output.trans h.output, Nat.le_trans h.size k.size, fun i hi hb => (k.block i (Nat.lt_of_lt_of_le hi h.size) hb).trans (h.block i hi hb)⟩
theorem Exc.of_only {bs : List Nat} {b : Nat} {w w' : World} (h : Only b w w') (hb : b ∈ bs) : Exc bs w w' :=
 ⟨h.os, h.tape, h.output, h.size, fun k hk hn => h.block k hk (fun e => hn (by rw [e]; exact hb))⟩
theorem Exc.of_later {bs : List Nat} {w w' : World} (h : Later w w') : Exc bs w w' := ⟨h.os, h.tape, h.output, h.size, fun k hk _ => h.block k hk⟩
theorem Exc.setCell {bs : List Nat} (w : World) (p : Nat) (u : Value) (hp : p ∈ bs) : Exc bs w (w.setCell ⟨p, 0, none⟩ u) :=
 ⟨rfl, rfl, rfl, by simp, fun k _ hn => Below.heap_setCell _ _ _ _ (fun e => hn (by simp at e; rw [e]; exact hp))⟩
theorem Exc.later {bs : List Nat} {w0 x y : World} (h : Exc bs x y) (hl : Later w0 x) (hb : ∀ b ∈ bs, w0.heap.size ≤ b) : Later w0 y :=
 ⟨h.os.trans hl.os, h.tape.trans hl.tape, h.output.trans hl.output, Nat.le_trans hl.size h.size, fun k hk => (h.block k (Nat.lt_of_lt_of_le hk hl.size) (fun e => by have := hb k e; omega)).trans (hl.block k hk)⟩
theorem one_set {w : World} {p : Nat} {u u' : Value} {t : TypeId} (h : w.heap[p]? = some (.cells #[u] t (0, 0))) : (w.setCell ⟨p, 0, none⟩ u').heap[p]? = some (.cells #[u'] t (0, 0)) := by
 rw [setCell_eq_setRow w p 0 _ t (0, 0) _ h]
 exact setRow_heap w p _ _ t (0, 0) h
/-- how Parse's closure ends -/
def P1End (X K P10 P11 : Nat) (res : Option (List Int ⊕ (Int × Req))) (w : World) (e : Ending) (w' : World) : Prop :=
 Exc [X, P10, P11] w w' ∧ match res with
  | none => e = wrongE
  | some (.inl l) => e = .returned (.tuple #[]) ∧ l ≠ [] ∧ ∃ v, w'.heap[P10]? = some (.cells #[v] 43 (0, 0)) ∧ w'.ownsRow w.heap.size 3 1 v l.length (ints l)
  | some (.inr (n, r)) => e = .returned (.tuple #[]) ∧ w'.heap[P10]? = some (.cells #[.slice none 0 0] 43 (0, 0)) ∧ w'.heap[P11]? = some (.cells #[.int .i64 n] 3 (0, 0)) ∧ RdQ X K r [] w'
/-- the closure's cells -/
structure P1 (X K P8 P9 P10 P11 : Nat) (bw : Bool) (ws : List (List UInt8)) (w : World) : Prop where
 ord : P8 < X ∧ K ≤ P9 ∧ P9 < P10 ∧ P10 < P11 ∧ P11 < w.heap.size
 c8 : w.heap[P8]? = some (.cells #[.bool bw] 4 (0, 0))
 c9 : w.heap[P9]? = some (.cells #[.pointer (some ⟨X, 0, none⟩)] 74 (0, 0))
 c10 : w.heap[P10]? = some (.cells #[.slice none 0 0] 43 (0, 0))
 c11 : w.heap[P11]? = some (.cells #[.int .i64 0] 3 (0, 0))
 rd : RdQ X K req0 ws w
theorem one_cell {w : World} {p : Nat} {u : Value} {t : TypeId} (h : w.heap[p]? = some (.cells #[u] t (0, 0))) : w.cell? ⟨p, 0, none⟩ = some u := by
 rw [Lib.cell_of_heap h]; rfl
set_option maxRecDepth 100000 in
set_option maxHeartbeats 4000000 in
theorem parse1_false (X K P8 P9 P10 P11 : Nat) (ws : List (List UInt8)) (w : World) (h : P1 X K P8 P9 P10 P11 false ws w) :
  Calls Tryz.prog 43 #[.pointer (some ⟨P8, 0, none⟩), .pointer (some ⟨P9, 0, none⟩), .pointer (some ⟨P10, 0, none⟩), .pointer (some ⟨P11, 0, none⟩)] w (P1End X K P10 P11 none w) := by
 have c8 := one_cell h.c8
 have HF := Lib.hid (show P1End X K P10 P11 none w wrongE w from ⟨Exc.refl _ _, rfl⟩)
 clear h
 go_enter Tryz.func43, Tryz.ntmps43
 go_wp2_with fail
 refine (must_false _).mono ?_
 rintro e w1 ⟨rfl, rfl⟩
 unfold wrongE at HF
 go_wp2_with fail
 exact ⟨rfl, HF.out⟩
theorem spl_bound {b K : Nat} {R : Array Value} {h : List UInt8} {t : List (List UInt8)} {w : World} (hR : RdW b K R (h :: t) w) :
  ∃ wb off cap m, w.cell? ⟨b, 0, none⟩ = some (.slice (some ⟨wb, off, none⟩) m cap) ∧ 0 < m ∧ w.cell? ⟨wb, off, none⟩ = some (strV h) := by
 obtain ⟨_, _, _, h3, v, h4, ⟨wb, off, cap, rfl, h5, h6, h7, h8, h9⟩, _⟩ := hR
 exact ⟨wb, off, cap, _, by rw [Lib.cell_of_heap h3, h4], by simp, h9 0 (by simp)⟩
set_option maxRecDepth 100000 in
set_option maxHeartbeats 8000000 in
theorem parse1_true (X K P8 P9 P10 P11 : Nat) (x : List UInt8) (t : List (List UInt8)) (w : World) (h : P1 X K P8 P9 P10 P11 true (x :: t) w) :
  Calls Tryz.prog 43 #[.pointer (some ⟨P8, 0, none⟩), .pointer (some ⟨P9, 0, none⟩), .pointer (some ⟨P10, 0, none⟩), .pointer (some ⟨P11, 0, none⟩)] w (P1End X K P10 P11 (wsP (x :: t)) w) := by
 obtain ⟨⟨o1, o2, o3, o4, o5⟩, c8, c9, c10, c11, v, hR⟩ := h
 obtain ⟨wb, off, cap, m, hc0, hm0, hcw⟩ := spl_bound hR
 obtain ⟨res, hres⟩ : ∃ res, wsP (x :: t) = res := ⟨_, rfl⟩
 rw [hres]
 have hK := hR.2.1
 have HO := Lib.hid (And.intro o1 (And.intro o2 (And.intro o3 (And.intro o4 (And.intro o5 hK)))))
 have HC := Lib.hid (And.intro c9 (And.intro c10 c11))
 have d8 := one_cell c8
 have d9 := one_cell c9
 have HFN := Lib.hid (fun w' (hk : Exc [X, P10, P11] w w') (hn : wsP (x :: t) = none) => show P1End X K P10 P11 res w wrongE w' by rw [← hres, hn]; exact ⟨hk, rfl⟩)
 have HR := Lib.hid hR
 obtain ⟨S, hS⟩ : ∃ S : ByteArray, S = ⟨x.toArray⟩ := ⟨_, rfl⟩
 unfold strV at hcw
 rw [← hS] at hcw
 by_cases hq : x = picksN
 ·have heq : (S.toList == [112, 105, 99, 107, 115]) = true := by rw [hS, ByteArray.toList_mk, hq]; rfl
  have hwp : wsP (x :: t) = (pksR t).map .inl := by rw [wsP, if_pos hq]
  have HN := Lib.hid (next_some X K _ x t w hR)
  have HPK := Lib.hid (fun R' w1 (h1 : RdW X K R' t w1) => picks_is X K R' t w1 h1)
  have HFS := Lib.hid (fun l w' (hp : pksR t = some l) (hk : Exc [X, P10, P11] w w') (h0 : l ≠ []) (hv : ∃ v, w'.heap[P10]? = some (.cells #[v] 43 (0, 0)) ∧ w'.ownsRow w.heap.size 3 1 v l.length (ints l)) => show P1End X K P10 P11 res w (.returned (.tuple #[])) w' by
   rw [← hres, hwp, hp]
   exact ⟨hk, rfl, h0, hv⟩)
  have HFM := Lib.hid (fun w' (hp : pksR t = none) (hk : Exc [X, P10, P11] w w') => show P1End X K P10 P11 res w wrongE w' from HFN.out w' hk (by rw [hwp, hp]; rfl))
  obtain ⟨rp, hrp⟩ : ∃ rp, pksR t = rp := ⟨_, rfl⟩
  rw [hrp] at HFS HFM HPK
  clear hres hwp hq hS o1 o2 o3 o4 o5 c8 c9 c10 c11 hR hK hrp HFN
  go_enter Tryz.func43, Tryz.ntmps43
  go_wp2_with fail
  refine (must_true _).mono ?_
  rintro e w0 ⟨rfl, hw0⟩
  rw [hw0]
  clear hw0 w0
  go_wp2_with fail
  refine HN.out.mono ?_
  rintro e w1 ⟨rfl, hk, v', hv'⟩
  have e9 : w1.cell? ⟨P9, 0, none⟩ = some (.pointer (some ⟨X, 0, none⟩)) := hk.cell (by have := HO.out; omega) (by have := HO.out; omega) d9
  have HK := Lib.hid hk
  have HV := Lib.hid hv'
  clear hk hv'
  go_wp2_with fail
  refine (HPK.out _ w1 HV.out).mono ?_
  rintro e w2 ⟨hk2, hpe⟩
  cases rp with
  | none =>
   obtain rfl : e = wrongE := hpe
   have HF := Lib.hid (HFM.out w2 rfl ((Exc.of_only HK.out (by simp)).trans (Exc.of_only hk2 (by simp))))
   clear hk2
   unfold wrongE at HF ⊢
   go_wp2_with fail
   exact ⟨rfl, HF.out⟩
  | some l =>
   obtain ⟨hl0, u, rfl, how⟩ := hpe
   have h10a : w1.heap[P10]? = some (.cells #[.slice none 0 0] 43 (0, 0)) := (HK.out.block P10 (by have := HO.out; omega) (by have := HO.out; omega)).trans HC.out.2.1
   have h10 : w2.heap[P10]? = some (.cells #[.slice none 0 0] 43 (0, 0)) := (hk2.block P10 (by have := HO.out; have := HK.out.size; omega) (by have := HO.out; omega)).trans h10a
   have f10 : w2.frozen? ⟨P10, 0, none⟩ = false := Lib.frozen_of_heap h10 0
   have g10 := one_cell h10
   have how2 := ownsRow_mono how HK.out.size
   have hown3 : (w2.setCell ⟨P10, 0, none⟩ u).ownsRow w.heap.size 3 1 u l.length (ints l) :=
    how2.kept (row := some P10) ⟨rfl, rfl, rfl, by simp, fun k _ hk => Below.heap_setCell _ _ _ _ (fun e => hk (by simp [e]))⟩ (.inr (fun e => by have := (how2.lt P10 e).1; have := HO.out; omega))
   obtain ⟨ao, n', cp, rfl⟩ : ∃ ao n' cp, u = .slice ao n' cp := by
    rcases how2.2 with ⟨hv, _⟩ | ⟨g, cap, cur, hv, _⟩
    ·exact ⟨_, _, _, hv⟩
    ·exact ⟨_, _, _, hv⟩
   have HF := Lib.hid (HFS.out l _ rfl (((Exc.of_only HK.out (by simp)).trans (Exc.of_only hk2 (by simp))).trans (Exc.setCell w2 P10 (.slice ao n' cp) (by simp))) hl0 ⟨_, one_set h10, hown3⟩)
   clear hk2 hl0 how h10a h10 how2 hown3
   go_wp2_with fail
   refine bodyPost_ret (results_none rfl _ _ _) rfl ?_
   exact HF.out
 ·have heq : (S.toList == [112, 105, 99, 107, 115]) = false := by rw [hS, ByteArray.toList_mk]; simpa [picksN] using hq
  have hwp : wsP (x :: t) = (num x).bind fun n => (readR t).map fun r => .inr (n, r) := by rw [wsP, if_neg hq]
  have HN := Lib.hid (numb_is X K _ (x :: t) w hR)
  have HRQ := Lib.hid (fun w1 (h1 : RdQ X K req0 t w1) => request_is X K t w1 h1)
  have HFS := Lib.hid (fun n r w' (hn : num x = some n) (hp : readR t = some r) (hk : Exc [X, P10, P11] w w') (h10 : w'.heap[P10]? = some (.cells #[.slice none 0 0] 43 (0, 0))) (h11 : w'.heap[P11]? = some (.cells #[.int .i64 n] 3 (0, 0))) (hr : RdQ X K r [] w') => show P1End X K P10 P11 res w (.returned (.tuple #[])) w' by
   rw [← hres, hwp, hn, Option.bind_some, hp]
   exact ⟨hk, rfl, h10, h11, hr⟩)
  have HFM := Lib.hid (fun w' (hp : num x = none ∨ readR t = none) (hk : Exc [X, P10, P11] w w') => show P1End X K P10 P11 res w wrongE w' from HFN.out w' hk (by
   rw [hwp]
   rcases hp with hp | hp
   ·rw [hp]; rfl
   ·rw [hp]; cases num x <;> rfl))
  have hfw : firstW (fun x => (num x).map i64V) (x :: t) = (num x).map i64V := rfl
  rw [hfw] at HN
  obtain ⟨rn, hrn⟩ : ∃ rn, num x = rn := ⟨_, rfl⟩
  obtain ⟨rq, hrq⟩ : ∃ rq, readR t = rq := ⟨_, rfl⟩
  rw [hrn] at HFS HFM HN
  rw [hrq] at HFS HFM HRQ
  clear hres hwp hq hS o1 o2 o3 o4 o5 c8 c9 c10 c11 hR hK hrn hrq HFN hfw
  go_enter Tryz.func43, Tryz.ntmps43
  go_wp2_with fail
  refine (must_true _).mono ?_
  rintro e w0 ⟨rfl, hw0⟩
  rw [hw0]
  clear hw0 w0
  go_wp2_with fail
  refine HN.out.mono ?_
  rintro e w1 ⟨hk, hpe⟩
  cases rn with
  | none =>
   obtain rfl : e = wrongE := hpe
   have HF := Lib.hid (HFM.out w1 (.inl rfl) (Exc.of_only hk (by simp)))
   clear hk
   unfold wrongE at HF ⊢
   go_wp2_with fail
   exact ⟨rfl, HF.out⟩
  | some n =>
   obtain ⟨rfl, v', hv'⟩ := hpe
   have e9 : w1.cell? ⟨P9, 0, none⟩ = some (.pointer (some ⟨X, 0, none⟩)) := hk.cell (by have := HO.out; omega) (by have := HO.out; omega) d9
   have h11 : w1.heap[P11]? = some (.cells #[.int .i64 0] 3 (0, 0)) := (hk.block P11 (by have := HO.out; omega) (by have := HO.out; omega)).trans HC.out.2.2
   have f11 : w1.frozen? ⟨P11, 0, none⟩ = false := Lib.frozen_of_heap h11 0
   have g11 := one_cell h11
   have hk1 : Exc [X, P10, P11] w (w1.setCell ⟨P11, 0, none⟩ (.int .i64 n)) := (Exc.of_only hk (by simp)).trans (Exc.setCell w1 P11 (.int .i64 n) (by simp))
   have hrd : RdQ X K req0 t (w1.setCell ⟨P11, 0, none⟩ (.int .i64 n)) := by
    refine ⟨v', RdW.below (w := w1) ?_ ((Below.refl K w1).setCell (p := ⟨P11, 0, none⟩) (by show K ≤ P11; have := HO.out; omega) _)⟩
    exact hv'
   have h11b := one_set (u' := .int .i64 n) h11
   have h10b : (w1.setCell ⟨P11, 0, none⟩ (.int .i64 n)).heap[P10]? = some (.cells #[.slice none 0 0] 43 (0, 0)) := by
    rw [Below.heap_setCell _ _ _ _ (by simp; have := HO.out; omega)]
    exact (hk.block P10 (by have := HO.out; omega) (by have := HO.out; omega)).trans HC.out.2.1
   have e9b : (w1.setCell ⟨P11, 0, none⟩ (.int .i64 n)).cell? ⟨P9, 0, none⟩ = some (.pointer (some ⟨X, 0, none⟩)) := by
    rw [World.cell?_setCell_other _ _ _ _ (by intro h; injection h with h; have := HO.out; omega)]
    exact e9
   have hsz : w.heap.size ≤ (w1.setCell ⟨P11, 0, none⟩ (.int .i64 n)).heap.size := by simpa using hk.size
   have HW := Lib.hid (And.intro hk1 (And.intro hrd (And.intro h11b (And.intro h10b hsz))))
   clear hk hv' h11 hk1 hrd h11b h10b hsz
   unfold i64V
   go_upto_region 5 with fail
   obtain ⟨w2, hw2⟩ : ∃ w2, w1.setCell ⟨P11, 0, none⟩ (.int .i64 n) = w2 := ⟨_, rfl⟩
   rw [hw2] at HW e9b ⊢
   clear hw2 e9 f11 g11
   go_wp2_with fail
   refine (HRQ.out w2 HW.out.2.1).mono ?_
   rintro e w3 ⟨hk3, hpe⟩
   cases rq with
   | none =>
    obtain rfl : e = wrongE := hpe
    have HF := Lib.hid (HFM.out w3 (.inr rfl) (HW.out.1.trans (Exc.of_only hk3 (by simp))))
    clear hk3
    unfold wrongE at HF ⊢
    go_wp2_with fail
    exact ⟨rfl, HF.out⟩
   | some r =>
    obtain ⟨rfl, hr3⟩ := hpe
    have HF := Lib.hid (HFS.out n r w3 rfl rfl (HW.out.1.trans (Exc.of_only hk3 (by simp)))
     ((hk3.block P10 (by have := HO.out; have := HW.out.2.2.2.2; omega) (by have := HO.out; omega)).trans HW.out.2.2.2.1)
     ((hk3.block P11 (by have := HO.out; have := HW.out.2.2.2.2; omega) (by have := HO.out; omega)).trans HW.out.2.2.1) hr3)
    clear hk3 hr3
    go_wp2_with fail
    go_end0
    exact HF.out
end Go.Proofs.YtkbedajbbakihaaGreatDoor

/-
 The lines of a text, plainly. Conditions: none.
-/
namespace Go.Proofs.YtkbedajbbakihaaGreatDoor
set_option linter.unusedSimpArgs false
set_option linter.unusedVariables false

/-- the lines of a text, what was read of the first ahead; whether each has its line feed -/
def lnsA (acc : List UInt8) : List UInt8 → List (List UInt8 × Bool)
 | [] => if acc = [] then [] else [(acc, false)]
 | c :: r => if c = 10 then (acc, true) :: lnsA [] r else lnsA (acc ++ [c]) r
def lns (l : List UInt8) : List (List UInt8 × Bool) := lnsA [] l
theorem lnsA_cut (l r : List UInt8) (h : (10 : UInt8) ∉ l) : ∀ acc, lnsA acc (l ++ 10 :: r) = (acc ++ l, true) :: lns r := by
 induction l with
 | nil => intro acc; simp [lnsA, lns]
 | cons c l ih =>
  intro acc
  have hc : c ≠ 10 := fun e => h (by rw [e]; exact List.mem_cons_self)
  rw [List.cons_append, lnsA, if_neg hc, ih (fun e => h (List.mem_cons_of_mem _ e))]
  simp
theorem lnsA_rest (l : List UInt8) (h : (10 : UInt8) ∉ l) : ∀ acc, lnsA acc l = if acc ++ l = [] then [] else [(acc ++ l, false)] := by
 induction l with
 | nil => intro acc; simp [lnsA]
 | cons c l ih =>
  intro acc
  have hc : c ≠ 10 := fun e => h (by rw [e]; exact List.mem_cons_self)
  rw [lnsA, if_neg hc, ih (fun e => h (List.mem_cons_of_mem _ e))]
  simp
theorem lnsA_append (a b : List UInt8) : ∀ acc, lnsA acc (a ++ 10 :: b) = lnsA acc (a ++ [10]) ++ lns b := by
 induction a with
 | nil => intro acc; simp [lnsA, lns]
 | cons c a ih =>
  intro acc
  rw [List.cons_append, List.cons_append, lnsA, lnsA]
  split
  ·rw [ih []]; rfl
  ·exact ih _
/-- the lines of two texts, the first one with its line feed -/
theorem lns_append (a b : List UInt8) : lns (a ++ [10] ++ b) = lns (a ++ [10]) ++ lns b := by
 unfold lns
 rw [List.append_assoc, List.singleton_append, lnsA_append]
 rfl
theorem lnsA_count (a : List UInt8) : ∀ acc, (lnsA acc (a ++ [10])).length = (a ++ [10]).count 10 := by
 induction a with
 | nil => intro acc; simp [lnsA]
 | cons c a ih =>
  intro acc
  rw [List.cons_append, lnsA, List.count_cons]
  split
  ·rename_i h; rw [List.length_cons, ih, h]; simp
  ·rename_i h; rw [ih]; simp [h]
end Go.Proofs.YtkbedajbbakihaaGreatDoor

/-
 The lines of a text as they come: strings.Cut at a line feed; the iterator. Conditions: texts of at most 262144 bytes.
-/
namespace Go.Proofs.YtkbedajbbakihaaGreatDoor
open Go.RowKit Go.Shelf Go.Lib
set_option linter.unusedSimpArgs false
set_option linter.unusedVariables false
attribute [local go_sem] Oper.semAt_some

/-! ### plainly -/
theorem cut_nil : Lib.cut [] [10] = ([], [], false) := rfl
theorem cut_lf (r : List UInt8) : Lib.cut (10 :: r) [10] = ([], r, true) := by
 have hix : index (10 :: r) [10] = 0 := by rw [index]; simp [List.isPrefixOf]
 unfold Lib.cut
 rw [hix, if_pos (by decide)]
 simp
theorem cut_ch (c : UInt8) (r : List UInt8) (h : c ≠ 10) : Lib.cut (c :: r) [10] = (c :: (Lib.cut r [10]).1, (Lib.cut r [10]).2.1, (Lib.cut r [10]).2.2) := by
 have hp : ([10] : List UInt8).isPrefixOf (c :: r) = false := by simp [List.isPrefixOf, Ne.symm h]
 have hix : index (c :: r) [10] = if index r [10] == -1 then -1 else index r [10] + 1 := by rw [index, hp]; simp
 have hge := index_ge r [10]
 unfold Lib.cut
 by_cases hm : index r [10] = -1
 ·have hb : (index r [10] == -1) = true := by simp [hm]
  rw [hix, hb, if_pos rfl, if_neg (by omega), if_neg (by omega)]
 ·have hb : (index r [10] == -1) = false := by simp [hm]
  obtain ⟨j, hj⟩ : ∃ j : Nat, index r [10] = j := ⟨(index r [10]).toNat, by omega⟩
  have hix2 : index (c :: r) [10] = (j : Int) + 1 := by rw [hix, hb, hj]; rfl
  rw [hix2, if_pos (by omega), hj, if_pos (by omega)]
  have e1 : ((j : Int) + 1).toNat = j + 1 := by omega
  have e2 : ((j : Int)).toNat = j := by omega
  rw [e1, e2]
  simp only [List.take_succ_cons, List.length_cons, List.length_nil, Nat.zero_add, List.drop_succ_cons]
theorem lnsA_step (l : List UInt8) : ∀ acc, acc ++ l ≠ [] → lnsA acc l = (acc ++ (Lib.cut l [10]).1, (Lib.cut l [10]).2.2) :: lns (Lib.cut l [10]).2.1 := by
 induction l with
 | nil =>
  intro acc h
  rw [cut_nil, lnsA, if_neg (by simpa using h)]
  simp [lns, lnsA]
 | cons c r ih =>
  intro acc h
  by_cases hc : c = 10
  ·subst hc
   rw [cut_lf, lnsA, if_pos rfl]
   simp [lns]
  ·rw [cut_ch c r hc, lnsA, if_neg hc, ih (acc ++ [c]) (by simp)]
   simp
theorem lns_step (l : List UInt8) (h : l ≠ []) : lns l = ((Lib.cut l [10]).1, (Lib.cut l [10]).2.2) :: lns (Lib.cut l [10]).2.1 := by
 have := lnsA_step l [] (by simpa using h)
 simpa [lns] using this
theorem cut_len (l : List UInt8) : (Lib.cut l [10]).2.1.length ≤ l.length - 1 ∧ (Lib.cut l [10]).1.length ≤ l.length := by
 induction l with
 | nil => rw [cut_nil]; simp
 | cons c r ih =>
  by_cases hc : c = 10
  ·subst hc; rw [cut_lf]; simp
  ·rw [cut_ch c r hc]; simp only [List.length_cons]; omega

/-! ### the iterator -/
theorem Cut_lf (l : List UInt8) (hl : l.length ≤ 262144) (m : Int) (w : World) (hm : w.cell? ⟨0, 0, none⟩ = some (.int .i64 m)) :
  Calls Tryz.prog 81 #[strV l, .string ⟨#[10]⟩] w fun e w' => e = .returned (.tuple #[strV (Lib.cut l [10]).1, strV (Lib.cut l [10]).2.1, .bool (Lib.cut l [10]).2.2]) ∧ ∃ n, w' = w.drewN n := by
 have := Tryz.strings_Cut ⟨l.toArray⟩ ⟨#[10]⟩ m w (by simp [ByteArray.size]; omega) hm
 exact this
/-- how much is left, read off the world -/
def leftT (TB : Nat) (w : World) : Nat := match w.cell? ⟨TB, 0, none⟩ with
 | some (.string s) => s.size
 | _ => 0
set_option maxRecDepth 100000 in
set_option maxHeartbeats 4000000 in
theorem lines_in (n l TB : Nat) (text : List UInt8) (ht : text.length ≤ 262144) (J : List (List UInt8 × Bool) → World → Prop) (Jx : World → Prop)
  (hJd : ∀ pre W k, J pre W → J pre (W.drewN k)) (hJc : ∀ pre W v, J pre W → J pre (W.setCell ⟨TB, 0, none⟩ v)) (hJm : ∀ pre W, J pre W → ∃ m, W.cell? ⟨0, 0, none⟩ = some (.int .i64 m))
  (hY : ∀ pre x suf W, J pre W → lns text = pre ++ x :: suf → YieldAt Fence.wide (n - 1) Tryz.prog l #[strV x.1, .bool x.2] W fun e W' =>
   (e = .returned (.bool true) ∧ J (pre ++ [x]) W' ∧ W'.cell? ⟨TB, 0, none⟩ = W.cell? ⟨TB, 0, none⟩ ∧ W'.frozen? ⟨TB, 0, none⟩ = W.frozen? ⟨TB, 0, none⟩) ∨ (e = .returned (.bool false) ∧ Jx W'))
  (W : World) (h0 : J [] W) (hc : W.cell? ⟨TB, 0, none⟩ = some (strV text)) (hf : W.frozen? ⟨TB, 0, none⟩ = false) :
  CallsIn Fence.wide n Tryz.prog 80 #[.func (.yield l) #[] #[], .pointer (some ⟨TB, 0, none⟩)] W fun e W' => (∃ v, e = .returned v) ∧ (J (lns text) W' ∨ Jx W') := by
 refine callsIn_of_wp Tryz.func80 rfl trivial ?_ rfl
 simp only [Tryz.ntmps80, List.size_toArray, List.length_cons, List.length_nil, Nat.reduceAdd, Nat.reduceSub, Array.replicate_succ, Array.replicate_zero, List.push_toArray, List.append_toArray, List.nil_append, List.cons_append]
 gi_wp2
 gi_loopw [3] (fun _ wr => ∃ (pre : List (List UInt8 × Bool)) (rest : List UInt8), lns text = pre ++ lns rest ∧ rest.length ≤ 262144 ∧ J pre wr ∧ wr.cell? ⟨TB, 0, none⟩ = some (strV rest) ∧ wr.frozen? ⟨TB, 0, none⟩ = false) (fun _ wr => leftT TB wr)
 case atStart => exact ⟨[], text, rfl, ht, h0, hc, hf⟩
 case round =>
  obtain ⟨pre, rest, hx, hlen, hJ, hcr, hfr⟩ := hrel
  by_cases hr0 : rest = []
  ·subst hr0
   have hend : J (lns text) wr := by
    rw [hx]
    simpa [lns, lnsA] using hJ
   replace hcr : wr.cell? ⟨TB, 0, none⟩ = some (.string ⟨#[]⟩) := hcr
   have HE := Lib.hid hend
   clear hY h0 hc hf hx hJ hend hJd hJc hJm
   gi_wp2
   go_end0
   exact ⟨⟨_, rfl⟩, .inl HE.out⟩
  ·have hst := lns_step rest hr0
   have hcl := cut_len rest
   obtain ⟨m, hm⟩ := hJm pre wr hJ
   have HC := Lib.hid (Cut_lf rest hlen m wr hm)
   obtain ⟨c1, c2, c3, hcut⟩ : ∃ c1 c2 c3, Lib.cut rest [10] = (c1, c2, c3) := ⟨_, _, _, rfl⟩
   rw [hcut] at hst hcl HC
   dsimp only at hst hcl HC
   have hYk := fun k => hY pre (c1, c3) (lns c2) (wr.drewN k) (hJd pre wr k hJ) (by rw [hx, hst])
   dsimp only [strV] at hYk
   have HYk := Lib.hid hYk
   obtain ⟨T, hT⟩ : ∃ T : ByteArray, T = ⟨rest.toArray⟩ := ⟨_, rfl⟩
   have hTs : T.size = rest.length := by rw [hT]; simp [ByteArray.size]
   have hTne : T ≠ ⟨#[]⟩ := by
    intro e
    have : T.size = 0 := by rw [e]; rfl
    exact hr0 (List.eq_nil_of_length_eq_zero (by omega))
   have hemp : T.toList.isEmpty = false := by
    rw [ByteArray.toList_eq, hT]
    simpa using hr0
   unfold strV at hcr HC
   rw [← hT] at hcr HC
   have hlt : leftT TB wr = T.size := by unfold leftT; rw [hcr]
   have HX := Lib.hid (show lns text = (pre ++ [(c1, c3)]) ++ lns c2 by rw [hx, hst]; simp)
   have HL := Lib.hid (And.intro hlt (And.intro hTs (And.intro hcl.1 (And.intro hlen hr0))))
   have HJC := Lib.hid hJc
   clear hY h0 hc hf hx hJ hJd hJc hJm hst hcl hYk hlt hTs hT hlen hr0 hTne hm hcut
   gi_wp2_with (refine ⟨trivial, fun h => (by cases h), ?_⟩; refine (callsIn_wide.2 HC.out).mono ?_; rintro e w2 ⟨rfl, k, rfl⟩; obtain ⟨fn, tmps, assign, body, hy, hR⟩ := HYk.out k; have HR := Lib.hid hR; clear hR; have hck : (wr.drewN k).cell? ⟨TB, 0, none⟩ = some (.string T) := hcr; have hfk : (wr.drewN k).frozen? ⟨TB, 0, none⟩ = false := hfr; have HKK := Lib.hid (And.intro hck hfk); clear hck hfk)
   refine ⟨fun h => (by cases h), HR.out.mono ?_⟩
   rintro e W3 (⟨rfl, hJ3, hc3, hf3⟩ | ⟨rfl, hx3⟩)
   ·have hc3 : W3.cell? ⟨TB, 0, none⟩ = some (.string T) := hc3.trans HKK.out.1
    have hf3 : W3.frozen? ⟨TB, 0, none⟩ = false := hf3.trans HKK.out.2
    have HJ3 := Lib.hid hJ3
    have hc4 := World.cell?_setCell_same W3 ⟨TB, 0, none⟩ (.string ⟨c2.toArray⟩) (by rw [hc3])
    have hf4 : (W3.setCell ⟨TB, 0, none⟩ (.string ⟨c2.toArray⟩)).frozen? ⟨TB, 0, none⟩ = false := by rw [World.frozen?_setCell]; exact hf3
    have HC4 := Lib.hid (And.intro hc4 hf4)
    clear hJ3 hc4 hf4
    gi_wp2
    go_roundw
    case rel => exact ⟨pre ++ [(c1, c3)], c2, HX.out, by have := HL.out; omega, HJC.out _ _ _ HJ3.out, HC4.out.1, HC4.out.2⟩
    case measure =>
     have h1 := HL.out
     rw [h1.1]
     unfold leftT
     rw [HC4.out.1]
     have h0 : 0 < rest.length := List.length_pos_iff.2 h1.2.2.2.2
     simp only [ByteArray.size, List.size_toArray]
     have := h1.2.1
     simp only [ByteArray.size] at this
     omega
   ·have HX3 := Lib.hid hx3
    clear hx3
    gi_wp2
    refine bodyPost_ret (results_none rfl _ _ _) rfl ?_
    exact ⟨⟨_, rfl⟩, .inr HX3.out⟩
end Go.Proofs.YtkbedajbbakihaaGreatDoor

/-
 A range over the lines of a text: the law. Conditions: texts of at most 262144 bytes; the body goes on or returns.
-/
namespace Go.Proofs.YtkbedajbbakihaaGreatDoor
open Go.RowKit Go.Shelf Go.Lib
set_option linter.unusedSimpArgs false
set_option linter.unusedVariables false

/-- how a round's body ends -/
def lnPost (B TB : Nat) (I : World → Prop) (Ix : World → Prop) (W : World) : Exit → Act → World → Prop
 | .normal, _, W' => KeepsFrom B W W' ∧ (W'.cell? ⟨TB, 0, none⟩ = W.cell? ⟨TB, 0, none⟩ ∧ W'.frozen? ⟨TB, 0, none⟩ = W.frozen? ⟨TB, 0, none⟩) ∧ I W'
 | .ret, _, W' => KeepsFrom B W W' ∧ Ix W'
 | _, _, _ => False
theorem lnPost_out {B TB : Nat} {I Ix : World → Prop} {W : World} : ¬ LetsOut (lnPost B TB I Ix W) := fun ⟨_, _, h⟩ => h
set_option maxHeartbeats 1000000 in
theorem wp_range_lines (n : Nat) {g : Operand} {ps : Array Tmp} {assign body : Code} {Q : Exit → Act → World → Prop} {a : Act} {w : World} (hps : ps.size = 2) (TB : Nat) (text : List UInt8) (ht : text.length ≤ 262144)
  (hg : a.eval g = .func (.func 80) #[] #[.pointer (some ⟨TB, 0, none⟩)]) (hTB : TB < w.heap.size) (hcT : w.cell? ⟨TB, 0, none⟩ = some (strV text)) (hfT : w.frozen? ⟨TB, 0, none⟩ = false)
  (I : List (List UInt8 × Bool) → World → Prop) (Ix : World → Prop) (Ax : List (List UInt8 × Bool) → List UInt8 × Bool → Act → World → Prop)
  (hI : OwnFrom w.heap.size I) (hIx : OwnFrom w.heap.size (fun (_ : Unit) W => Ix W)) (hAx : ∀ pre x a', OwnFrom w.heap.size (fun (_ : Unit) W => Ax pre x a' W))
  (hId : ∀ pre W k, I pre W → I pre (W.drewN k)) (hIc : ∀ pre W v, I pre W → I pre (W.setCell ⟨TB, 0, none⟩ v)) (hIm : ∀ pre W, I pre W → ∃ m, W.cell? ⟨0, 0, none⟩ = some (.int .i64 m))
  (h0 : I [] w)
  (hassign : ∀ (l : Nat) pre x suf (W : World) (K : Act → World → Prop), I pre W → lns text = pre ++ x :: suf →
   (∀ a' W', KeepsFrom w.heap.size W W' → (W'.cell? ⟨TB, 0, none⟩ = W.cell? ⟨TB, 0, none⟩ ∧ W'.frozen? ⟨TB, 0, none⟩ = W.frozen? ⟨TB, 0, none⟩) → Ax pre x a' W' → K a' W') →
   assign.wpIn (Fence.wide.inRound l) (n - 1 - 1) Tryz.prog (Exit.then K (fun _ _ _ => False)) { tmps := (ps.zip #[strV x.1, .bool x.2]).foldl (fun t (p, v) => t.setIfInBounds p v) a.tmps, defers := [] } W)
  (hbody : ∀ (l : Nat) pre x suf (a' : Act) (W : World), Ax pre x a' W → lns text = pre ++ x :: suf →
   body.wpIn (Fence.wide.inRound l) (n - 1 - 1) Tryz.prog (lnPost w.heap.size TB (I (pre ++ [x])) Ix W) a' W)
  (hdone : ∀ (D : Nat) (W : World), w.heap.size ≤ D → I (lns text) W → W.heap[D]? = some (.deferred (some [])) → Q .normal { a with defers := { target := .collected D, args := #[] } :: a.defers } W)
  (hstop : ∀ (D : Nat) (W : World), w.heap.size ≤ D → Ix W → W.heap[D]? = some (.deferred (some [])) → Q .ret { a with defers := { target := .collected D, args := #[] } :: a.defers } W) :
  (Code.rangeFunc g ps assign body).wpIn Fence.wide n Tryz.prog Q a w := by
 refine wpIn_rangeFunc ?_
 intro fn hfn
 obtain ⟨rec, hrec⟩ : ∃ rec : LoopState → Option Code → Loop, rec = fun st pe => { state := st, pending := pe, fn, tmps := a.tmps, params := ps, assign, body, defers := w.heap.size } := ⟨_, rfl⟩
 obtain ⟨W1, hW1⟩ : ∃ W1, (w.alloc (.deferred (some []))).alloc (.loop (rec .ready none)) = W1 := ⟨_, rfl⟩
 have hL1 : W1.heap[w.heap.size + 1]? = some (.loop (rec .ready none)) := by
  rw [← hW1]; have := World.alloc_heap_new (w.alloc (.deferred (some []))) (.loop (rec .ready none)); rwa [World.size_alloc] at this
 have hK1 : W1.heap[w.heap.size]? = some (.deferred (some [])) := by
  rw [← hW1]; exact (Below.heap_alloc _ _ _ (by simp)).trans (World.alloc_heap_new w _)
 have hI1 : I [] W1 := by rw [← hW1]; exact hI.alloc _ (hI.alloc _ h0)
 have hbl : Below w.heap.size w W1 := by
  rw [← hW1]; exact ((Below.refl _ w).alloc (Nat.le_refl _) _).alloc (by simp) _
 have hcT1 : W1.cell? ⟨TB, 0, none⟩ = some (strV text) := (hbl.cell (p := ⟨TB, 0, none⟩) hTB).trans hcT
 have hfT1 : W1.frozen? ⟨TB, 0, none⟩ = false := by
  rw [World.frozen?_of_block (a := ⟨TB, 0, none⟩) (hbl.block TB hTB)]
  exact hfT
 refine ⟨w.heap.size + 1, [{ target := .collected w.heap.size, args := #[] }], W1, { target := .fn (.func 80) #[.pointer (some ⟨TB, 0, none⟩)], args := #[.func (.yield (w.heap.size + 1)) #[] #[]] }, W1, 80,
  #[.func (.yield (w.heap.size + 1)) #[] #[], .pointer (some ⟨TB, 0, none⟩)], W1, ?_, ?_, (fun _ _ => trivial), ?_, (fun h => by cases h), ?_⟩
 ·rw [← hW1, hrec]; exact run_enterLoop_outer _ _ _ _ _
 ·simp only [resolve, hg]
  simp [go_sem]
 ·have eg : ∀ (args : Array Value) (W : World), (callFunc 80 args).run Tryz.prog W = .ok (.enter 80 args) W := enters_of Tryz.func80 (by kernel_rfl) rfl
  simp [invoke, go_sem, eg]
 ·refine (lines_in (n - 1) (w.heap.size + 1) TB text ht
   (fun pre W => I pre W ∧ W.heap[w.heap.size + 1]? = some (.loop (rec .ready none)) ∧ W.heap[w.heap.size]? = some (.deferred (some [])))
   (fun W => Ix W ∧ W.heap[w.heap.size + 1]? = some (.loop (rec .done (some .ret))) ∧ W.heap[w.heap.size]? = some (.deferred (some [])))
   (fun pre W k h => ⟨hId _ _ _ h.1, h.2.1, h.2.2⟩)
   (fun pre W v h => ⟨hIc _ _ _ h.1, (Below.heap_setCell _ _ _ _ (by simp; omega)).trans h.2.1, (Below.heap_setCell _ _ _ _ (by simp; omega)).trans h.2.2⟩)
   (fun pre W h => hIm _ _ h.1) ?_ W1 ⟨hI1, hL1, hK1⟩ hcT1 hfT1).mono ?_
  · -- one round
   rintro pre x suf W ⟨hi, hl, hk⟩ hx
   have hy := run_yield (P := Tryz.prog) (args := #[strV x.1, .bool x.2]) hl (by rw [hrec]; exact hps.symm)
   rw [hrec] at hy
   refine ⟨fn, _, assign, body, hy, roundIn_of_wpIn hfn (hassign _ pre x suf W _ hi hx ?_)⟩
   intro a' Wa hka hta hax
   have hl1 := hka.same _ _ (by omega) hl rfl
   have hk1 := hka.same _ _ (Nat.le_refl _) hk rfl
   have hlt1 : w.heap.size + 1 < Wa.heap.size := (Array.getElem?_eq_some_iff.1 hl1).1
   refine ⟨_, run_beginRound hl1 (by rw [hrec]), ?_⟩
   obtain ⟨Wb, hWb⟩ : ∃ Wb, Wa.putObj (w.heap.size + 1) (.loop { rec .ready none with state := .busy }) = Wb := ⟨_, rfl⟩
   rw [hWb]
   have hl2 : Wb.heap[w.heap.size + 1]? = some (.loop { rec .ready none with state := .busy }) := by rw [← hWb]; exact World.putObj_heap_same hlt1
   have hk2 : Wb.heap[w.heap.size]? = some (.deferred (some [])) := by rw [← hWb]; exact (World.putObj_heap_other (by omega)).trans hk1
   have hax2 : Ax pre x a' Wb := by rw [← hWb]; exact (hAx pre x a').putObj (s := ()) _ hax (by omega) hl1 rfl
   have htb : ∀ (X : World) (o : Obj), (X.putObj (w.heap.size + 1) o).cell? ⟨TB, 0, none⟩ = X.cell? ⟨TB, 0, none⟩ ∧ (X.putObj (w.heap.size + 1) o).frozen? ⟨TB, 0, none⟩ = X.frozen? ⟨TB, 0, none⟩ := fun X o =>
    ⟨World.cell?_of_block (a := ⟨TB, 0, none⟩) (World.putObj_heap_other (by simp; omega)), World.frozen?_of_block (a := ⟨TB, 0, none⟩) (World.putObj_heap_other (by simp; omega))⟩
   have htb1 : Wb.cell? ⟨TB, 0, none⟩ = W.cell? ⟨TB, 0, none⟩ ∧ Wb.frozen? ⟨TB, 0, none⟩ = W.frozen? ⟨TB, 0, none⟩ := by
    rw [← hWb]
    exact ⟨(htb _ _).1.trans hta.1, (htb _ _).2.trans hta.2⟩
   refine wpIn_mono (hbody _ pre x suf a' Wb hax2 hx) ?_
   rintro e a3 W3 hp
   have fin : ∀ (jump : Option Code), KeepsFrom w.heap.size Wb W3 →
     (Instr.endRound (w.heap.size + 1) jump).run Tryz.prog W3 = .ok (.bool jump.isNone) (W3.putObj (w.heap.size + 1) (.loop (rec (if jump.isNone then .ready else .done) jump))) ∧
     W3.heap[w.heap.size + 1]? = some (.loop { rec .ready none with state := .busy }) ∧
     (W3.putObj (w.heap.size + 1) (.loop (rec (if jump.isNone then .ready else .done) jump))).heap[w.heap.size + 1]? = some (.loop (rec (if jump.isNone then .ready else .done) jump)) ∧
     (W3.putObj (w.heap.size + 1) (.loop (rec (if jump.isNone then .ready else .done) jump))).heap[w.heap.size]? = some (.deferred (some [])) := fun jump hk3 => by
    have hl3 := hk3.same _ _ (by omega) hl2 rfl
    have := run_endRound (P := Tryz.prog) jump hl3
    rw [hrec] at this ⊢
    exact ⟨this, by rw [hrec] at hl3; exact hl3, World.putObj_heap_same (Array.getElem?_eq_some_iff.1 hl3).1, (World.putObj_heap_other (by omega)).trans (hk3.same _ _ (Nat.le_refl _) hk2 rfl)⟩
   cases e with
   | normal =>
    obtain ⟨hk3, ht3, hi3⟩ := hp
    obtain ⟨hr, hl3, hl4, hk4⟩ := fin none hk3
    exact ⟨_, _, hr, .inl ⟨rfl, ⟨hI.putObj _ hi3 (by omega) hl3 rfl, hl4, hk4⟩, ((htb _ _).1.trans ht3.1).trans htb1.1, ((htb _ _).2.trans ht3.2).trans htb1.2⟩⟩
   | ret =>
    obtain ⟨hk3, hi3⟩ := hp
    obtain ⟨hr, hl3, hl4, hk4⟩ := fin (some .ret) hk3
    exact ⟨_, _, hr, .inr ⟨rfl, hIx.putObj (s := ()) _ hi3 (by omega) hl3 rfl, hl4, hk4⟩⟩
   | exit id => exact hp.elim
   | goto t => exact hp.elim
   | panic ch => exact hp.elim
   | outgrown => exact hp.elim
  · -- behind the iterator
   rintro e W2 ⟨⟨v, rfl⟩, (⟨hi, hl, hk⟩ | ⟨hi, hl, hk⟩)⟩
   ·exact ⟨none, _, by have := run_endLoop (P := Tryz.prog) hl (by rw [hrec]; simp); rw [hrec] at this; exact this, hdone _ _ (Nat.le_refl _) (hI.putObj _ hi (by omega) hl rfl) ((World.putObj_heap_other (by omega)).trans hk)⟩
   ·exact ⟨some .ret, _, by have := run_endLoop (P := Tryz.prog) hl (by rw [hrec]; simp); rw [hrec] at this; exact this, wpIn_ret (hstop _ _ (Nat.le_refl _) (hIx.putObj (s := ()) _ hi (by omega) hl rfl) ((World.putObj_heap_other (by omega)).trans hk))⟩
end Go.Proofs.YtkbedajbbakihaaGreatDoor
