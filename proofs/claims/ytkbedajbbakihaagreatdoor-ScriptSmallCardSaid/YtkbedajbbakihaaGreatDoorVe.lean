/-
 Texts of this proof, put together (Lr, Dp): each part's first words say what it holds. Conditions: as each part says.
-/
import Derived.Test.YtkbedajbbakihaaGreatDoorYu
import Derived.Test.YtkbedajbbakihaaGreatDoorVd
import Derived.Test.YtkbedajbbakihaaGreatDoorQk
/-
 The law's repeat, walked. Conditions: the text that comes out has at most 10^9 bytes.
-/
namespace Go.Proofs.YtkbedajbbakihaaGreatDoor
open Go.RowKit Go.Sort Go.Lib
set_option linter.unusedSimpArgs false
set_option linter.unusedVariables false

theorem repeat_is (s : ByteArray) (n : Nat) (hb : n * s.size ≤ 1000000000) (hn : n ≤ 1000000000) (w : World) : Calls Tryz.prog 53 #[.string s, .int .i64 n] w fun e w' => e = .returned (.string ⟨(repL s.data.toList n).toArray⟩) ∧ Later w w' := by
 obtain ⟨l, hl⟩ : ∃ l, s.data.toList = l := ⟨_, rfl⟩
 have hll : l.length = s.size := by rw [← hl]; exact (Lib.size_eq s).symm
 have hsc : Lib.strCells s = Lib.byteCells l := by rw [← hl]; simp [Lib.byteCells, Lib.strCells]
 rw [hl]
 obtain ⟨i0, hi, hz0, hz1, hz2⟩ := info_parts infoB
 have HI := Lib.hid (And.intro hi (And.intro hz0 (And.intro hz1 hz2)))
 have HI0 := Lib.hid (show w.ownsRow w.heap.size 5 1 (.slice none 0 0) ((repL l 0)).length (Lib.byteCells ((repL l 0))) by simpa [Lib.byteCells, repL] using World.ownsRow_nil w w.heap.size 5 1)
 have HL := Lib.hid (And.intro hll (And.intro hsc hb))
 clear hl hll hsc hb hi hz0 hz1 hz2
 go_enter Tryz.func53, Tryz.ntmps53
 go_wp2_with fail
 go_loopw [5, 6] (fun v i wr => ∃ k : Nat, k ≤ n ∧ i = .int .i64 k ∧ Later w wr ∧ wr.ownsRow w.heap.size 5 1 v ((repL l k)).length (Lib.byteCells ((repL l k)))) (fun _ i _ => n - (RowKit.intOf i).toNat)
 case atStart => exact ⟨0, by omega, rfl, Later.refl w, HI0.out⟩
 case round =>
  obtain ⟨k, hk, rfl, hlw, hown⟩ := hrel
  rename World => wk
  have HLW := Lib.hid hlw
  have HOWN := Lib.hid hown
  obtain ⟨av, cv, rfl⟩ := slice_of_own hown
  clear HI0 hlw hown
  by_cases hlt : k < n
  ·obtain ⟨m, hm⟩ : ∃ m, (repL l k).length = m := ⟨_, rfl⟩
   have hown := HOWN.out
   rw [hm] at hown ⊢
   have hmb : m + s.size ≤ 1000000000 := by
    have h1 := HL.out.2.2
    have h2 := repL_len l k
    rw [HL.out.1] at h2
    have h3 : (k + 1) * s.size ≤ n * s.size := Nat.mul_le_mul_right _ (by omega)
    rw [Nat.add_mul, Nat.one_mul] at h3
    omega
   have hsz := HLW.out.size
   have d0 : decide ((k : Int) < (n : Int)) = true := decide_eq_true (by omega)
   have HT := Lib.hid hm
   clear hm
   go_wp2_with (at_builtin; refine Lib.wpList_append_own_string _ rfl _ _ 22 9 rfl w.heap.size 5 i0 Tryz.underlying22 Tryz.underlying9 HI.out.1 HI.out.2.1 HI.out.2.2.1 HI.out.2.2.2 _ _ _ rfl hown s rfl ?c3 ?c4 ?c5 ?_)
   case c3 => unfold maxLen; omega
   case c4 => omega
   case c5 => omega
   intro v' w2 hown' hgrow _
   have HREL := Lib.hid (show Later w w2 ∧ w2.ownsRow w.heap.size 5 1 v' ((repL l (k + 1))).length (Lib.byteCells ((repL l (k + 1)))) by
    refine ⟨later_grown HLW.out hown hgrow, ?_⟩
    rw [repL_snoc, List.length_append, HT.out, HL.out.1]
    have h2 : Lib.byteCells (repL l k ++ l) = Lib.byteCells (repL l k) ++ Lib.strCells s := by rw [HL.out.2.1]; simp [Lib.byteCells]
    rw [h2]
    exact hown')
   clear hown hown' hgrow
   go_wp2_with fail
   go_roundw
   case rel => exact ⟨k + 1, by omega, by go_num, HREL.out⟩
   case measure => simp [RowKit.intOf]; omega
  ·have d0 : decide ((k : Int) < (n : Int)) = false := decide_eq_false (by omega)
   have hkn : k = n := by omega
   obtain ⟨m, hm⟩ : ∃ m, (repL l k).length = m := ⟨_, rfl⟩
   have hcv : (convert 22 9 (.slice av m cv)).run Tryz.prog wk = .ok (.string ⟨(repL l k).toArray⟩) wk := by
    have h := HOWN.out
    rw [hm] at h
    exact conv_own h hm.symm
   rw [hm]
   obtain ⟨A, hA⟩ : ∃ A : ByteArray, ⟨(repL l k).toArray⟩ = A := ⟨_, rfl⟩
   rw [hA] at hcv
   have HA := Lib.hid (show ⟨(repL l n).toArray⟩ = A by rw [← hkn]; exact hA)
   clear hm hA hkn
   go_wp2_with fail
   go_ret
   exact ⟨by rw [HA.out]; rfl, HLW.out⟩
end Go.Proofs.YtkbedajbbakihaaGreatDoor

/-
 ParseDone at lines "0 0 0 0 ok", walked. Conditions: at most 4097 lines; the listed variables read as laid.
-/
namespace Go.Proofs.YtkbedajbbakihaaGreatDoor
open Go.RowKit Go.Sort Go.Lib
set_option linter.unusedSimpArgs false
set_option linter.unusedVariables false

/-! ### plainly -/
def dzL : List UInt8 := [48, 32, 48, 32, 48, 32, 48, 32, 111, 107]
theorem dz_spl : spl dzL = [nZ, nZ, nZ, nZ, nOk] := by decide +kernel
theorem dz_lns (n : Nat) : lns (repL (dzL ++ [10]) n) = List.replicate n (dzL, true) := by
 induction n with
 | zero => rfl
 | succ n ih =>
  rw [repL_succ, List.append_assoc, List.singleton_append, lns_line _ _ (by decide), ih, List.replicate_succ]
theorem rep_mid {α : Type} {x y : α} {n : Nat} {pre suf : List α} (h : List.replicate n y = pre ++ x :: suf) : x = y ∧ pre.length < n := by
 refine ⟨?_, ?_⟩
 ·have : x ∈ List.replicate n y := by rw [h]; simp
  exact (List.mem_replicate.1 this).2
 ·have := congrArg List.length h
  simp at this
  omega
/-- n results as cells -/
def dzC (n : Nat) : List Value := (List.replicate n doneZ.toList).flatten
theorem dzC_snoc (n : Nat) : dzC (n + 1) = dzC n ++ doneZ.toList := by simp [dzC, List.replicate_succ']
theorem dzC_len (n : Nat) : (dzC n).length = n * 21 := by simp [dzC, doneZ]
/-! ### ParseDone's blocks -/
/-- the blocks of ParseDone between two lines -/
structure DS (wS : World) (D k : Nat) (W : World) : Prop where
 later : Later wS W
 big : D ≤ W.heap.size
 r0 : W.heap[wS.heap.size]? = some (.cells #[.slice none 0 0] 101 (0, 0))
 r1 : W.heap[wS.heap.size + 1]? = some (.cells #[.int .i64 0] 3 (0, 0))
 r2 : W.heap[wS.heap.size + 2]? = some (.cells #[.int .i64 0] 24 (0, 0))
 cap : k ≤ 4096
 st : ∃ lv, W.heap[wS.heap.size + 3]? = some (.cells #[lv] 101 (0, 0)) ∧ W.ownsRow D 106 21 lv k (dzC k)
theorem DS.grown {wS : World} {D k : Nat} {W W' : World} (h : DS wS D k W) (hD : wS.heap.size + 5 ≤ D) (row : Option Nat) (hg : W.grownBy W' row)
  (hr : ∀ r, row = some r → D ≤ r ∧ ∃ o : Obj, W.heap[r]? = some o ∧ o.isCells = false) : DS wS D k W' := by
 have hb := h.big
 have keep : ∀ k, k < D → W'.heap[k]? = W.heap[k]? := fun k hk => hg.block k (by omega) (fun e => by have := (hr k e.symm).1; omega)
 obtain ⟨lv, h2, h3⟩ := h.st
 exact ⟨⟨hg.os.trans h.later.os, hg.tape.trans h.later.tape, hg.output.trans h.later.output, Nat.le_trans h.later.size hg.size, fun k hk => (keep k (by omega)).trans (h.later.block k hk)⟩,
  Nat.le_trans hb hg.size, (keep _ (by omega)).trans h.r0, (keep _ (by omega)).trans h.r1, (keep _ (by omega)).trans h.r2, h.cap,
  lv, (keep _ (by omega)).trans h2, later_row h3 row hg (fun r e => (hr r e).2)⟩
theorem DS.own {wS : World} {D : Nat} (hD : wS.heap.size + 5 ≤ D) : OwnFrom D (fun (pre : List (List UInt8 × Bool)) W => DS wS D pre.length W) := fun pre W W' row h hg hr => h.grown hD row hg hr
theorem DS.other {wS : World} {D k : Nat} {W W' : World} (h : DS wS D k W) (hD : wS.heap.size + 5 ≤ D) (T : Nat) (hT : wS.heap.size + 4 ≤ T) (hT2 : T < D) (hk : Only T W W') : DS wS D k W' := by
 have hb := h.big
 have keep : ∀ k, k < D → k ≠ T → W'.heap[k]? = W.heap[k]? := fun k hk2 hne => hk.block k (by omega) hne
 obtain ⟨lv, h2, h3⟩ := h.st
 exact ⟨hk.later h.later (by omega), Nat.le_trans hb hk.size, (keep _ (by omega) (by omega)).trans h.r0, (keep _ (by omega) (by omega)).trans h.r1, (keep _ (by omega) (by omega)).trans h.r2, h.cap,
  lv, (keep _ (by omega) (by omega)).trans h2,
  h3.kept (row := some T) ⟨hk.os, hk.tape, hk.output, hk.size, fun i hi hne => hk.block i hi (fun e => hne (by rw [e]))⟩ (.inr (fun e => by have := (h3.lt T e).1; omega))⟩
theorem DS.after {wS : World} {D k : Nat} {W W' : World} (h : DS wS D k W) (hD : wS.heap.size + 5 ≤ D) (hl : Later W W') : DS wS D k W' := by
 have hb := h.big
 have keep : ∀ k, k < D → W'.heap[k]? = W.heap[k]? := fun k hk => hl.block k (by omega)
 obtain ⟨lv, h2, h3⟩ := h.st
 exact ⟨h.later.trans hl, Nat.le_trans hb hl.size, (keep _ (by omega)).trans h.r0, (keep _ (by omega)).trans h.r1, (keep _ (by omega)).trans h.r2, h.cap, lv, (keep _ (by omega)).trans h2, ownsRow_later h3 hl⟩
/-- ParseDone has returned the error -/
def DX (n : Nat) (w : World) (D : Nat) (W : World) : Prop := n = 4097 ∧ Later w W ∧ D ≤ W.heap.size ∧ W.heap[w.heap.size]? = some (.cells #[.slice none 0 0] 101 (0, 0)) ∧
 W.heap[w.heap.size + 1]? = some (.cells #[.int .i64 4096] 3 (0, 0)) ∧ W.heap[w.heap.size + 2]? = some (.cells #[.int .i64 3] 24 (0, 0))
theorem DX.own (n : Nat) {w : World} {D : Nat} (hD : w.heap.size + 5 ≤ D) : OwnFrom D (fun (_ : Unit) W => DX n w D W) := by
 rintro ⟨⟩ W W' row ⟨h0, hl, hb, h1, h2, h3⟩ hg hr
 have keep : ∀ k, k < D → W'.heap[k]? = W.heap[k]? := fun k hk => hg.block k (by omega) (fun e => by have := (hr k e.symm).1; omega)
 exact ⟨h0, ⟨hg.os.trans hl.os, hg.tape.trans hl.tape, hg.output.trans hl.output, Nat.le_trans hl.size hg.size, fun k hk => (keep k (by omega)).trans (hl.block k hk)⟩, Nat.le_trans hb hg.size,
  (keep _ (by omega)).trans h1, (keep _ (by omega)).trans h2, (keep _ (by omega)).trans h3⟩
/-- how ParseDone ends -/
def PDEnd (n : Nat) (w : World) (e : Ending) (w' : World) : Prop := Later w w' ∧
 if n = 4097 then e = .returned (.tuple #[.slice none 0 0, .int .i64 4096, .int .i64 3])
 else ∃ v, e = .returned (.tuple #[v, .int .i64 0, .int .i64 0]) ∧ w'.ownsRow w.heap.size 106 21 v n (dzC n)
theorem heap5 (w : World) (a b c d e : Obj) (W : World) (hW : W = ((((w.alloc a).alloc b).alloc c).alloc d).alloc e) (B : Nat) (hB : w.heap.size = B) :
  W.heap[B]? = some a ∧ W.heap[B + 1]? = some b ∧ W.heap[B + 2]? = some c ∧ W.heap[B + 3]? = some d ∧ W.heap[B + 4]? = some e := by
 subst hW hB
 refine ⟨?_, ?_, ?_, ?_, ?_⟩
 ·iterate 4 rw [heap_alloc_lt _ _ _ (by simp; try omega)]
  exact (MapKept.heap_alloc w _).1
 ·iterate 3 rw [heap_alloc_lt _ _ _ (by simp; try omega)]
  simpa using (MapKept.heap_alloc (w.alloc a) b).1
 ·iterate 2 rw [heap_alloc_lt _ _ _ (by simp; try omega)]
  simpa using (MapKept.heap_alloc ((w.alloc a).alloc b) c).1
 ·rw [heap_alloc_lt _ _ _ (by simp; try omega)]
  simpa using (MapKept.heap_alloc (((w.alloc a).alloc b).alloc c) d).1
 ·simpa using (MapKept.heap_alloc ((((w.alloc a).alloc b).alloc c).alloc d) e).1
set_option maxRecDepth 100000 in
theorem results54 (tmps : Array Value) (w : World) (a b c : Nat) (v : Value) (n d : Int) (h2 : tmps.getD 2 undef = .pointer (some ⟨a, 0, none⟩)) (h3 : tmps.getD 3 undef = .pointer (some ⟨b, 0, none⟩)) (h4 : tmps.getD 4 undef = .pointer (some ⟨c, 0, none⟩))
  (k0 : w.heap[a]? = some (.cells #[v] 101 (0, 0))) (k1 : w.heap[b]? = some (.cells #[.int .i64 n] 3 (0, 0))) (k2 : w.heap[c]? = some (.cells #[.int .i64 d] 24 (0, 0))) :
  (results Tryz.f54 tmps).run Tryz.prog w = .ok (.tuple #[v, .int .i64 n, .int .i64 d]) w := by
 have e1 := one_cell k0
 have e2 := one_cell k1
 have e3 := one_cell k2
 rw [Array.getD_eq_getD_getElem?] at h2 h3 h4
 simp [results, Tryz.results54, go_sem, h2, h3, h4, e1, e2, e3]
theorem ret54 (R : Ending → World → Prop) (ac : Act) (W : World) (D a b c : Nat) (v : Value) (n d : Int) (h2 : ac.tmps.getD 2 undef = .pointer (some ⟨a, 0, none⟩)) (h3 : ac.tmps.getD 3 undef = .pointer (some ⟨b, 0, none⟩)) (h4 : ac.tmps.getD 4 undef = .pointer (some ⟨c, 0, none⟩))
  (hd : ac.defers = [{ target := .collected D, args := #[] }]) (hK : W.heap[D]? = some (.deferred (some [])))
  (k0 : W.heap[a]? = some (.cells #[v] 101 (0, 0))) (k1 : W.heap[b]? = some (.cells #[.int .i64 n] 3 (0, 0))) (k2 : W.heap[c]? = some (.cells #[.int .i64 d] 24 (0, 0)))
  (hR : R (.returned (.tuple #[v, .int .i64 n, .int .i64 d])) (W.putObj D (.deferred none))) : bodyPostM Fence.wide 9 Tryz.prog Tryz.f54 R .ret ac W := by
 have hne : ∀ (k : Nat) (cs : Array Value) (t : TypeId), W.heap[k]? = some (.cells cs t (0, 0)) → (W.putObj D (.deferred none)).heap[k]? = some (.cells cs t (0, 0)) := fun k cs t hk => by
  rw [World.putObj_heap_other (by intro e; rw [e, hK] at hk; cases hk)]
  exact hk
 show LeavesInM Fence.wide 9 Tryz.prog Tryz.f54 ac.tmps R ac.defers .returning W
 rw [hd]
 refine ⟨by simp, .inl ⟨_, _, rfl, run_takeDeferred hK, ?_⟩⟩
 exact ⟨_, results54 _ _ a b c v n d h2 h3 h4 (hne _ _ _ k0) (hne _ _ _ k1) (hne _ _ _ k2), hR⟩
set_option maxRecDepth 100000 in
theorem enter86 (args : Array Value) (W : World) : (callFunc 86 args).run Tryz.prog W = .ok (.enter 86 args) W := rfl
theorem D1.later {X K P7 P8 P9 : Nat} {w w' : World} (h : D1 X K P7 P8 P9 w) (hl : Later w w') : D1 X K P7 P8 P9 w' := by
 obtain ⟨o1, o2, o3, o4⟩ := h.ord
 have hX := h.rd.elim fun v hv => hv.2.1
 exact ⟨⟨o1, o2, o3, Nat.lt_of_lt_of_le o4 hl.size⟩, (hl.block P7 (by omega)).trans h.c7, (hl.block P8 (by omega)).trans h.c8, (hl.block P9 (by omega)).trans h.c9, h.rd.imp fun v hv => hv.later hl⟩
/-- what the try leaves -/
theorem try_done (X K P7 P8 P9 : Nat) (W : World) (h : D1 X K P7 P8 P9 W) :
  Calls Tryz.prog 38 #[.func (.func 86) #[] #[.pointer (some ⟨P7, 0, none⟩), .pointer (some ⟨P8, 0, none⟩), .pointer (some ⟨P9, 0, none⟩)]] W
   (TryEnd W.heap.size (fun w' => Exc [X, P9] (W.alloc (.cells #[.bool false] 4)) w' ∧ w'.heap[P9]? = some (.cells doneZ 106 (0, 0))) (fun _ => False)) := by
 have hl : Later W (W.alloc (.cells #[.bool false] 4)) := (Later.refl W).alloc _
 have h4 := h.later hl
 obtain ⟨o1, o2, o3, o4⟩ := h.ord
 have hX : X < K ∧ K ≤ W.heap.size := h.rd.elim fun v hv => hv.2.1
 refine try_is 86 #[] _ W _ _ enter86 ((done1_is X K P7 P8 P9 _ h4).mono ?_)
 rintro e w' ⟨rfl, hk, hz⟩
 exact ⟨(hk.block W.heap.size (by simp) (by simp; omega)).trans (MapKept.heap_alloc W _).1, .inl ⟨rfl, hk, hz⟩⟩
theorem d1_new (W : World) (hW : Laid W) (L P7 : Nat) (hL : W.heap.size = L) (h7 : W.heap[P7]? = some (.cells #[.bool true] 4 (0, 0))) (W4 : World)
  (hW4 : W4 = (((W.alloc (.cells (wsC (spl dzL)).toArray 9)).alloc (.cells (reqRow req0 (.slice (some ⟨L, 0, none⟩) (spl dzL).length (spl dzL).length)) 83)).alloc (.cells #[.pointer (some ⟨L + 1, 0, none⟩)] 74)).alloc (.cells doneZ 106)) :
  D1 (L + 1) (L + 2) P7 (L + 2) (L + 3) W4 ∧ Later W W4 ∧ W4.heap.size = L + 4 := by
 subst hL
 have h7s : P7 < W.heap.size := (Array.getElem?_eq_some_iff.1 h7).1
 obtain ⟨W1, hW1⟩ : ∃ W1, W.alloc (.cells (wsC (spl dzL)).toArray 9) = W1 := ⟨_, rfl⟩
 have hl1 : Later W W1 := by rw [← hW1]; exact (Later.refl W).alloc _
 have hs1 : W1.heap.size = W.heap.size + 1 := by rw [← hW1]; simp
 have hb1 : W1.heap[W.heap.size]? = some (.cells (wsC (spl dzL)).toArray 9 (0, 0)) := by rw [← hW1]; exact (MapKept.heap_alloc W _).1
 rw [hW1] at hW4
 obtain ⟨W2, hW2⟩ : ∃ W2, W1.alloc (.cells (reqRow req0 (.slice (some ⟨W.heap.size, 0, none⟩) (spl dzL).length (spl dzL).length)) 83) = W2 := ⟨_, rfl⟩
 have hrd := rd_new dzL (by decide) W W1 hW hl1 W.heap.size hb1 W2 hW2
 have hs2 : W2.heap.size = W.heap.size + 2 := by rw [← hW2]; simp; omega
 have hl2 : Later W1 W2 := by rw [← hW2]; exact (Later.refl W1).alloc _
 rw [hs1, hs2] at hrd
 rw [hW2] at hW4
 have hl4 : Later W2 W4 := by rw [hW4]; exact ((Later.refl W2).alloc _).alloc _
 have hs4 : W4.heap.size = W.heap.size + 4 := by rw [hW4]; simp; omega
 refine ⟨⟨⟨by omega, by omega, by omega, by omega⟩, ?_, ?_, ?_, ?_⟩, (hl1.trans hl2).trans hl4, hs4⟩
 ·rw [((hl1.trans hl2).trans hl4).block P7 h7s]; exact h7
 ·rw [hW4, heap_alloc_lt _ _ _ (by simp; omega)]
  have := (MapKept.heap_alloc W2 (.cells #[.pointer (some ⟨W.heap.size + 1, 0, none⟩)] 74)).1
  rwa [hs2] at this
 ·rw [hW4]
  have := (MapKept.heap_alloc (W2.alloc (.cells #[.pointer (some ⟨W.heap.size + 1, 0, none⟩)] 74)) (.cells doneZ 106)).1
  rw [World.size_alloc, hs2] at this
  exact this
 ·obtain ⟨v, hv⟩ := hrd.later hl4
  rw [dz_spl] at hv
  exact ⟨v, hv⟩
theorem fold2d (a : Array Value) (X1 X2 : Value) : Array.foldl (fun (t : Array Value) (x : Nat × Value) => match x with | (p, v) => t.setIfInBounds p v) a (Array.zip #[16, 17] #[X1, X2]) = (a.setIfInBounds 16 X1).setIfInBounds 17 X2 := by
 simp
/-- ParseDone's frame within the loop -/
def frD (B k : Nat) (T : ByteArray) (f15 v6 v7 v16 v17 : Value) : Array Value :=
 #[.string T, undef, .pointer (some ⟨B, 0, none⟩), .pointer (some ⟨B + 1, 0, none⟩), .pointer (some ⟨B + 1 + 1, 0, none⟩), .pointer (some ⟨B + 1 + 1 + 1, 0, none⟩), v6, v7, undef, undef, undef, .string T, .int .i64 k, .bool false, .string T, f15, v16, v17,
  undef, undef, undef, undef, undef, undef, undef, undef, undef, undef, undef, undef, undef, undef, undef, undef, undef, undef, undef, undef, undef, undef]
theorem infoD : (Tryz.prog.info? 106).map (fun i => (i.zero, i.size, i.bytes)) = some (some (.agg doneZ), 21, 192) := by kernel_rfl
theorem DS.push {w : World} {D k : Nat} {W W6 : World} {lv s3 : Value} (h : DS w D k W) (hD : w.heap.size + 5 ≤ D) (hk : k + 1 ≤ 4096) (hS : W.heap[w.heap.size + 3]? = some (.cells #[lv] 101 (0, 0))) (ho : W.ownsRow D 106 21 lv k (dzC k))
  (h6 : W6.ownsRow D 106 21 s3 (k + 1) (dzC k ++ doneZ.toList)) (hg : W.grownBy W6 lv.ownBlock) :
  DS w D (k + 1) (W6.setCell ⟨w.heap.size + 3, 0, none⟩ s3) ∧ KeepsFrom D W (W6.setCell ⟨w.heap.size + 3, 0, none⟩ s3) ∧ (W6.setCell ⟨w.heap.size + 3, 0, none⟩ s3).heap[w.heap.size + 4]? = W.heap[w.heap.size + 4]? := by
 have hb := h.big
 have hlt : ∀ k, lv.ownBlock = some k → D ≤ k := fun k hk => (ho.lt k hk).1
 have keep : ∀ k, k < D → W6.heap[k]? = W.heap[k]? := fun k hk => hg.block k (by omega) (fun e => by have := hlt k e.symm; omega)
 have hl6 : Later w W6 := ⟨hg.os.trans h.later.os, hg.tape.trans h.later.tape, hg.output.trans h.later.output, Nat.le_trans h.later.size hg.size, fun k hk => (keep k (by omega)).trans (h.later.block k hk)⟩
 have hkf : KeepsFrom D W W6 := ⟨hg.size, fun k o _ hk ho' => (hg.block k (Array.getElem?_eq_some_iff.1 hk).1 (fun e => by
  rcases ho.2 with ⟨rfl, _⟩ | ⟨g', cap', cur', rfl, _, hg', _⟩
  ·simp [Value.ownBlock] at e
  ·simp only [Value.ownBlock, Option.some.injEq] at e
   subst e
   rw [hg'] at hk
   cases hk
   cases ho')).trans hk⟩
 obtain ⟨k1, k2, k3⟩ := setCell_low (D := D) (p := w.heap.size + 3) (o := 0) (u := s3) hl6 (by omega) (by omega)
 refine ⟨⟨k1, by have := hg.size; simp; omega, (k3 _ (by omega)).trans ((keep _ (by omega)).trans h.r0), (k3 _ (by omega)).trans ((keep _ (by omega)).trans h.r1), (k3 _ (by omega)).trans ((keep _ (by omega)).trans h.r2), hk, s3, one_set ((keep _ (by omega)).trans hS), own_set (by rw [dzC_snoc]; exact h6) (by omega)⟩, hkf.trans k2, (k3 _ (by omega)).trans (keep _ (by omega))⟩
/-- on the way out: d3 and d4 whether index and error are stored -/
structure ED (w : World) (D : Nat) (W0 : World) (lv : Value) (d3 d4 : Bool) (W' : World) : Prop where
 later : Later w W'
 big : D ≤ W'.heap.size
 r0 : W'.heap[w.heap.size]? = some (.cells #[.slice none 0 0] 101 (0, 0))
 r1 : W'.heap[w.heap.size + 1]? = some (.cells #[.int .i64 (if d3 = true then 4096 else 0)] 3 (0, 0))
 r2 : W'.heap[w.heap.size + 2]? = some (.cells #[.int .i64 (if d4 = true then 3 else 0)] 24 (0, 0))
 s : W'.heap[w.heap.size + 3]? = some (.cells #[lv] 101 (0, 0))
 kf : KeepsFrom D W0 W'
theorem ED.drew {w : World} {D : Nat} {W0 W : World} {lv : Value} {d3 d4 : Bool} (h : ED w D W0 lv d3 d4 W) : ED w D W0 lv d3 d4 { W with drawn := W.drawn + 1 } :=
 ⟨h.later.drew, h.big, h.r0, h.r1, h.r2, h.s, ⟨h.kf.size, h.kf.same⟩⟩
theorem ED.set0 {w : World} {D : Nat} {W0 W : World} {lv : Value} {d3 d4 : Bool} (h : ED w D W0 lv d3 d4 W) (hD : w.heap.size + 5 ≤ D) : ED w D W0 lv d3 d4 (W.setCell ⟨w.heap.size, 0, none⟩ (.slice none 0 0)) := by
 obtain ⟨k1, k2, k3⟩ := setCell_low (D := D) (p := w.heap.size) (o := 0) (u := .slice none 0 0) h.later (by omega) (by omega)
 exact ⟨k1, by simpa using h.big, one_set h.r0, (k3 _ (by omega)).trans h.r1, (k3 _ (by omega)).trans h.r2, (k3 _ (by omega)).trans h.s, h.kf.trans k2⟩
theorem ED.set1 {w : World} {D : Nat} {W0 W : World} {lv : Value} {d4 : Bool} (h : ED w D W0 lv false d4 W) (hD : w.heap.size + 5 ≤ D) : ED w D W0 lv true d4 (W.setCell ⟨w.heap.size + 1, 0, none⟩ (.int .i64 4096)) := by
 obtain ⟨k1, k2, k3⟩ := setCell_low (D := D) (p := w.heap.size + 1) (o := 0) (u := .int .i64 4096) h.later (by omega) (by omega)
 exact ⟨k1, by simpa using h.big, (k3 _ (by omega)).trans h.r0, one_set h.r1, (k3 _ (by omega)).trans h.r2, (k3 _ (by omega)).trans h.s, h.kf.trans k2⟩
theorem ED.set2 {w : World} {D : Nat} {W0 W : World} {lv : Value} {d3 : Bool} (h : ED w D W0 lv d3 false W) (hD : w.heap.size + 5 ≤ D) : ED w D W0 lv d3 true (W.setCell ⟨w.heap.size + 2, 0, none⟩ (.int .i64 3)) := by
 obtain ⟨k1, k2, k3⟩ := setCell_low (D := D) (p := w.heap.size + 2) (o := 0) (u := .int .i64 3) h.later (by omega) (by omega)
 exact ⟨k1, by simpa using h.big, (k3 _ (by omega)).trans h.r0, (k3 _ (by omega)).trans h.r1, one_set h.r2, (k3 _ (by omega)).trans h.s, h.kf.trans k2⟩
set_option maxRecDepth 100000 in
set_option maxHeartbeats 8000000 in
theorem ParseDone_is (n : Nat) (hn : n ≤ 4097) (w : World) (hw : Laid w) : Calls Tryz.prog 54 #[strV (repL (dzL ++ [10]) n)] w (PDEnd n w) := by
 have hlns := dz_lns n
 have hlen : (repL (dzL ++ [10]) n).length = n * 11 := repL_len _ _
 obtain ⟨l, hl0⟩ : ∃ l, repL (dzL ++ [10]) n = l := ⟨_, rfl⟩
 rw [hl0] at hlns hlen ⊢
 have hl : l.length ≤ 262144 := by omega
 have HLN := Lib.hid (fun w1 => lines_new l w1)
 obtain ⟨T, hT⟩ : ∃ T : ByteArray, T = ⟨l.toArray⟩ := ⟨_, rfl⟩
 have hTs : T.size = l.length := by rw [hT]; simp [ByteArray.size]
 unfold strV at HLN ⊢
 rw [← hT] at HLN ⊢
 obtain ⟨k, hk⟩ : ∃ k, T.size = k := ⟨_, rfl⟩
 have hk1 : ¬ (262144 : Int) < k := by omega
 have hk2 : ¬ 262144 < k := by omega
 have HT := Lib.hid hT
 clear hT hTs hl0 hlen
 refine callsIn_wide.1 (callsIn_of_wp_marks (n := 9) Tryz.func54 rfl trivial (wpIn_wide.2 ?_))
 simp only [Tryz.ntmps54, List.size_toArray, List.length_cons, List.length_nil, Nat.reduceAdd, Nat.reduceSub, Array.replicate_succ, Array.replicate_zero, List.push_toArray, List.append_toArray, List.nil_append, List.cons_append]
 obtain ⟨Q, hQ⟩ : ∃ Q, bodyPostM Fence.wide 9 Tryz.prog Tryz.f54 (PDEnd n w) = Q := ⟨_, rfl⟩
 rw [hQ]
 go_wp2_with fail
 refine (HLN.out _).mono ?_
 rintro e w1 ⟨rfl, hw1⟩
 obtain ⟨B, hB⟩ : ∃ B, w.heap.size = B := ⟨_, rfl⟩
 obtain ⟨D, hD⟩ : ∃ D, B + 5 = D := ⟨_, rfl⟩
 have hsz : w1.heap.size = D := by rw [hw1]; simp; omega
 have hl1 : Later w w1 := by rw [hw1]; exact (((((Later.refl w).alloc _).alloc _).alloc _).alloc _).alloc _
 obtain ⟨q0, q1, q2, q3, q4⟩ := heap5 w _ _ _ _ _ w1 hw1 B hB
 have hPS : DS w D 0 w1 := by
  refine ⟨hl1, by omega, by rw [hB]; exact q0, by rw [hB]; exact q1, by rw [hB]; exact q2, by omega, .slice none 0 0, by rw [hB]; exact q3, World.ownsRow_nil _ _ _ _⟩
 have hTB : w1.cell? ⟨B + 4, 0, none⟩ = some (strV l) ∧ w1.frozen? ⟨B + 4, 0, none⟩ = false := by
  refine ⟨?_, Lib.frozen_of_heap q4 0⟩
  rw [one_cell q4, HT.out]
  rfl
 simp only [World.size_alloc, hB]
 clear hw1
 go_wp2_with fail
 have hD6 : w.heap.size + 5 ≤ D := by omega
 rw [← hsz] at hPS
 have HLNS := Lib.hid hlns
 clear hlns
 refine (wpIn_wide (n := 9)).1 (wp_range_lines 9 rfl (B + 4) l hl (by rfl) (by omega) hTB.1 hTB.2 (fun pre W => DS w w1.heap.size pre.length W)
  (DX n w w1.heap.size) (fun pre x a W => DS w w1.heap.size pre.length W ∧ ∃ P7, w1.heap.size ≤ P7 ∧ W.heap[P7]? = some (.cells #[.bool x.2] 4 (0, 0)) ∧ a = ⟨frD B k T (.func (.func 80) #[] #[.pointer (some ⟨B + 1 + 1 + 1 + 1, 0, none⟩)]) (strV x.1) (.pointer (some ⟨P7, 0, none⟩)) (strV x.1) (.bool x.2), []⟩)
  (DS.own (by omega)) (DX.own n (by omega)) ?hAx ?hId ?hIc ?hIm hPS ?hassign ?hbody ?hdone ?hstop)
 case hAx =>
  intro pre x a
  rintro ⟨⟩ W W' row ⟨hp, P7, h1, h2, h3⟩ hg hr
  refine ⟨hp.grown (by omega) row hg hr, P7, h1, ?_, h3⟩
  rw [hg.block P7 (Array.getElem?_eq_some_iff.1 h2).1 (fun e => by
   obtain ⟨_, o, ho, hc⟩ := hr P7 e.symm
   rw [h2] at ho
   cases ho
   cases hc)]
  exact h2
 case hId => exact fun pre W j h => h.grown (by omega) none ⟨rfl, rfl, rfl, Nat.le_refl _, fun _ _ _ => rfl⟩ (fun r e => by cases e)
 case hIc => exact fun pre W v h => h.other (by omega) (B + 4) (by omega) (by omega) ⟨rfl, rfl, rfl, by simp, fun i hi hb => Below.heap_setCell _ _ _ _ (by simpa using hb)⟩
 case hIm => exact fun pre W h => (hw.later h.later).2.2
 case hstop =>
  rintro D2 W hD2 ⟨h0, hlW, hbW, k0, k1, k2⟩ hK
  rw [← hQ]
  refine ret54 (PDEnd n w) _ W D2 w.heap.size (w.heap.size + 1) (w.heap.size + 2) _ 4096 3 (by rw [hB]; rfl) (by rw [hB]; rfl) (by rw [hB]; rfl) rfl hK k0 k1 k2 ?_
  refine ⟨⟨hlW.os, hlW.tape, hlW.output, by have := hlW.size; simpa [World.putObj] using this, fun i hi => (World.putObj_heap_other (by omega)).trans (hlW.block i hi)⟩, ?_⟩
  rw [if_pos h0]
 case hassign =>
  intro lc pre x suf W K hi hx hK
  have HK := Lib.hid hK
  have HI := Lib.hid hi
  have HX := Lib.hid hx
  obtain ⟨X1, hX1⟩ : ∃ X1, strV x.1 = X1 := ⟨_, rfl⟩
  obtain ⟨b2, hb2⟩ : ∃ b2, x.2 = b2 := ⟨_, rfl⟩
  rw [hX1, hb2, fold2d]
  clear hK hi hx
  refine wpIn_seq_k fun K1 hK1 => ?_
  refine wpIn_reg (by simp [noDefer]) (fun ⟨_, _, h⟩ => h) ?_
  show wpList _ _ _ _ ⟨frD B k T (.func (.func 80) #[] #[.pointer (some ⟨B + 1 + 1 + 1 + 1, 0, none⟩)]) undef undef X1 (.bool b2), []⟩ W
  unfold frD
  go_wp2_with fail
  refine wpIn_reg (by simp [noDefer]) (fun ⟨_, _, h⟩ => h) ?_
  go_wp2_with fail
  have hPW := HI.out
  have hWs := hPW.big
  have hk1 : KeepsFrom w1.heap.size W (W.alloc (.cells #[.bool b2] 4)) := (KeepsOthers.alloc W _).from _
  have hbk : (W.alloc (.cells #[.bool b2] 4)).heap[B + 4]? = W.heap[B + 4]? := heap_alloc_lt _ _ _ (by omega)
  refine HK.out _ _ hk1 ⟨World.cell?_of_block (a := ⟨B + 4, 0, none⟩) hbk, World.frozen?_of_block (a := ⟨B + 4, 0, none⟩) hbk⟩ ⟨hPW.grown (by omega) none (World.grownBy_alloc W _ none) (fun r e => by cases e), W.heap.size, hWs, ?_, ?_⟩
  ·rw [hb2]; exact (MapKept.heap_alloc W _).1
  ·rw [hX1, hb2]; rfl
 case hdone =>
  rintro D2 W hD2 hps hK
  rw [HLNS.out, List.length_replicate] at hps
  have hbg := hps.big
  obtain ⟨hlW, hbW, r0, r1, r2, hcap, lv, hS, ho1⟩ := hps
  rw [hB] at r0 r1 r2 hS
  obtain ⟨la, lc, rfl⟩ := slice_of_own ho1
  have s0 := one_cell hS
  have g0 := Lib.frozen_of_heap r0 0
  have g1 := Lib.frozen_of_heap r1 0
  have g2 := Lib.frozen_of_heap r2 0
  have e0 := one_cell r0
  have e1 := one_cell r1
  have e2 := one_cell r2
  have HH := Lib.hid (And.intro hlW (And.intro r0 (And.intro r1 (And.intro r2 (And.intro ho1 hK)))))
  clear hlW r0 r1 r2 hS ho1 hK
  go_wp2_with fail
  obtain ⟨hlW, r0, r1, r2, ho1, hK⟩ := HH.out
  have hD2' : D ≤ D2 := by omega
  have hbig : D2 < W.heap.size := (Array.getElem?_eq_some_iff.1 hK).1
  obtain ⟨W6, hW6⟩ : ∃ W6, ((W.setCell ⟨B, 0, none⟩ (.slice la n lc)).setCell ⟨B + 1, 0, none⟩ (.int .i64 0)).setCell ⟨B + 1 + 1, 0, none⟩ (.int .i64 0) = W6 := ⟨_, rfl⟩
  have hk6 : Exc [B, B + 1, B + 1 + 1] W W6 := by
   rw [← hW6]
   exact ((Exc.setCell W B _ (by simp)).trans (Exc.setCell _ (B + 1) _ (by simp))).trans (Exc.setCell _ (B + 1 + 1) _ (by simp))
  have v0 : W6.heap[B]? = some (.cells #[.slice la n lc] 101 (0, 0)) := by
   rw [← hW6, Below.heap_setCell _ _ _ _ (by simp; omega), Below.heap_setCell _ _ _ _ (by simp)]
   exact one_set r0
  have v1 : W6.heap[B + 1]? = some (.cells #[.int .i64 0] 3 (0, 0)) := by
   rw [← hW6, Below.heap_setCell _ _ _ _ (by simp)]
   exact one_set (by rw [Below.heap_setCell _ _ _ _ (by simp)]; exact r1)
  have v2 : W6.heap[B + 1 + 1]? = some (.cells #[.int .i64 0] 24 (0, 0)) := by
   rw [← hW6]
   exact one_set (by rw [Below.heap_setCell _ _ _ _ (by simp), Below.heap_setCell _ _ _ _ (by simp; omega)]; exact r2)
  have hK6 : W6.heap[D2]? = some (.deferred (some [])) := (hk6.block D2 hbig (by simp; omega)).trans hK
  have hl6 : Later w W6 := hk6.later hlW (by simp; omega)
  have hown : (W6.putObj D2 (.deferred none)).ownsRow w.heap.size 106 21 (.slice la n lc) n (dzC n) := by
   have h1 : W6.ownsRow w1.heap.size 106 21 (.slice la n lc) n (dzC n) := by
    rcases ho1.2 with hv | ⟨g, cap, cur, e1, e2, e3, e4⟩
    ·exact ⟨ho1.1, .inl hv⟩
    ·exact ⟨ho1.1, .inr ⟨g, cap, cur, e1, e2, (hk6.block g (Array.getElem?_eq_some_iff.1 e3).1 (by simp; omega)).trans e3, e4⟩⟩
   have h2 := later_row h1 (some D2) (grownBy_putObj' W6 D2 (.deferred none)) (fun r e => by cases e; exact ⟨_, hK6, rfl⟩)
   exact ownsRow_mono h2 (by omega)
  rw [hW6, ← hQ]
  refine ret54 (PDEnd n w) _ W6 D2 B (B + 1) (B + 1 + 1) (.slice la n lc) 0 0 rfl rfl rfl rfl hK6 v0 v1 v2 ?_
  refine ⟨⟨hl6.os, hl6.tape, hl6.output, by have := hl6.size; simpa [World.putObj] using this, fun i hi => (World.putObj_heap_other (by omega)).trans (hl6.block i hi)⟩, ?_⟩
  rw [if_neg (by omega)]
  exact ⟨_, rfl, hown⟩
 case hbody =>
  rintro lc pre x suf a' W ⟨hps, P7, hP7, h7, rfl⟩ hx
  have hrm := rep_mid (HLNS.out.symm.trans hx)
  obtain ⟨hxe, hpl⟩ := hrm
  subst hxe
  have hout : ¬ LetsOut (lnPost w1.heap.size (B + 4) (DS w w1.heap.size (pre ++ [(dzL, true)]).length) (DX n w w1.heap.size) W) := lnPost_out
  obtain ⟨Q0, hQ0⟩ : ∃ Q0, lnPost w1.heap.size (B + 4) (DS w w1.heap.size (pre ++ [(dzL, true)]).length) (DX n w w1.heap.size) W = Q0 := ⟨_, rfl⟩
  rw [hQ0] at hout ⊢
  refine wpIn_block ?_
  refine wpIn_seq_k fun K1 hK1 => ?_
  refine wpIn_reg (by simp [noDefer]) (fun ⟨a, w, h⟩ => hout ⟨a, w, h⟩) ?_
  unfold frD
  have HSP := Lib.hid (split_sp dzL (by decide) W (hw.later hps.later))
  obtain ⟨S, hS⟩ : ∃ S : ByteArray, ⟨dzL.toArray⟩ = S := ⟨_, rfl⟩
  unfold strV
  rw [hS] at HSP ⊢
  obtain ⟨ws, hws⟩ : ∃ ws, spl dzL = ws := ⟨_, rfl⟩
  rw [hws] at HSP
  obtain ⟨m, hm⟩ : ∃ m, ws.length = m := ⟨_, rfl⟩
  rw [hm] at HSP
  go_wp2_with fail
  refine HSP.out.mono ?_
  rintro e w2 ⟨rfl, hw2⟩
  go_wp2_with fail
  refine wpIn_seq_k fun K2 hK2 => ?_
  refine wpIn_reg (by simp [noDefer]) (fun ⟨a, w, h⟩ => hout ⟨a, w, h⟩) ?_
  go_wp2_with fail
  obtain ⟨L, hL⟩ : ∃ L, W.heap.size = L := ⟨_, rfl⟩
  obtain ⟨W4, hW4⟩ : ∃ W4, W4 = (((W.alloc (.cells (wsC (spl dzL)).toArray 9)).alloc (.cells (reqRow req0 (.slice (some ⟨L, 0, none⟩) (spl dzL).length (spl dzL).length)) 83)).alloc (.cells #[.pointer (some ⟨L + 1, 0, none⟩)] 74)).alloc (.cells doneZ 106) := ⟨_, rfl⟩
  obtain ⟨hp1, hl4, hs4⟩ := d1_new W (hw.later hps.later) L P7 hL h7 W4 hW4
  rw [hws, hm] at hW4
  simp only [reqRow, req0, strV, doneZ] at hW4
  rw [hL, ← hW4]
  have HT4 := Lib.hid (try_done (L + 1) (L + 2) P7 (L + 2) (L + 3) W4 hp1)
  have HB := Lib.hid hB
  have HSZ := Lib.hid (show w.heap.size + 5 ≤ w1.heap.size by omega)
  have HL4 := Lib.hid (And.intro hl4 (And.intro hs4 (And.intro (show L + 3 < W4.heap.size by omega) hL)))
  have HPS := Lib.hid hps
  have HN := Lib.hid (And.intro hn hpl)
  have hmf : ∀ (fn : Fn) (first cap : Array Value) (w : World), (Instr.makeFunc fn first cap).run Tryz.prog w = .ok (.func fn first cap) w := fun _ _ _ _ => rfl
  clear hW4 hp1 hl4 hs4 hps hn hpl hx hL hB hsz hD hD6 hTB h7 HSP
  refine wpIn_seq_k fun K3 hK3 => ?_
  refine wpIn_reg (by simp [noDefer]) (fun ⟨a, w, h⟩ => hout ⟨a, w, h⟩) ?_
  go_wp2_with fail
  refine HT4.out.mono ?_
  rintro e w5 (⟨rfl, w6, ⟨hex, hz⟩, rfl⟩ | ⟨rfl, w6, hf, rfl⟩)
  rotate_left
  ·exact hf.elim
  have hs6 : W4.heap.size + 1 ≤ w6.heap.size := by have := hex.size; simpa using this
  obtain ⟨V, hV⟩ : ∃ V, w6.setCell ⟨W4.heap.size, 0, none⟩ (.bool true) = V := ⟨_, rfl⟩
  have hlate : Later W V := by
   rw [← hV]
   have h1 := HL4.out.1
   have h2 := HL4.out.2
   refine (hex.later (h1.alloc _) (fun b hb => ?_)).setCell _ _ (by show W.heap.size ≤ W4.heap.size; omega)
   simp at hb; omega
  have h9 : V.heap[L + 3]? = some (.cells doneZ 106 (0, 0)) := by
   rw [← hV, Below.heap_setCell _ _ _ _ (by have h2 := HL4.out.2; simp; omega)]
   exact hz
  rw [hV]
  have hmid := HPS.out.after HSZ.out hlate
  obtain ⟨lv, hS, hown⟩ := hmid.st
  obtain ⟨la, lcap, rfl⟩ := slice_of_own hown
  have s0 := one_cell hS
  rw [HB.out] at s0
  obtain ⟨q, hq⟩ : ∃ q, pre.length = q := ⟨_, rfl⟩
  rw [hq] at s0
  have HM := Lib.hid (And.intro hmid (And.intro hS (And.intro hown (And.intro h9 hlate))))
  have HQ := Lib.hid hq
  clear hlate h9 hV hs6 hex hz hmid hS hown HT4 hmf hq
  go_wp2_with fail
  refine wpIn_seq_k fun K5 hK5 => ?_
  refine wpIn_block ?_
  refine wpIn_seq_k fun K6 hK6 => ?_
  refine wpIn_reg (by simp [noDefer]) (fun ⟨a, w, h⟩ => hout ⟨a, w, h⟩) ?_
  go_wp2_with fail
  refine wpIn_cond_false rfl ?_
  refine wpIn_seq_k fun K7 hK7 => ?_
  refine wpIn_reg (by simp [noDefer]) (fun ⟨a, w, h⟩ => hout ⟨a, w, h⟩) ?_
  by_cases hq6 : q = 4096
  ·subst hq6
   have HED := Lib.hid (show ED w w1.heap.size W (.slice la 4096 lcap) false false V by
    have hm := HM.out.1
    have hs := HM.out.2.1
    rw [HQ.out] at hs
    exact ⟨hm.later, hm.big, hm.r0, hm.r1, hm.r2, hs, KeepsFrom.of_later HM.out.2.2.2.2⟩)
   have HN9 := Lib.hid (show n = 4097 by have := HN.out; have := HQ.out; omega)
   go_wp2_with fail
   refine wpIn_cond_true rfl ?_
   refine wpIn_seq_k fun K8 hK8 => ?_
   refine wpIn_reg_iv rfl (by simp [noDefer]) (fun ⟨a, w, h⟩ => hout ⟨a, w, h⟩) (fun D' a' W' => ∃ x33 x34, a' = ⟨#[.string T, undef, .pointer (some ⟨B, 0, none⟩), .pointer (some ⟨B + 1, 0, none⟩), .pointer (some ⟨B + 1 + 1, 0, none⟩), .pointer (some ⟨B + 1 + 1 + 1, 0, none⟩), .string S, .pointer (some ⟨P7, 0, none⟩), .pointer (some ⟨L + 1 + 1, 0, none⟩), .pointer (some ⟨L + 1 + 1 + 1, 0, none⟩), .bool true, .string T, .int .i64 k, .bool false, .string T, .func (.func 80) #[] #[.pointer (some ⟨B + 1 + 1 + 1 + 1, 0, none⟩)], .string S, .bool true, .string S, .slice (some ⟨L, 0, none⟩) m m, rdV L m, .pointer (some ⟨L + 1, 0, none⟩), .func (.func 86) #[] #[.pointer (some ⟨P7, 0, none⟩), .pointer (some ⟨L + 1 + 1, 0, none⟩), .pointer (some ⟨L + 1 + 1 + 1, 0, none⟩)], .bool true, .bool false, .bool true, .bool false, undef, undef, .bool true, .slice la 4096 lcap, .int .i64 4096, .bool true, x33, x34, undef, undef, undef, undef, undef], []⟩ ∧ (ED w w1.heap.size W (.slice la 4096 lcap) (D' 3) (D' 4) W') ∧ (D' 0 = true → x33 = .slice la 4096 lcap) ∧ (D' 1 = true → x34 = .int .i64 4096)) (by kernel_rfl) ?_ ?_ ?_
   ·exact ⟨undef, undef, rfl, HED.out.drew, (fun h => by cases h), (fun h => by cases h)⟩
   ·intro i D' a' W' hi hDi hdep hcl hI
    obtain ⟨x33, x34, rfl, gE, f0, f1⟩ := hI
    have hi' : i = 0 ∨ i = 1 ∨ i = 2 ∨ i = 3 ∨ i = 4 := by
     have : i < 5 := hi
     omega
    rcases hi' with rfl | rfl | rfl | rfl | rfl
    ·have HEE := Lib.hid gE
     have e0 := one_cell gE.r0
     have e1 := one_cell gE.r1
     have e2 := one_cell gE.r2
     have e3 := one_cell gE.s
     have z0 := Lib.frozen_of_heap gE.r0 0
     have z1 := Lib.frozen_of_heap gE.r1 0
     have z2 := Lib.frozen_of_heap gE.r2 0
     rw [HB.out] at e0 e1 e2 e3 z0 z1 z2
     clear gE
     refine wpOp_step rfl (fun K' hK' => ?_)
     rw [if_pos (by rfl)]
     go_simp
     exact hK' _ _ ⟨_, x34, rfl, HEE.out, (fun _ => rfl), f1⟩
    ·have HEE := Lib.hid gE
     have e0 := one_cell gE.r0
     have e1 := one_cell gE.r1
     have e2 := one_cell gE.r2
     have e3 := one_cell gE.s
     have z0 := Lib.frozen_of_heap gE.r0 0
     have z1 := Lib.frozen_of_heap gE.r1 0
     have z2 := Lib.frozen_of_heap gE.r2 0
     rw [HB.out] at e0 e1 e2 e3 z0 z1 z2
     clear gE
     have q0 := f0 (hdep 0 (by kernel_rfl))
     subst q0
     refine wpOp_step rfl (fun K' hK' => ?_)
     rw [if_pos (by rfl)]
     go_simp
     exact hK' _ _ ⟨_, _, rfl, HEE.out, (fun _ => rfl), (fun _ => rfl)⟩
    ·have HEE := Lib.hid gE
     have e0 := one_cell gE.r0
     have e1 := one_cell gE.r1
     have e2 := one_cell gE.r2
     have e3 := one_cell gE.s
     have z0 := Lib.frozen_of_heap gE.r0 0
     have z1 := Lib.frozen_of_heap gE.r1 0
     have z2 := Lib.frozen_of_heap gE.r2 0
     rw [HB.out] at e0 e1 e2 e3 z0 z1 z2
     clear gE
     have HS := Lib.hid (show ED w w1.heap.size W (.slice la 4096 lcap) (D' 3) (D' 4) (W'.setCell ⟨B, 0, none⟩ (.slice none 0 0)) by have := HEE.out.set0 HSZ.out; rwa [HB.out] at this)
     refine wpOp_step rfl (fun K' hK' => ?_)
     rw [if_pos (by rfl)]
     go_simp
     exact hK' _ _ ⟨x33, x34, rfl, HS.out, f0, f1⟩
    ·have HEE := Lib.hid gE
     have e0 := one_cell gE.r0
     have e1 := one_cell gE.r1
     have e2 := one_cell gE.r2
     have e3 := one_cell gE.s
     have z0 := Lib.frozen_of_heap gE.r0 0
     have z1 := Lib.frozen_of_heap gE.r1 0
     have z2 := Lib.frozen_of_heap gE.r2 0
     rw [HB.out] at e0 e1 e2 e3 z0 z1 z2
     clear gE
     have q1 := f1 (hdep 1 (by kernel_rfl))
     subst q1
     have HS := Lib.hid (show ED w w1.heap.size W (.slice la 4096 lcap) true (D' 4) (W'.setCell ⟨B + 1, 0, none⟩ (.int .i64 4096)) by
      have h3 := HEE.out
      rw [hDi] at h3
      have := h3.set1 HSZ.out
      rwa [HB.out] at this)
     have HF0 := Lib.hid f0
     clear f0 f1
     refine wpOp_step rfl (fun K' hK' => ?_)
     rw [if_pos (by rfl)]
     go_simp
     exact hK' _ _ ⟨x33, _, rfl, HS.out, HF0.out, (fun _ => rfl)⟩
    ·have HEE := Lib.hid gE
     have e0 := one_cell gE.r0
     have e1 := one_cell gE.r1
     have e2 := one_cell gE.r2
     have e3 := one_cell gE.s
     have z0 := Lib.frozen_of_heap gE.r0 0
     have z1 := Lib.frozen_of_heap gE.r1 0
     have z2 := Lib.frozen_of_heap gE.r2 0
     rw [HB.out] at e0 e1 e2 e3 z0 z1 z2
     clear gE
     have HS := Lib.hid (show ED w w1.heap.size W (.slice la 4096 lcap) (D' 3) true (W'.setCell ⟨B + 1 + 1, 0, none⟩ (.int .i64 3)) by
      have h3 := HEE.out
      rw [hDi] at h3
      have := h3.set2 HSZ.out
      rwa [HB.out] at this)
     have HF0 := Lib.hid (And.intro f0 f1)
     clear f0 f1
     refine wpOp_step rfl (fun K' hK' => ?_)
     rw [if_pos (by rfl)]
     go_simp
     exact hK' _ _ ⟨x33, x34, rfl, HS.out, HF0.out.1, HF0.out.2⟩
   ·rintro D' a' W' hD' ⟨x33, x34, rfl, gE, f0, f1⟩
    have d3 := hD' 3 (by decide)
    have d4 := hD' 4 (by decide)
    rw [d3, d4] at gE
    refine hK8 _ _ (wpIn_ret ?_)
    show Q0 .ret _ _
    rw [← hQ0]
    exact ⟨gE.kf, HN9.out, gE.later, gE.big, gE.r0, gE.r1, gE.r2⟩
  ·have hq7 : q < 4096 := by have := HM.out.1.cap; have := HQ.out; omega
   have d5 : ((q : Int) == 4096) = false := by simp; omega
   go_wp2_with fail
   refine wpIn_cond_false rfl ?_
   refine wpIn_skip (hK5 _ _ ?_)
   refine wpIn_reg (by simp [noDefer]) (fun ⟨a, w, h⟩ => hout ⟨a, w, h⟩) ?_
   obtain ⟨i0, hi, hz0, hz1, hz2⟩ := info_parts infoD
   have HOWN := Lib.hid (show V.ownsRow w1.heap.size 106 21 (.slice la q lcap) q (dzC q) by have h := HM.out.2.2.1; rw [HQ.out] at h; exact h)
   have hVb := HM.out.1.big
   obtain ⟨A, hA⟩ : ∃ A, doneZ = A := ⟨_, rfl⟩
   have HAE := Lib.hid hA
   have HAL := Lib.hid (show A = #[.int .i64 0, .int .i64 0, .int .i64 0, .int .i64 0, .int .i64 0, .string ⟨#[]⟩, .slice none 0 0, .int .i64 0, .int .u32 0, .int .u8 0, .int .u64 0, .int .u64 0, .int .u64 0, .int .u64 0, .int .u64 0, .int .u64 0, .int .u64 0, .int .u64 0, .int .u64 0, .int .u64 0, .complex .f64 0 0] from hA.symm)
   have HRG := Lib.hid (show V.rangeAt (L + 3) 0 A.toList from fun j u hj => by
    rw [Nat.zero_add, Lib.cell_of_heap HM.out.2.2.2.1, hA, ← Array.getElem?_toList]
    exact hj)
   have HDL := Lib.hid (show (Tryz.prog.info? 106).map (·.size) = some A.toList.length by rw [← hA]; exact doneZ_info)
   clear hA
   go_wp2_with (first | (refine wpList_load_mid rfl 106 (.tmp 9) rfl (L + 3) 0 rfl A.toList _ HRG.out Tryz.underlying106 rfl HDL.out ?_; rw [Array.toArray_toList, HAL.out]) | (at_builtin; refine wpList_append_own _ rfl _ _ 101 rfl w1.heap.size 106 i0 _ 21 192 Tryz.underlying101 hi hz0 hz1 hz2 rfl (by decide) _ _ _ rfl (HOWN.out.alloc _) ⟨V.heap.size, 0, none⟩ 1 1 A.toList rfl ?c1 ?c2 ?c2b ?c3 ?c4 ?c5 ?_))
   case c1 => rw [HAL.out]; rfl
   case c2 =>
    intro j u hu
    rw [addr_add0, Lib.cell_of_heap (MapKept.heap_alloc V _).1, ← Array.getElem?_toList]
    rw [HAL.out] at hu
    exact hu
   case c2b =>
    rw [HAL.out]
    simp [Value.oneCell']
   case c3 => unfold maxLen; omega
   case c4 => omega
   case c5 => simp; omega
   intro s3 W8 hown8 hgrow _
   obtain ⟨a8, c8, rfl⟩ := slice_of_own hown8
   have hVa := Later.alloc (Later.refl V) (.cells #[.int .i64 0, .int .i64 0, .int .i64 0, .int .i64 0, .int .i64 0, .string ⟨#[]⟩, .slice none 0 0, .int .i64 0, .int .u32 0, .int .u8 0, .int .u64 0, .int .u64 0, .int .u64 0, .int .u64 0, .int .u64 0, .int .u64 0, .int .u64 0, .int .u64 0, .int .u64 0, .int .u64 0, .complex .f64 0 0] 106)
   have hmA := HM.out.1.after HSZ.out hVa
   have hSA : (V.alloc (.cells #[.int .i64 0, .int .i64 0, .int .i64 0, .int .i64 0, .int .i64 0, .string ⟨#[]⟩, .slice none 0 0, .int .i64 0, .int .u32 0, .int .u8 0, .int .u64 0, .int .u64 0, .int .u64 0, .int .u64 0, .int .u64 0, .int .u64 0, .int .u64 0, .int .u64 0, .int .u64 0, .int .u64 0, .complex .f64 0 0] 106)).heap[w.heap.size + 3]? = some (.cells #[.slice la q lcap] 101 (0, 0)) := by
    have h := HM.out.2.1
    rw [HQ.out] at h
    exact (hVa.block _ (by have := HSZ.out; omega)).trans h
   rw [HQ.out] at hmA
   have HP := Lib.hid (hmA.push HSZ.out (by omega) hSA (HOWN.out.alloc _) (by rw [HAE.out]; exact hown8) hgrow)
   have hS8 := (hgrow.block (w.heap.size + 3) (by have := HSZ.out; simp; omega) (fun e => by have := (HOWN.out.lt _ e.symm).1; have := HSZ.out; omega)).trans hSA
   have hc8 := one_cell hS8
   have hf8 := Lib.frozen_of_heap hS8 0
   rw [HB.out] at hc8 hf8
   clear hown8 hgrow hVa hmA hSA hS8 hi hz0 hz1 hz2
   go_wp2_with fail
   show Q0 .normal _ _
   rw [← hQ0]
   have hp := HP.out
   rw [HB.out] at hp
   have hkV : KeepsFrom w1.heap.size W (V.alloc (.cells #[.int .i64 0, .int .i64 0, .int .i64 0, .int .i64 0, .int .i64 0, .string ⟨#[]⟩, .slice none 0 0, .int .i64 0, .int .u32 0, .int .u8 0, .int .u64 0, .int .u64 0, .int .u64 0, .int .u64 0, .int .u64 0, .int .u64 0, .int .u64 0, .int .u64 0, .int .u64 0, .int .u64 0, .complex .f64 0 0] 106)) := KeepsFrom.of_later (HM.out.2.2.2.2.trans ((Later.refl V).alloc _))
   have htb : (V.alloc (.cells #[.int .i64 0, .int .i64 0, .int .i64 0, .int .i64 0, .int .i64 0, .string ⟨#[]⟩, .slice none 0 0, .int .i64 0, .int .u32 0, .int .u8 0, .int .u64 0, .int .u64 0, .int .u64 0, .int .u64 0, .int .u64 0, .int .u64 0, .int .u64 0, .int .u64 0, .int .u64 0, .int .u64 0, .complex .f64 0 0] 106)).heap[B + 4]? = W.heap[B + 4]? := by
    refine (HM.out.2.2.2.2.trans ((Later.refl V).alloc _)).block _ ?_
    have := HPS.out.big
    have := HSZ.out
    have := HB.out
    omega
   have htt := hp.2.2.trans htb
   refine ⟨hkV.trans hp.2.1, ⟨World.cell?_of_block (a := ⟨B + 4, 0, none⟩) htt, World.frozen?_of_block (a := ⟨B + 4, 0, none⟩) htt⟩, ?_⟩
   rw [List.length_append, List.length_singleton, HQ.out]
   exact hp.1
end Go.Proofs.YtkbedajbbakihaaGreatDoor
